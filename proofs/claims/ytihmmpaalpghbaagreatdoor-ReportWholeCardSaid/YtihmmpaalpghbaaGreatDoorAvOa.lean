/- Maps to which entries are added, walks over them; rows cut short, rows of zeros. -/
import Derived.Test.YtihmmpaalpghbaaGreatDoorAvO
set_option linter.unusedSimpArgs false
set_option linter.unusedVariables false
namespace Go.Av
open Go
set_option linter.unusedSectionVars false
variable [Globs]
section
variable {C : Cx} {A : M} {a : Act} {w : World} {S : Nat → Prop} {μ : Mu} {ν : Nat → Bool}
theorem kind_map {P : Program} {t k e : Nat} (h : kindOK P t (.map k e) = true) : P.underlying t = some (.map k e) := by
 simp only [kindOK] at h
 split at h
 ·rename_i x; simp only [Bool.and_eq_true, beq_iff_eq] at h; obtain ⟨rfl, rfl⟩ := h; exact x
 ·cases h
theorem Sim.writeW (h : Sim C A a w S μ ν) {κ g cap : Nat} {b b' : Blk} {w' : World} (hκ : A.lb κ = some b) (hμ : μ κ = some (some (g, cap))) (hk : Kept w w' (fun q => q = g)) (hb : BlkAt w' S μ b' g cap) : Sim C (A.set κ (some b')) a w' S μ ν := by
 have hno := h.mem κ b hκ
 rw [hμ] at hno
 have hns := hno.at.not
 have hw : ∀ q, S q → w'.heap[q]? = w.heap[q]? := fun q hq => hk.block q (h.bound q hq) (fun e => hns (e ▸ hq))
 refine ⟨h.tmps, h.defers, fun t => (h.slots t).mono (fun _ x => x) hw (fun _ _ x => x), fun κ' b'' hb'' => ?_, fun κ1 κ2 b1 b2 g' c c' h1 h2 h3 h4 => ?_, fun κ' b'' g' c h1 h2 => ?_, h.stable, h.fresh, fun q hq => Nat.lt_of_lt_of_le (h.bound q hq) hk.size, ?_⟩
 ·simp only [M.set] at hb''
  by_cases c : κ' = κ
  ·simp only [c, if_true, Option.some.injEq] at hb''
   subst hb''
   rw [c, hμ]
   exact hb.ok
  ·simp only [c, if_false] at hb''
   have hm := h.mem κ' b'' hb''
   refine hm.mono (fun _ x => x) hw (fun _ _ x => x) (fun g' cc e => ?_)
   have hmm := hm
   rw [e] at hmm
   exact ⟨hk.block g' hmm.at.lt (fun eg => c (h.inj κ' κ b'' b g' cc cap hb'' hκ e (by rw [eg]; exact hμ))), hmm.at.not⟩
 ·have q1 : ∃ x, A.lb κ1 = some x := by
   simp only [M.set] at h1
   by_cases c : κ1 = κ
   ·rw [c]; exact ⟨b, hκ⟩
   ·simp only [c, if_false] at h1; exact ⟨_, h1⟩
  have q2 : ∃ x, A.lb κ2 = some x := by
   simp only [M.set] at h2
   by_cases c : κ2 = κ
   ·rw [c]; exact ⟨b, hκ⟩
   ·simp only [c, if_false] at h2; exact ⟨_, h2⟩
  obtain ⟨x1, q1⟩ := q1
  obtain ⟨x2, q2⟩ := q2
  exact h.inj κ1 κ2 x1 x2 g' c c' q1 q2 h3 h4
 ·have q1 : ∃ x, A.lb κ' = some x := by
   simp only [M.set] at h1
   by_cases c : κ' = κ
   ·rw [c]; exact ⟨b, hκ⟩
   ·simp only [c, if_false] at h1; exact ⟨_, h1⟩
  obtain ⟨x1, q1⟩ := q1
  exact h.own κ' x1 g' c q1 h2
 ·refine h.kept.trans hk (fun q hq e => ?_)
  subst e
  rcases h.own κ b q cap hκ hμ with h1 | h1
  ·omega
  ·exact h1
def World.setO (w : World) (r : Nat) (o : Obj) : World := { w with heap := w.heap.setIfInBounds r o }
def notRow : Obj → Bool
 | .cells _ _ _ => false
 | _ => true
theorem run_getO {P : Program} {r : Nat} {o : Obj} (h : w.heap[r]? = some o) (hn : notRow o = true := by rfl) : (getObj r).run P w = .ok o w := by
 cases o <;> first | (simp [notRow] at hn; done) | simp [getObj, Sem.run, h]
theorem run_setO {P : Program} {r : Nat} {x : Obj} (o : Obj) (h : w.heap[r]? = some x) (hn : notRow x = true := by rfl) : (setObj r o).run P w = .ok () (World.setO w r o) := by
 cases x <;> first | (simp [notRow] at hn; done) | simp [setObj, Sem.run, h, World.setO]
theorem setO_kept (r : Nat) (o : Obj) : Kept w (World.setO w r o) (fun q => q = r) := ⟨rfl, rfl, rfl, by simp [World.setO], fun q _ hq => by
 have : ¬ r = q := fun e => hq e.symm
 simp [World.setO, Array.getElem?_setIfInBounds, this]⟩
theorem setO_at {r : Nat} {x : Obj} (o : Obj) (h : w.heap[r]? = some x) : (World.setO w r o).heap[r]? = some o := by
 have hr := (Array.getElem?_eq_some_iff.1 h).1
 simp [World.setO, hr]
def keyNeB : Value → Value → Bool
 | .int k a, .int k' b => decide (k = k') && !(a == b)
 | _, _ => false
theorem findNow_ne {kk : IntKind} {kv : Value} : ∀ (es : List MapEntry) (i : Nat), (∀ e, e ∈ es → keyNeB kv e.key = true) → (∃ k n, kv = .int k n) → Instr.findNow (.int kk) kv es i = some none
 | [], _, _, _ => rfl
 | e :: es, i, h, hv => by
  have h1 := h e (by simp)
  obtain ⟨k, n, rfl⟩ := hv
  have ih := findNow_ne (kk := kk) es (i + 1) (fun x hx => h x (by simp [hx])) ⟨k, n, rfl⟩
  cases hk : e.key with
  | int k' m =>
   rw [hk] at h1
   simp only [keyNeB, Bool.and_eq_true, decide_eq_true_eq, Bool.not_eq_true'] at h1
   obtain ⟨rfl, h2⟩ := h1
   simp only [Instr.findNow, Instr.sameNow, hk, if_true, h2]
   exact ih
  | _ => rw [hk] at h1; simp [keyNeB] at h1
structure R where
 v : AV
 ro : List (Nat × Blk)
 mem : List (Nat × Blk)
 mem' : List (Nat × Blk)
 ob : Ob
theorem run_checkKey_int {P : Program} {b : Bool} {kt : TypeId} {ik kk : IntKind} {n : Int} (huk : P.underlying kt = some (.int ik)) (q : Nat) : (Instr.checkKey b (q + 1) kt (.int kk n)).run P w = .ok () w := by
 rw [Instr.checkKey]
 simp [run_underlying huk]
theorem run_insert {P : Program} {t kt et : TypeId} {ik kk : IntKind} {n0 : Int} {g clock : Nat} {cur : Array MapEntry} {x : Value} (hu : P.underlying t = some (.map kt et)) (huk : P.underlying kt = some (.int ik)) (hg : w.heap[g]? = some (.map cur clock)) (hf : Instr.findNow (.int ik) (.int kk n0) cur.toList 0 = some none) :
  (Instr.mapUpdate t (.map (some g)) (.int kk n0) x).run P w = .ok () (World.setO w g (.map (cur.push { key := .int kk n0, val := x, born := clock }) (clock + 1))) := by
 unfold Instr.mapUpdate
 simp only [Sem.run_bind, run_underlying hu, Result.andThen_ok, run_getO hg, run_checkKey_int huk 9999, Instr.findKey, run_underlying huk, hf, Sem.run_pure, run_setO _ hg]
def evMore (T : List (Nat × TI)) (lb : List (Nat × Blk)) (ρ : Operand → Option AV) (dst : Option Nat) (quiet : Bool) : Op → Option R
 | .makeMap _ none => (match quiet, dst with
  | false, some d => some ⟨.mpv d, [], [], [(d, .mp 0 fun _ => (.bool false, default))], .tt⟩
  | _, _ => none)
 | .insert t m k x => (match quiet, dst, ρ m, ρ k, ρ x, look T t with
  | false, none, some (.mpv κ), some (.d (.v (.int kk a))), some (.d xd), some { kind := .map kt _, .. } => (match look lb κ, look T kt with
   | some (.mp n f), some { kind := .int _, .. } => some ⟨.any, [], [(κ, .mp n f)], [(κ, .mp (n + 1) fun q => if q < n then f q else (.int kk a, xd))], .be ((List.range n).all fun i => keyNeB (.int kk a) (f i).1) true⟩
   | _, _ => none)
  | _, _, _, _, _, _ => none)
 | .range t m => (match quiet, dst, ρ m, look T t with
  | false, some d, some (.mpv κ), some { kind := .map _ _, .. } => (match look lb κ with
   | some (.mp n f) => bif Nat.beq d κ then none else some ⟨.ptr d 0, [(κ, .mp n f)], [], [(d, .it κ n [])], .tt⟩
   | _ => none)
  | _, _, _, _ => none)
 | .entry it => (match ρ it with
  | some (.ptr κi 0) => (match look lb κi with
   | some (.it κ n (i :: s)) => (match look lb κ with
    | some (.mp n' f) => some ⟨.tup [.d (keyD (f i).1), .d (f i).2], [(κi, .it κ n (i :: s)), (κ, .mp n' f)], [], [], (Ob.ne n n').and (.pr (i < n))⟩
    | _ => none)
   | _ => none)
  | _ => none)
 | .slice t x none (some h) none => (match quiet, dst, ρ x, ρ h, look T t with
  | false, some d, some (.own κ n), some (.d (.v (.int _ hh))), some { kind := .slice e, .. } => (match look lb κ, look T e with
   | some (.row e' k n' f), some i => bif Nat.beq d κ || !Nat.beq e e' || !Nat.beq k i.size then none else some ⟨.own d hh.toNat, [], [(κ, .row e' k n' f)], [(d, .row e' k hh.toNat f)], (Ob.ne n n').and (.pr (0 ≤ hh ∧ hh ≤ n))⟩
   | _, _ => none)
  | false, some _, some (.d (.v (.slice none 0 0))), some (.d (.v (.int _ hh))), some { kind := .slice e, .. } => (match look T e with
   | some _ => some ⟨.d (.v (.slice none 0 0)), [], [], [], .pr (0 ≤ hh ∧ hh ≤ 0)⟩
   | none => none)
  | _, _, _, _, _ => none)
 | .call { callee := .builtin .cap, args := xs, argTypes := ts } => (match argsOf ρ xs.toList, ts.toList with
  | some [.d (.v (.slice none 0 0))], [t] => (match look T t with
   | some { kind := .slice _, .. } => some ⟨.d (.v (.int .i64 0)), [], [], [], .tt⟩
   | _ => none)
  | _, _ => none)
 | .call { callee := .builtin .append, args := xs, argTypes := ts } => (match quiet, dst, argsOf ρ xs.toList, ts.toList with
  | false, some d, some [.d (.v (.slice none 0 0)), .d (.v (.int .i64 n))], [t, t'] => (match look T t, look T t' with
   | some { kind := .slice e, .. }, some { kind := .int .i64, .. } => (match look T e with
    | some i => some ⟨.own d n.toNat, [], [], [(d, .row e i.size n.toNat fun _ => i.zero)], .pr (0 ≤ n ∧ n.toNat ≤ maxLen ∧ n.toNat * i.bytes ≤ 140737488355328)⟩
    | none => none)
   | _, _ => none)
  | _, _, _, _ => none)
 | .makeSlice t (.const (.int _ z)) (.tmp c) => (match quiet, dst, look T t, ρ (.tmp c) with
  | false, some d, some { kind := .slice e, .. }, some (.d (.v (.int _ m))) => (match look T e with
   | some i => bif decide (z = 0) then some ⟨.own d 0, [], [], [(d, .row e i.size 0 fun _ => i.zero)], .pr (0 ≤ m ∧ m.toNat ≤ maxLen ∧ m.toNat * i.bytes ≤ 140737488355328)⟩ else none
   | none => none)
  | _, _, _, _ => none)
 | _ => none
theorem core_new {o : Oper} {d : Nat} {v : AV} {x : Value} {b : Blk} {w1 : World} {need : List (Nat × AV)} {ro : List (Nat × Blk)} {gs : List (Nat × Bool)} (hs : Sim C A a w S μ ν) (hdst : o.dst = some d) (hdt : d < C.nt) (hf : Fresh A d) (hk : d ∉ b.keys)
  (hrun : (execOp a.eval o).run C.P w = .ok (.value x) w1) (hk1 : Kept w w1 (fun q => q = w.heap.size)) (hb : ∀ c, BlkAt w1 S μ b w.heap.size c) (hv : ∀ μ', μ' d = some (some (w.heap.size, 0)) → Rel w1 S μ' ν v x) :
  o.wp C.P a w (fun a' w' => ∃ S' μ', Sim C ((Tr.mk need (some d) v ro [] [(d, b)] gs).apply A) a' w' S' μ' ν) (fun _ _ _ => False) := by
 unfold Oper.wp
 rw [hrun]
 have hns : ¬ S w.heap.size := fun h => by have := hs.bound _ h; omega
 have h1 := hs.adopt hf (blk := b) (b := w.heap.size) (cap := 0) hk hk1 hns (fun κ' b' g' c q1 q2 e' => by
  have := hs.mem κ' b' q1
  rw [q2] at this
  have := this.at.lt
  omega) (.inl hs.kept.size) (hb 0)
 have h2 := h1.put (dst := some d) (x := v) (v := x) (fun t ht => by cases ht; exact hdt) (hv _ (by simp [muSet]))
 rw [apply_new]
 exact ⟨S, _, by rw [hdst]; exact h2⟩
theorem evMore_sound {T : List (Nat × TI)} (hT : TOk C.P T) (hs : Sim C A a w S μ ν) {lb : List (Nat × Blk)} {o : Oper} {ρ : Operand → Option AV} (hρ : ∀ x y, ρ x = some y → Rel w S μ ν y (a.eval x)) (hd : ∀ t, o.dst = some t → t < C.nt) {quiet : Bool} {r : R}
  (h : evMore T lb ρ o.dst quiet o.op = some r) (hro : ∀ p, p ∈ r.ro → A.lb p.1 = some p.2) (hmem : ∀ p, p ∈ r.mem → A.lb p.1 = some p.2) (hob : r.ob.den) (hfr : ∀ κ, κ ∈ (r.mem'.map (·.1)).filter (fun k => !(r.mem.map (·.1)).contains k) → Fresh A κ) (need : List (Nat × AV)) (gs : List (Nat × Bool)) :
  o.wp C.P a w (fun a' w' => ∃ S' μ', Sim C ((Tr.mk need o.dst r.v r.ro r.mem r.mem' gs).apply A) a' w' S' μ' ν) (fun _ _ _ => False) := by
 unfold evMore at h
 split at h
 all_goals rename_i ho
 ·-- makeMap
  split at h
  ·rename_i d hdst
   simp only [Option.some.injEq] at h
   subst h
   rw [hdst]
   have hns : ¬ S w.heap.size := fun h => by have := hs.bound _ h; omega
   refine core_new hs hdst (hd d hdst) (hfr d (by simp)) (by simp [Blk.keys]) (x := .map (some w.heap.size)) (w1 := w.alloc (.map #[] 0)) ?_ (kept_alloc w _ _) (fun c => ⟨#[], heap_alloc_new w _, hns, rfl, fun i hi => absurd hi (by omega)⟩) (fun μ' hμ => .mpv hμ)
   simp [execOp, ho, Instr.makeMap]
  ·cases h
 ·-- insert
  rename_i t m k x
  split at h
  ·rename_i κ kk n0 xd kt _ _ _ _ _ hdst hm hk hx ht
   split at h
   ·rename_i n f ik _ _ _ _ hl hkt
    simp only [Option.some.injEq] at h
    subst h
    rw [hdst]
    have hκ := hmem (κ, .mp n f) (by simp)
    have hme := hs.mem κ _ hκ
    have hv := hρ _ _ hm
    generalize hmv : a.eval m = mv at hv
    cases hv with
    | @mpv _ g cap hμ =>
     rw [hμ] at hme
     obtain ⟨cur, hg, hns, hsz, hcell⟩ := hme.at
     obtain ⟨ti, z, F⟩ := tiOK_facts (hT _ _ ht)
     obtain ⟨tj, zj, G⟩ := tiOK_facts (hT _ _ hkt)
     have hu := kind_map F.kind
     have huk := kind_int G.kind
     have hkv := rel_int (hρ _ _ hk)
     have hob : (List.range n).all (fun i => keyNeB (.int kk n0) (f i).1) = true := hob
     simp only [List.all_eq_true, List.mem_range] at hob
     have hfind : Instr.findNow (.int ik) (.int kk n0) cur.toList 0 = some none := findNow_ne _ 0 (fun e he => by
      obtain ⟨q, hq, rfl⟩ := List.getElem_of_mem he
      have hqn : q < n := by simpa [hsz] using hq
      obtain ⟨e, h1, h2, _⟩ := hcell q hqn
      have : cur.toList[q] = e := by
       have := Array.getElem?_eq_some_iff.1 h1
       simpa using this.2
      rw [this, h2]
      exact hob q hqn) ⟨kk, n0, rfl⟩
     have hrun : (execOp a.eval o).run C.P w = .ok .skip (World.setO w g (.map (cur.push { key := .int kk n0, val := a.eval x, born := n }) (n + 1))) := by
      have h1 := run_insert (x := a.eval x) hu huk hg hfind
      unfold execOp
      rw [ho]
      simp only [hmv, hkv, Sem.run_bind, h1, Result.andThen_ok, Sem.run_pure]
     unfold Oper.wp
     rw [hrun]
     refine ⟨S, μ, ?_⟩
     rw [apply_write, hdst]
     refine hs.writeW hκ hμ (setO_kept g _) ⟨_, setO_at _ hg, hns, by simp [hsz], fun i hi => ?_⟩
     have hw : ∀ q, S q → (World.setO w g (.map (cur.push { key := .int kk n0, val := a.eval x, born := n }) (n + 1))).heap[q]? = w.heap[q]? := fun q hq => (setO_kept g _).block q (hs.bound q hq) (fun e => hns (e ▸ hq))
     by_cases c : i < n
     ·obtain ⟨e, h1, h2, h3, h4, h5⟩ := hcell i c
      refine ⟨e, ?_, by simp only [c, if_true]; exact h2, h3, h4, by simp only [c, if_true]; exact h5.mono (fun _ x => x) hw⟩
      rw [Array.getElem?_push, if_neg (by omega)]
      exact h1
     ·obtain rfl : i = n := by omega
      refine ⟨_, by rw [Array.getElem?_push, if_pos hsz.symm], by simp only [c, if_false], rfl, rfl, ?_⟩
      simp only [c, if_false]
      exact (rel_d.1 (hρ _ _ hx)).mono (fun _ x => x) hw
   ·cases h
  ·cases h
 ·-- range
  rename_i t m
  split at h
  ·rename_i d κ _ _ _ _ _ _ hdst hm ht
   split at h
   ·rename_i n f hl
    rw [Bool.cond_eq_ite] at h
    split at h
    ·cases h
    ·rename_i hne
     simp only [Option.some.injEq] at h
     subst h
     rw [hdst]
     have hκ := hro (κ, .mp n f) (by simp)
     have hme := hs.mem κ _ hκ
     have hv := hρ _ _ hm
     generalize hmv : a.eval m = mv at hv
     cases hv with
     | @mpv _ g cap hμ =>
      rw [hμ] at hme
      obtain ⟨cur, hg, hns0, hsz, hcell⟩ := hme.at
      obtain ⟨ti, z, F⟩ := tiOK_facts (hT _ _ ht)
      have hu := kind_map F.kind
      have hns : ¬ S w.heap.size := fun h => by have := hs.bound _ h; omega
      have hdk : d ≠ κ := fun e => by rw [e, Nat.beq_refl] at hne; exact hne rfl
      refine core_new hs hdst (hd d hdst) (hfr d (by simp)) (by simp [Blk.keys, hdk]) (x := .pointer (some ⟨w.heap.size, 0, none⟩)) (w1 := w.alloc (.mapIter (some g) n #[] n)) ?_ (kept_alloc w _ _) (fun c => ⟨g, cap, hμ, heap_alloc_new w _, hns⟩) (fun μ' hμ' => .ptr hμ')
      simp [execOp, ho, hmv, Instr.range, run_underlying hu, run_getO hg]
   ·cases h
  ·cases h
 ·-- entry
  rename_i it
  split at h
  ·rename_i κi hit
   split at h
   ·rename_i κ n i s hli
    split at h
    ·rename_i n' f hl
     simp only [Option.some.injEq] at h
     subst h
     have hob : ((Ob.ne n n').and (.pr (i < n))).den := hob
     obtain ⟨o1, o2⟩ := Ob.and_den hob
     have o1 : n = n' := o1
     subst o1
     have o2 : i < n := o2
     have hκi := hro (κi, .it κ n (i :: s)) (by simp)
     have hκ := hro (κ, .mp n f) (by simp)
     have hv := hρ _ _ hit
     generalize hiv : a.eval it = iv at hv
     cases hv with
     | @ptr _ _ gi ci hμi =>
      have hmi := hs.mem κi _ hκi
      rw [hμi] at hmi
      obtain ⟨mg, c, hμ, hgi, hnsi⟩ := hmi.at
      have hme := hs.mem κ _ hκ
      rw [hμ] at hme
      obtain ⟨cur, hg, hns, hsz, hcell⟩ := hme.at
      obtain ⟨e, h1, h2, h3, h4, h5⟩ := hcell i o2
      have hfind : cur.find? (fun x => x.born == i) = some e := by
       rw [Array.find?_eq_some_iff_getElem]
       have hi : i < cur.size := by omega
       refine ⟨by simp [h4], i, hi, (Array.getElem?_eq_some_iff.1 h1).2, fun j hj => ?_⟩
       obtain ⟨e', q1, _, _, q4, _⟩ := hcell j (by omega)
       have : cur[j] = e' := (Array.getElem?_eq_some_iff.1 q1).2
       rw [this, q4]
       simp
       omega
      refine core_value (τ := Tr.mk need o.dst (.tup [.d (keyD (f i).1), .d (f i).2]) [(κi, .it κ n (i :: s)), (κ, .mp n f)] [] [] gs) hs hd (x := .tuple #[e.key, e.val]) ?_ (.tup rfl (fun q hq => ?_)) rfl rfl rfl
      ·simp [execOp, ho, hiv, Instr.entry, run_getO hgi, run_getO hg, hfind]
      ·match q with
       | 0 => simpa [h2] using Rel.d (μ := μ) (ν := ν) (keyD_rd (w := w) (S := S) h3)
       | 1 => simpa using Rel.d (μ := μ) (ν := ν) h5
       | q + 2 => simp at hq; omega
    ·cases h
   ·cases h
  ·cases h
 ·-- slice
  rename_i t x hh0
  split at h
  ·rename_i d κ n kk hh e _ _ _ _ hdst hx hhi ht
   split at h
   ·rename_i e' k n' f i hl hie
    rw [Bool.cond_eq_ite] at h
    split at h
    ·cases h
    ·rename_i hne
     simp only [Bool.or_eq_true, Bool.not_eq_true', not_or, Bool.not_eq_false] at hne
     simp only [Option.some.injEq] at h
     subst h
     rw [hdst]
     have hob : ((Ob.ne n n').and (.pr (0 ≤ hh ∧ hh ≤ n))).den := hob
     obtain ⟨o1, o2, o3⟩ := Ob.and_den hob
     have o1 : n = n' := o1
     subst o1
     have hdk : d ≠ κ := fun e => hne.1.1 (by rw [e, Nat.beq_refl])
     have hκ := hmem (κ, .row e' k n f) (by simp)
     have hme := hs.mem κ _ hκ
     obtain ⟨ti, z, F⟩ := tiOK_facts (hT _ _ ht)
     have hu := kind_slice F.kind
     obtain ⟨te, ze, G⟩ := tiOK_facts (hT _ _ hie)
     have hszr : (sizeOf e).run C.P w = .ok i.size w := by simp [sizeOf, typeInfo, G.info, G.size]
     have hhv := rel_int (hρ _ _ hhi)
     have hf : Fresh A d := hfr d (by simp [hdk])
     have hv := hρ _ _ hx
     generalize hxv : a.eval x = xv at hv
     have hdrop := hs.drop κ
     have hfd := hf.drop κ
     have q1 : ∀ (k : IntKind) (i : Int) (y : Nat) (c : BoundsCode), 0 ≤ i → i ≤ y → (Instr.sliceBound (.int k i) y c).run C.P w = .ok i.toNat w := fun k i y c h0 h1 => run_sliceBound w k i y c h0 h1
     cases hv with
     | @ownNil _ ad hμ =>
      have hh0' : hh = 0 := by omega
      subst hh0'
      unfold Oper.wp
      have hrun : (execOp a.eval o).run C.P w = .ok (.value (.slice ad 0 0)) w := by
       simp (disch := omega) [execOp, ho, hxv, hhv, Instr.sliceAt, run_underlying hu, Instr.slice, Instr.sliceBounds, q1, hszr]
      rw [hrun]
      have h1 := hdrop.adoptNil hfd e' k f
      have h2 := h1.put (dst := some d) (x := .own d 0) (v := .slice ad 0 0) (fun t ht => by cases ht; exact hd d hdst) (.ownNil (by simp [muSet]))
      rw [apply_cons hdk]
      exact ⟨S, _, by rw [hdst]; exact h2⟩
     | @own _ _ g cap hμ =>
      rw [hμ] at hme
      have hns := hme.at.not
      obtain ⟨cur, hg, _, h3, h4, h5, h6⟩ := hme.at
      unfold Oper.wp
      have hcap : hh.toNat ≤ cap := by omega
      have hrun : (execOp a.eval o).run C.P w = .ok (.value (.slice (some ⟨g, 0, none⟩) hh.toNat cap)) w := by
       simp (disch := omega) [execOp, ho, hxv, hhv, Instr.sliceAt, run_underlying hu, Instr.slice, Instr.sliceBounds, q1, hszr, addr_add]
      rw [hrun]
      have h1 := hdrop.adopt hfd (blk := .row e' k hh.toNat f) (b := g) (cap := cap) (w' := w) (by simp [Blk.keys]) (Kept.refl _ _) hns (fun κ' b' g' c q1 q2 e' => by
       simp only [M.set] at q1
       by_cases cc : κ' = κ
       ·simp [cc] at q1
       ·simp only [cc, if_false] at q1
        subst e'
        exact cc (hs.inj κ' κ b' _ g' c cap q1 hκ q2 hμ)) (hs.own κ _ g cap hκ hμ) ⟨cur, hg, hns, h3, hcap, h5, fun q hq => h6 q (by omega)⟩
      have h2 := h1.put (dst := some d) (x := .own d hh.toNat) (v := .slice (some ⟨g, 0, none⟩) hh.toNat cap) (fun t ht => by cases ht; exact hd d hdst) (.own (by simp [muSet]))
      rw [apply_cons hdk]
      exact ⟨S, _, by rw [hdst]; exact h2⟩
   ·cases h
  ·rename_i d kk hh e _ _ _ _ hdst hx hhi ht
   split at h
   ·rename_i i hie
    simp only [Option.some.injEq] at h
    subst h
    have hob : 0 ≤ hh ∧ hh ≤ 0 := hob
    obtain rfl : hh = 0 := by omega
    obtain ⟨ti, z, F⟩ := tiOK_facts (hT _ _ ht)
    have hu := kind_slice F.kind
    obtain ⟨te, ze, G⟩ := tiOK_facts (hT _ _ hie)
    have hszr : (sizeOf e).run C.P w = .ok i.size w := by simp [sizeOf, typeInfo, G.info, G.size]
    have hhv := rel_int (hρ _ _ hhi)
    have hxv := rel_scalar rfl (hρ _ _ hx)
    have q1 : ∀ (k : IntKind) (i : Int) (y : Nat) (c : BoundsCode), 0 ≤ i → i ≤ y → (Instr.sliceBound (.int k i) y c).run C.P w = .ok i.toNat w := fun k i y c h0 h1 => run_sliceBound w k i y c h0 h1
    refine core_value (τ := Tr.mk need o.dst (.d (.v (.slice none 0 0))) [] [] [] gs) hs hd (x := .slice none 0 0) ?_ (rel_v rfl) rfl rfl rfl
    simp (disch := omega) [execOp, ho, hxv, hhv, Instr.sliceAt, run_underlying hu, Instr.slice, Instr.sliceBounds, q1, hszr]
   ·cases h
  ·cases h
 ·-- cap
  rename_i xs ts
  split at h
  ·rename_i t hxs hts
   split at h
   ·rename_i _ _ _ _ _ ht
    simp only [Option.some.injEq] at h
    subst h
    obtain ⟨ti, z, F⟩ := tiOK_facts (hT _ _ ht)
    have hu := kind_slice F.kind
    have hargs := argsOf_rel hρ xs.toList _ hxs
    have hx0 : xs.map a.eval = #[.slice none 0 0] := by
     have hl : (xs.map a.eval).toList.length = 1 := by simpa using hargs.1
     have h0 := hargs.2 0 (by simp)
     have h0 := rel_scalar rfl h0
     apply Array.ext'
     rw [Array.toList_map] at hl ⊢
     match hq : xs.toList.map a.eval, hl with
     | [y], _ => rw [hq] at h0; simpa using h0
    have hts' : ts = #[t] := by cases ts; simpa using hts
    refine core_value (τ := Tr.mk need o.dst (.d (.v (.int .i64 0))) [] [] [] gs) hs hd (x := .int .i64 0) ?_ (rel_v rfl) rfl rfl rfl
    simp [execOp, ho, resolve, invoke, builtin, hx0, hts', Builtin.cap_, run_underlying hu, goInt]
   ·cases h
  ·cases h
 ·-- append of zeros
  rename_i xs ts
  split at h
  ·rename_i d n t t' hdst hxs hts
   split at h
   ·rename_i e _ _ _ _ _ _ _ _ ht ht'
    split at h
    ·rename_i i hie
     simp only [Option.some.injEq] at h
     subst h
     have hob : 0 ≤ n ∧ n.toNat ≤ maxLen ∧ n.toNat * i.bytes ≤ 140737488355328 := hob
     obtain ⟨o1, o2, o3⟩ := hob
     rw [hdst]
     obtain ⟨ti, z, F⟩ := tiOK_facts (hT _ _ ht)
     have hu := kind_slice F.kind
     obtain ⟨ti', z', F'⟩ := tiOK_facts (hT _ _ ht')
     have hu' := kind_int F'.kind
     obtain ⟨te, ze, G⟩ := tiOK_facts (hT _ _ hie)
     have hargs := argsOf_rel hρ xs.toList _ hxs
     have hx0 : xs.map a.eval = #[.slice none 0 0, .int .i64 n] := by
      have hl : (xs.map a.eval).toList.length = 2 := by simpa using hargs.1
      have h0 := rel_scalar rfl (hargs.2 0 (by simp))
      have h1 := rel_scalar rfl (hargs.2 1 (by simp))
      apply Array.ext'
      rw [Array.toList_map] at hl ⊢
      match hq : xs.toList.map a.eval, hl with
      | [y, y'], _ => rw [hq] at h0 h1; simp only [List.getD_cons_zero, List.getD_cons_succ] at h0 h1; rw [h0, h1]
     have hts' : ts = #[t, t'] := by cases ts; simpa using hts
     have hml : n ≤ 9223372036854775807 := by have := o2; simp only [maxLen] at this; omega
     have hwr : IntKind.i64.wrap n = n := IntWalk.i64_in n ⟨by omega, hml⟩
     obtain ⟨q1, q2⟩ := zeroOK_rd (w := w) (S := S) G.zok
     have hzl : ze.cells.size = i.size := by have := q1; simp only [Array.length_toList] at this; rw [this, G.zlen]
     have hf : Fresh A d := hfr d (by simp)
     by_cases h0 : n = 0
     ·subst h0
      have hrun : (execOp a.eval o).run C.P w = .ok (.value (.slice none 0 0)) w := by
       simp [execOp, ho, resolve, invoke, builtin, hx0, hts', Builtin.append_, run_underlying hu, run_underlying hu', sizeOf, typeInfo, G.info, asInt, asIntOf, hwr]
      unfold Oper.wp
      rw [hrun]
      have h1 := hs.adoptNil hf e i.size (fun _ => i.zero)
      have h2 := h1.put (dst := some d) (x := .own d 0) (v := .slice none 0 0) (fun t ht => by cases ht; exact hd d hdst) (.ownNil (by simp [muSet]))
      rw [apply_new]
      exact ⟨S, _, by rw [hdst]; exact h2⟩
     ·have hn1 : 0 < n.toNat := by omega
      have hge := grownCap_ge w n.toNat 0 e
      have hcm : grownCap w n.toNat 0 e ≤ maxLen := grownCap_le_maxLen w n.toNat 0 e o2
      have h48 : ¬ (281474976710656 < Builtin.nextslicecap n.toNat 0 * te.bytes) := by rw [nextslicecap_zero hn1, G.bytes]; omega
      have h48' : ¬ (281474976710656 < n * (te.bytes : Int)) := by
       rw [G.bytes]
       have h1 : ((n.toNat * i.bytes : Nat) : Int) ≤ 140737488355328 := by omega
       rw [Int.natCast_mul, Int.toNat_of_nonneg o1] at h1
       omega
      have hrun : ∃ cells : Array Value, (execOp a.eval o).run C.P w = .ok (.value (.slice (some ⟨w.heap.size, 0, none⟩) n.toNat (grownCap w n.toNat 0 e))) (w.drew.alloc (.cells cells e)) ∧ cells = Builtin.zeroCells ze.cells n.toNat ++ Builtin.zeroCells ze.cells (grownCap w n.toNat 0 e - n.toNat) := by
       refine ⟨_, ?_, rfl⟩
       have hn0 : ¬ n.toNat = 0 := by omega
       have hneg : ¬ n < 0 := by omega
       have hle : ¬ n ≤ 0 := by omega
       have h63 : ¬ (9223372036854775807 < n) := by omega
       have hmx : max n 0 = n := by omega
       by_cases hsz : i.size = 0
       ·have hz0 : ze.cells.size = 0 := by omega
        have hze : Builtin.zeroCells ze.cells n.toNat = #[] := by simp [Builtin.zeroCells, hz0]
        rw [hze]
        simp [execOp, ho, resolve, invoke, builtin, hx0, hts', Builtin.append_, run_underlying hu, run_underlying hu', sizeOf, typeInfo, G.info, asInt, asIntOf, hwr, hneg, hle, h48, h48', h63, hmx, Question.forced, Builtin.firstCells, newRow, grownCap, zeroValue, G.zero, G.size, hsz]
       ·simp [execOp, ho, resolve, invoke, builtin, hx0, hts', Builtin.append_, run_underlying hu, run_underlying hu', sizeOf, typeInfo, G.info, asInt, asIntOf, hwr, hneg, hle, h48, h48', h63, hmx, Question.forced, Builtin.firstCells, newRow, grownCap, zeroValue, G.zero, G.size]
        intro hc
        rcases Nat.mul_eq_zero.1 hc with hc | hc
        ·exact absurd hc hn0
        ·exact absurd hc hsz
      obtain ⟨cells, hrun, hcells⟩ := hrun
      have hcap : cells.size = grownCap w n.toNat 0 e * i.size := by
       rw [hcells]
       simp only [Array.size_append, size_zeroCells, hzl, ← Nat.add_mul]
       congr 1
       omega
      unfold Oper.wp
      rw [hrun]
      have hns : ¬ S w.heap.size := fun h => by have := hs.bound _ h; omega
      have hw : ∀ q, S q → (w.drew.alloc (.cells cells e)).heap[q]? = w.heap[q]? := fun q hq => heap_alloc_old w.drew _ (hs.bound q hq)
      have h1 := hs.adopt hf (blk := .row e i.size n.toNat fun _ => i.zero) (b := w.heap.size) (cap := grownCap w n.toNat 0 e) (w' := w.drew.alloc (.cells cells e)) (by simp [Blk.keys]) ⟨rfl, rfl, rfl, by simp, fun k hk _ => heap_alloc_old w.drew _ hk⟩ hns (fun κ' b' g' c q1 q2 e' => by
       have := hs.mem κ' b' q1
       rw [q2] at this
       have := this.at.lt
       omega) (.inl hs.kept.size) ⟨cells, heap_alloc_new w.drew _, hns, hcap, hge, hcm, fun q hq => ⟨G.zlen, fun j hj => ?_⟩⟩
      ·have h2 := h1.put (dst := some d) (x := .own d n.toNat) (v := .slice (some ⟨w.heap.size, 0, none⟩) n.toNat (grownCap w n.toNat 0 e)) (fun t ht => by cases ht; exact hd d hdst) (.own (by simp [muSet]))
       rw [apply_new]
       exact ⟨S, _, by rw [hdst]; exact h2⟩
      ·have hlt : q * i.size + j < n.toNat * i.size := by
        calc q * i.size + j < q * i.size + i.size := by omega
         _ = (q + 1) * i.size := by rw [Nat.add_mul, Nat.one_mul]
         _ ≤ n.toNat * i.size := Nat.mul_le_mul_right _ hq
       have hj' : j < ze.cells.size := by omega
       have hmod : (q * i.size + j) % ze.cells.size = j := by rw [hzl, Nat.mul_comm, Nat.mul_add_mod, Nat.mod_eq_of_lt hj]
       refine ⟨ze.cells[j], ?_, ?_⟩
       ·rw [hcells, Array.getElem?_append_left (by rw [size_zeroCells, hzl]; exact hlt)]
        have hlt' : q * i.size + j < n.toNat * ze.cells.size := by rw [hzl]; exact hlt
        simp only [Builtin.zeroCells, Array.getElem?_map, Array.getElem?_range, hlt', if_true, Option.map_some, hmod]
        rw [getElem!_pos ze.cells j hj']
       ·have := (q2 j (by rw [G.zlen]; exact hj)).mono (S' := S) (w' := w.drew.alloc (.cells cells e)) (fun _ x => x) hw
        rw [show ze.cells.toList.getD j undef = ze.cells[j] from by simp [List.getD, hj']] at this
        exact this
    ·cases h
   ·cases h
  ·cases h
 ·-- make, with a capacity
  rename_i t kz z c
  split at h
  ·rename_i d e _ _ _ _ km m hdst ht hc
   split at h
   ·rename_i i hi
    rw [Bool.cond_eq_ite] at h
    split at h
    ·rename_i hz
     have hz : z = 0 := by simpa using hz
     subst hz
     simp only [Option.some.injEq] at h
     subst h
     rw [hdst]
     obtain ⟨o1, o2, o3⟩ : 0 ≤ m ∧ m.toNat ≤ maxLen ∧ m.toNat * i.bytes ≤ 140737488355328 := hob
     obtain ⟨tj, z, F⟩ := tiOK_facts (hT _ _ ht)
     obtain ⟨ej, ez, G⟩ := tiOK_facts (hT _ _ hi)
     have hu := kind_slice F.kind
     have hml : m ≤ 9223372036854775807 := by simp only [maxLen] at o2; omega
     have hbb : (ej.bytes : Int) * m ≤ 281474976710656 := by
      rw [G.bytes]
      have h1 : ((i.bytes * m.toNat : Nat) : Int) ≤ 281474976710656 := by rw [Nat.mul_comm]; omega
      rw [Int.natCast_mul, Int.toNat_of_nonneg o1] at h1
      exact h1
     have hrun := run_make (P := C.P) w t e ej ez hu G.info G.zero kz km 0 m (Int.le_refl _) o1 hbb hml
     rw [G.size] at hrun
     have hns : ¬ S w.heap.size := fun h => by have := hs.bound _ h; omega
     have hf : Fresh A d := hfr d (by simp)
     have h1 := hs.alloc hf (b := .row e i.size 0 fun _ => i.zero) (cur := madeCells ez.cells (m.toNat * i.size)) (e := e) (cap := m.toNat) (by simp [Blk.keys]) ⟨_, heap_alloc_new w _, hns, size_madeCells _ _, Nat.zero_le _, o2, fun q hq => absurd hq (by omega)⟩
     have h2 := h1.put (dst := some d) (x := .own d 0) (v := .slice (some ⟨w.heap.size, 0, none⟩) 0 m.toNat) (fun t ht => by cases ht; exact hd d hdst) (.own (by simp [muSet]))
     unfold Oper.wp execOp
     have hcv := rel_int (hρ _ _ hc)
     have hzv : a.eval (.const (.int kz 0)) = .int kz 0 := rfl
     simp only [ho, hzv, hcv, Sem.run_bind, hrun, Result.andThen_ok, Sem.run_pure]
     rw [apply_new]
     exact ⟨S, _, by rw [hdst]; exact h2⟩
    ·cases h
   ·cases h
  ·cases h
 ·cases h
theorem evMore_ro {T : List (Nat × TI)} {lb : List (Nat × Blk)} {ρ : Operand → Option AV} {dst : Option Nat} {quiet : Bool} {op : Op} {r : R} (h : evMore T lb ρ dst quiet op = some r) :
  (∀ p, p ∈ r.ro → look lb p.1 = some p.2) ∧ (∀ p, p ∈ r.mem → look lb p.1 = some p.2) ∧ (quiet = true → r.mem = [] ∧ r.mem' = []) := by
 unfold evMore at h
 have nil : ∀ {p : Nat × Blk}, p ∈ ([] : List (Nat × Blk)) → look lb p.1 = some p.2 := fun h => by cases h
 have one : ∀ {κ : Nat} {b : Blk}, look lb κ = some b → ∀ p, p ∈ [(κ, b)] → look lb p.1 = some p.2 := fun h p hp => by simp only [List.mem_singleton] at hp; subst hp; exact h
 split at h
 ·split at h
  ·simp only [Option.some.injEq] at h; subst h; exact ⟨fun _ => nil, fun _ => nil, fun hq => by cases hq⟩
  ·cases h
 ·split at h
  ·split at h
   ·rename_i hl _; simp only [Option.some.injEq] at h; subst h; exact ⟨fun _ => nil, one hl, fun hq => by cases hq⟩
   ·cases h
  ·cases h
 ·split at h
  ·split at h
   ·rename_i hl
    rw [Bool.cond_eq_ite] at h
    split at h
    ·cases h
    ·simp only [Option.some.injEq] at h; subst h; exact ⟨one hl, fun _ => nil, fun hq => by cases hq⟩
   ·cases h
  ·cases h
 ·split at h
  ·split at h
   ·rename_i hli
    split at h
    ·rename_i hl
     simp only [Option.some.injEq] at h; subst h
     exact ⟨fun p hp => by
      simp only [List.mem_cons, List.not_mem_nil, or_false] at hp
      rcases hp with rfl | rfl
      ·exact hli
      ·exact hl, fun _ => nil, fun _ => ⟨rfl, rfl⟩⟩
    ·cases h
   ·cases h
  ·cases h
 ·split at h
  ·split at h
   ·rename_i hl _
    rw [Bool.cond_eq_ite] at h
    split at h
    ·cases h
    ·simp only [Option.some.injEq] at h; subst h; exact ⟨fun _ => nil, one hl, fun hq => by cases hq⟩
   ·cases h
  ·split at h
   ·simp only [Option.some.injEq] at h; subst h; exact ⟨fun _ => nil, fun _ => nil, fun hq => by cases hq⟩
   ·cases h
  ·cases h
 ·split at h
  ·split at h
   ·simp only [Option.some.injEq] at h; subst h; exact ⟨fun _ => nil, fun _ => nil, fun _ => ⟨rfl, rfl⟩⟩
   ·cases h
  ·cases h
 ·split at h
  ·split at h
   ·split at h
    ·simp only [Option.some.injEq] at h; subst h; exact ⟨fun _ => nil, fun _ => nil, fun hq => by cases hq⟩
    ·cases h
   ·cases h
  ·cases h
 ·split at h
  ·split at h
   ·rw [Bool.cond_eq_ite] at h
    split at h
    ·simp only [Option.some.injEq] at h; subst h; exact ⟨fun _ => nil, fun _ => nil, fun hq => by cases hq⟩
    ·cases h
   ·cases h
  ·cases h
 ·cases h
end
end Go.Av
