/- The evaluator of regions. -/
import Derived.Test.YtihmmpaalpghbaaGreatDoorAvOc
set_option linter.unusedSimpArgs false
set_option linter.unusedVariables false
namespace Go.Av
open Go
set_option linter.unusedSectionVars false
variable [Globs]
structure NormC where
 n : Nat
 n' : Nat
 f : Nat → List D
 f' : Nat → List D
 eq : n = n' ∧ ∀ i, i < n → CsLe (f i) (f' i)
structure CastC where
 x : AV
 y : AV
 le : ∀ w S μ ν v, Rel w S μ ν x v → Rel w S μ ν y v
structure NormM where
 n : Nat
 n' : Nat
 f : Nat → Value × D
 f' : Nat → Value × D
 eq : n = n' ∧ ∀ i, i < n → f i = f' i
inductive Orc where
 | flat (res : AV)
 | gen (hand : List Nat) (res : AV) (back : List (Nat × Blk))
 | nrm (c : NormC)
 | nrmm (c : NormM)
 | cast (d : Nat) (c : CastC)
 | pur (d : Nat)
 | same (κ : Nat) (b' : Blk)
 | bx (hand : List Nat) (anc : List (Nat × Nat)) (res : AV) (back : List (Nat × Blk))
 | alt (i0 j0 d : Nat) (c : CastC)
def looks (lb : List (Nat × Blk)) : List Nat → Option (List (Nat × Blk))
 | [] => some []
 | k :: r => (match look lb k, looks lb r with | some b, some l => some ((k, b) :: l) | _, _ => none)
def closedB (res : AV) (back : List (Nat × Blk)) : Bool :=
 res.keys.all (fun k => (back.map (·.1)).contains k) && back.all (fun p => p.2.keys.all fun k => (back.map (·.1)).contains k)
def evStore (T : List (Nat × TI)) (lb : List (Nat × Blk)) (t : Nat) (ad v : AV) : Option R :=
 match look T t, v.cells with
 | some i, some xs => (match ad with
  | .ptr κ off => (match look lb κ with
   | some (.box cs) => bif Nat.beq xs.length i.size && Nat.ble (off + i.size) cs.length && noG.noGL xs && xs.all oneA then some ⟨.any, [], [(κ, .box cs)], [(κ, .box (cs.take off ++ xs ++ cs.drop (off + i.size)))], .tt⟩ else none
   | _ => none)
  | .elt κ k p off => (match look lb κ, pureL xs with
   | some (.row e k' n f), some ds => bif Nat.beq k k' && Nat.beq ds.length i.size && Nat.ble (off + i.size) k && ds.all oneD then
     some ⟨.any, [], [(κ, .row e k n f)], [(κ, .row e k n fun q => if q = p then (f p).take off ++ ds ++ (f p).drop (off + i.size) else f q)], .pr (p < n)⟩ else none
   | _, _ => none)
  | _ => none)
 | _, _ => none
def evSrc (lb : List (Nat × Blk)) (k : Nat) : AV → Option (Nat × (Nat → List D) × List (Nat × Blk) × Ob)
 | .d (.sl m g) => some (m, g, [], .pr ((∀ i, i < m → (g i).length = k) ∧ ∀ i, i < m → (g i).all oneD = true))
 | .d (.v (.slice none 0 0)) => some (0, fun _ => [], [], .tt)
 | .nns m g => some (m, g, [], .pr ((∀ i, i < m → (g i).length = k) ∧ ∀ i, i < m → (g i).all oneD = true))
 | .own κ m => (match look lb κ with | some (.row e k' m' g) => bif Nat.beq k k' then some (m, g, [(κ, .row e k' m' g)], (Ob.ne m m').and (.pr (∀ i, i < m → (g i).all oneD = true))) else none | _ => none)
 | _ => none
def evAppend (T : List (Nat × TI)) (lb : List (Nat × Blk)) (dst t : Nat) (dv sv : AV) : Option R :=
 match look T t with
 | some { kind := .slice e, .. } => (match look T e with
  | some i => (match evSrc lb i.size sv with
   | some (m, g, ro, ob) => (match dv with
    | .d (.v (.slice none 0 0)) => some ⟨.own dst (0 + m), ro, [], [(dst, .row e i.size (0 + m) fun q => if q < 0 then [] else g (q - 0))], ob.and (.pr (0 + m ≤ maxLen ∧ (0 + m) * i.bytes ≤ 140737488355328))⟩
    | .own κ n => (match look lb κ with
     | some (.row e' k n' f) => bif Nat.beq e e' && Nat.beq k i.size && !Nat.beq dst κ then some ⟨.own dst (n + m), ro, [(κ, .row e' k n' f)], [(dst, .row e i.size (n + m) fun q => if q < n then f q else g (q - n))], ob.and ((Ob.ne n n').and (.pr (n + m ≤ maxLen ∧ (n + m) * i.bytes ≤ 140737488355328)))⟩ else none
     | _ => none)
    | _ => none)
   | none => none)
  | none => none)
 | _ => none
def isBoxAt (lb : List (Nat × Blk)) (κ : Nat) : Bool := match look lb κ with | some (.box _) => true | _ => false
def isPtr (κ : Nat) : AV → Bool
 | .ptr k 0 => Nat.beq k κ
 | _ => false
def bxOK (args : List AV) (hand : List Nat) (lbs : List (Nat × Blk)) (anc : List (Nat × Nat)) (res : AV) (back : List (Nat × Blk)) : Bool :=
 anc.all (fun p => Nat.ble (p.1 + 1) args.length && isPtr p.2 (args.getD p.1 default) && isBoxAt lbs p.2 && isBoxAt back p.2) &&
 back.all (fun q => (anc.map (·.2)).contains q.1 || !hand.contains q.1) &&
 res.keys.all (fun k => (back.map (·.1)).contains k && !(anc.map (·.2)).contains k) &&
 back.all (fun q => q.2.keys.all fun k => (back.map (·.1)).contains k && !(anc.map (·.2)).contains k)
def evCall (P : Program) (lb : List (Nat × Blk)) (quiet : Bool) (cf : AV) (args : List AV) : List Orc → Option (R × List Orc)
 | .flat res :: orc => (match cf with
  | .fn f caps => (match borAL lb (args ++ caps) with
   | some (args', ro, ob) => bif flatA res then some (⟨res, ro, [], [], ob.and (.pr (FnA P f args' [] res []))⟩, orc) else none
   | none => none)
  | _ => none)
 | .gen hand res back :: orc => (match cf with
  | .fn f caps => (match looks lb hand with
   | some lbs => bif noG.noGL (args ++ caps) && closedB res back && noG res && (!quiet || (hand.isEmpty && back.isEmpty)) && back.all (fun p => !hand.contains p.1) then some (⟨res, [], lbs, back, .pr (FnA P f (args ++ caps) lbs res back)⟩, orc) else none
   | none => none)
  | _ => none)
 | .same κ b' :: orc => (match cf with
  | .fn f caps => (match look lb κ with
   | some b => bif noG.noGL (args ++ caps) && !quiet then some (⟨.any, [], [(κ, b)], [(κ, b')], .pr (FnS P f (args ++ caps) κ b b')⟩, orc) else none
   | none => none)
  | _ => none)
 | .bx hand anc res back :: orc => (match cf with
  | .fn f caps => (match looks lb hand with
   | some lbs => bif noG.noGL (args ++ caps) && bxOK (args ++ caps) hand lbs anc res back && noG res && !quiet then some (⟨res, [], lbs, back, .pr (FnB P f (args ++ caps) lbs res back anc)⟩, orc) else none
   | none => none)
  | _ => none)
 | _ => none
def pureQ (quiet : Bool) (dst : Option Nat) (orc : List Orc) : Option (List Orc) :=
 match quiet with
 | true => some orc
 | false => (match dst, orc with
  | some t, .pur d :: r => bif Nat.beq t d then some r else none
  | _, _ => none)
def evOp0 (P : Program) (T : List (Nat × TI)) (lb : List (Nat × Blk)) (ρ : Operand → Option AV) (dst : Option Nat) (quiet : Bool) (orc : List Orc) (op : Op) : Option (R × List Orc) :=
 match op with
 | .alloc t => (match quiet, dst, look T t with | false, some d, some i => some (⟨.ptr d 0, [], [], [(d, .box (i.zero.map .d))], .tt⟩, orc) | _, _, _ => none)
 | .box _ x => (match quiet, dst, ρ x with
  | false, some d, some v => (match v.cells with
   | some cs => (match pureQ false (some d) orc, pureL cs with
    | some orc', some ds => some (⟨.ref ds, [], [], [], .tt⟩, orc')
    | _, _ => bif noG.noGL cs && !(AV.keysL cs).contains d then some (⟨.ptr d 0, [], [], [(d, .box cs)], .tt⟩, orc) else none)
   | none => none)
  | _, _, _ => none)
 | .buildSlice t len ps => (match buildCells T (unN ρ) t len ps.toList with
  | some (e, k, ds) => (match pureQ quiet dst orc with
   | some orc => some (⟨.d (.sl len (rowF k len ds)), [], [], [], .tt⟩, orc)
   | none => (match quiet, dst with
    | false, some d => some (⟨.own d len, [], [], [(d, .row e k len (rowF k len ds))], .tt⟩, orc)
    | _, _ => none))
  | none => none)
 | .store t ad x => (match quiet, dst, ρ ad, ρ x with
  | false, none, some av, some v => (match evStore T lb t av v with | some r => some (r, orc) | none => none)
  | _, _, _, _ => none)
 | .call { callee := .builtin .append, args := xs, argTypes := ts } => (match quiet, dst, xs.toList, ts.toList with
  | false, some d, [s, x], [t, t'] => (match Nat.beq t t', ρ s, ρ x with
   | true, some dv, some sv => (match evAppend T lb d t dv sv with | some r => some (r, orc) | none => none)
   | _, _, _ => none)
  | _, _, _, _ => none)
 | .call { callee := .value cf, args := xs, .. } => (match ρ cf, argsOf ρ xs.toList with
  | some c, some l => evCall P lb quiet c l orc
  | _, _ => none)
 | .makeSlice t l c => (match quiet, dst, look T t, ρ l, ρ c with
  | false, some d, some { kind := .slice e, .. }, some (.d (.v (.int _ n))), some (.d (.v (.int _ m))) => (match look T e with
   | some i => some (⟨.own d n.toNat, [], [], [(d, .row e i.size n.toNat fun _ => i.zero)], (Ob.ze n m).and (.pr (0 ≤ n ∧ n.toNat ≤ maxLen ∧ n.toNat * i.bytes ≤ 140737488355328))⟩, orc)
   | none => none)
  | _, _, _, _, _ => none)
 | op => (match evBytes T ρ op with
  | some (v, ob) => some (⟨v, [], [], [], ob⟩, orc)
  | none => (match evV T lb ρ op with | some (v, ro, ob) => some (⟨v, ro, [], [], ob⟩, orc) | none => none))
def evArr (T : List (Nat × TI)) (ρ : Operand → Option AV) : Op → Option (AV × Ob)
 | .build t ps => (match look T t, valsOf ρ ps.toList with
  | some { kind := .array _ e, zero := z, .. }, some vs => (match look T e with
   | some ie => (match fillA (fun q => some (q * ie.size, ie.size)) (z.map .d) vs with | some cs => some (mkAgg cs, .tt) | none => none)
   | none => none)
  | _, _ => none)
 | .indexAddr t x i => (match look T t, ρ x, ρ i with
  | some { kind := .array n e, .. }, some (.ptr κ off), some (.d (.v (.int _ q))) => (match look T e with | some ie => some (.ptr κ (off + q.toNat * ie.size), .pr (0 ≤ q ∧ q < n)) | none => none)
  | some { kind := .array n e, .. }, some (.ref cs), some (.d (.v (.int _ q))) => (match look T e with | some ie => some (.ref (cs.drop (q.toNat * ie.size)), .pr (0 ≤ q ∧ q < n)) | none => none)
  | _, _, _ => none)
 | _ => none
def evOpM (P : Program) (T : List (Nat × TI)) (lb : List (Nat × Blk)) (ρ : Operand → Option AV) (dst : Option Nat) (quiet : Bool) (orc : List Orc) (op : Op) : Option (R × List Orc) :=
 match evMapA P T lb ρ dst quiet op with
 | some r => some (r, orc)
 | none => (match evMore T lb ρ dst quiet op with
 | some r => some (r, orc)
 | none => (match evArr T ρ op with
 | some (v, ob) => some (⟨v, [], [], [], ob⟩, orc)
 | none => evOp0 P T lb ρ dst quiet orc op))
def isMk : Op → Bool
 | .buildSlice .. | .slice .. | .store .. | .makeSlice .. | .convert .. => true
 | .call { callee := .builtin .append, .. } => true
 | _ => false
def normR (c : NormC) (r : R) : Option R :=
 match r.mem' with
 | [(κ, .row e k n f)] => (match r.v with
  | .own κ' m => bif Nat.beq κ' κ then some ⟨.own κ' c.n', r.ro, r.mem, [(κ, .row e k c.n' c.f')], r.ob.and ((Ob.ne m c.n).and ((Ob.ne n c.n).and (.fe f c.f)))⟩ else none
  | .any => some ⟨.any, r.ro, r.mem, [(κ, .row e k c.n' c.f')], r.ob.and ((Ob.ne n c.n).and (.fe f c.f))⟩
  | _ => none)
 | [] => (match r.v with
  | .d (.sl n f) => some ⟨.d (.sl c.n' c.f'), r.ro, r.mem, [], r.ob.and ((Ob.ne n c.n).and (.fe f c.f))⟩
  | _ => none)
 | _ => none
def normM (c : NormM) (r : R) : Option R :=
 match r.mem' with
 | [(κ, .mp n f)] => (match r.v with
  | .any => some ⟨.any, r.ro, r.mem, [(κ, .mp c.n' c.f')], r.ob.and ((Ob.ne n c.n).and (.me f c.f))⟩
  | .mpv q => some ⟨.mpv q, r.ro, r.mem, [(κ, .mp c.n' c.f')], r.ob.and ((Ob.ne n c.n).and (.me f c.f))⟩
  | .tup l => some ⟨.tup l, r.ro, r.mem, [(κ, .mp c.n' c.f')], r.ob.and ((Ob.ne n c.n).and (.me f c.f))⟩
  | _ => none)
 | [(κ, .ml n f)] => (match r.v with
  | .any => some ⟨.any, r.ro, r.mem, [(κ, .ml c.n' c.f')], r.ob.and ((Ob.ne n c.n).and (.me f c.f))⟩
  | _ => none)
 | _ => none
def castR (c : CastC) (r : R) : R := ⟨c.y, r.ro, r.mem, r.mem', r.ob.and (.ve r.v c.x)⟩
def evOp (P : Program) (T : List (Nat × TI)) (lb : List (Nat × Blk)) (ρ : Operand → Option AV) (dst : Option Nat) (quiet : Bool) (orc : List Orc) (op : Op) : Option (R × List Orc) :=
 match evOpM P T lb ρ dst quiet orc op with
 | some (r, orc1) => (match isMk op, orc1 with
  | true, .nrm c :: orc2 => (match normR c r with | some r' => some (r', orc2) | none => some (r, orc1))
  | _, .nrmm c :: orc2 => (match normM c r with | some r' => some (r', orc2) | none => some (r, orc1))
  | _, .cast d c :: orc2 => (match dst with | some t => bif Nat.beq t d then some (castR c r, orc2) else some (r, orc1) | none => some (r, orc1))
  | _, _ => some (r, orc1))
 | none => none
section
variable {C : Cx} {A : M} {a : Act} {w : World} {S : Nat → Prop} {μ : Mu} {ν : Nat → Bool}
theorem looks_mem {lb : List (Nat × Blk)} : ∀ {ks : List Nat} {l : List (Nat × Blk)}, looks lb ks = some l → l.map (·.1) = ks
 | [], l, h => by simp only [looks, Option.some.injEq] at h; subst h; rfl
 | k :: r, l, h => by
  simp only [looks] at h
  cases h1 : look lb k with
  | none => rw [h1] at h; cases h
  | some b =>
   cases h2 : looks lb r with
   | none => rw [h1, h2] at h; cases h
   | some l' =>
    rw [h1, h2] at h
    simp only [Option.some.injEq] at h
    subst h
    simp [looks_mem h2]
theorem evV_wp {T : List (Nat × TI)} (hT : TOk C.P T) (hs : Sim C A a w S μ ν) {lb : List (Nat × Blk)} {o : Oper} {ρ : Operand → Option AV} (hρ : ∀ x y, ρ x = some y → Rel w S μ ν y (a.eval x)) (hd : ∀ t, o.dst = some t → t < C.nt)
  {v : AV} {ro : List (Nat × Blk)} {ob : Ob} (h : evV T lb ρ o.op = some (v, ro, ob)) (hro : ∀ p, p ∈ ro → A.lb p.1 = some p.2) (hob : ob.den) (need : List (Nat × AV)) (gs : List (Nat × Bool)) :
  o.wp C.P a w (fun a' w' => ∃ S' μ', Sim C ((Tr.mk need o.dst v ro [] [] gs).apply A) a' w' S' μ' ν) (fun _ _ _ => False) := by
 obtain ⟨x, h1, h2⟩ := evV_sound hT hs hρ h hro hob
 exact core_value hs hd h1 h2 rfl rfl rfl
theorem core_boxPure {o : Oper} {t : TypeId} {ds : List D} {τ : Tr} (hs : Sim C A a w S μ ν) (hd : ∀ t, o.dst = some t → t < C.nt) {vs : Array Value}
  (hrun : (execOp a.eval o).run C.P w = .ok (.value (.pointer (some ⟨w.heap.size, 0, none⟩))) (w.alloc (.cells vs t))) (hr : RelL w S μ ν (ds.map .d) vs.toList)
  (h0 : τ.v = .ref ds) (h1 : τ.dst = o.dst) (h2 : τ.mem = []) (h3 : τ.mem' = []) :
  o.wp C.P a w (fun a' w' => ∃ S' μ', Sim C (τ.apply A) a' w' S' μ' ν) (fun _ _ _ => False) := by
 unfold Oper.wp
 rw [hrun]
 let S' : Nat → Prop := fun q => S q ∨ q = w.heap.size
 have h4 := hs.world (S' := S') (w' := w.alloc (.cells vs t)) (fun _ x => .inl x) (fun q hq => hq.elim .inl (fun e => .inr ⟨by omega, by rw [e]; simp⟩)) (kept_alloc w _ _)
 have hl := hr.1
 simp only [List.length_map, Array.length_toList] at hl
 have hrd : ∀ ν, Rel (w.alloc (.cells vs t)) S' μ ν (.ref ds) (.pointer (some ⟨w.heap.size, 0, none⟩)) := fun ν' => by
  refine .ref (fun j => vs.toList.getD j undef) (fun j hj => ⟨.inr rfl, ?_⟩) (fun j hj => ?_)
  ·rw [cell_row _ _ _ vs t (0, 0) (heap_alloc_new w _)]
   have hlt : j < vs.size := by omega
   simp [List.getD, hlt]
  ·have := hr.2 j (by simpa using hj)
   rw [getD_mapd _ j hj] at this
   exact (rel_d.1 this).mono (fun _ x => .inl x) (fun q hq => heap_alloc_old w _ (hs.bound q hq))
 have h5 := h4.put (dst := o.dst) (x := .ref ds) (v := .pointer (some ⟨w.heap.size, 0, none⟩)) hd (hrd ν)
 refine ⟨S', μ, ?_⟩
 have e : τ.apply A = A.putO o.dst (.ref ds) := by
  unfold Tr.apply M.putO M.put
  rw [h0, h1, h2, h3]
  cases ho : o.dst with
  | none => simp [look]
  | some d =>
   simp only [look, List.map_nil, List.not_mem_nil, if_false, Option.some.injEq]
   congr 1
   funext t
   by_cases c : d = t
   ·simp [c]
   ·have : ¬ t = d := fun e => c e.symm
    simp [c, this]
 rw [e]
 exact h5
theorem evOp0_sound {T : List (Nat × TI)} (hT : TOk C.P T) (hs : Sim C A a w S μ ν) {lb : List (Nat × Blk)} {o : Oper} {ρ : Operand → Option AV} (hρ : ∀ x y, ρ x = some y → Rel w S μ ν y (a.eval x)) (hd : ∀ t, o.dst = some t → t < C.nt) {quiet : Bool} {orc orc' : List Orc} {r : R}
  (h : evOp0 C.P T lb ρ o.dst quiet orc o.op = some (r, orc')) (hro : ∀ p, p ∈ r.ro → A.lb p.1 = some p.2) (hmem : ∀ p, p ∈ r.mem → A.lb p.1 = some p.2) (hob : r.ob.den) (hfr : ∀ κ, κ ∈ (r.mem'.map (·.1)).filter (fun k => !(r.mem.map (·.1)).contains k) → Fresh A κ) (need : List (Nat × AV)) (gs : List (Nat × Bool)) :
  o.wp C.P a w (fun a' w' => ∃ S' μ', Sim C ((Tr.mk need o.dst r.v r.ro r.mem r.mem' gs).apply A) a' w' S' μ' ν) (fun _ _ _ => False) := by
 unfold evOp0 at h
 split at h
 all_goals rename_i ho
 ·rename_i t0
  split at h
  ·rename_i d i hdst hi
   simp only [Option.some.injEq, Prod.mk.injEq] at h
   obtain ⟨rfl, -⟩ := h
   obtain ⟨ti, z, F⟩ := tiOK_facts (hT _ _ hi)
   obtain ⟨q1, q2⟩ := zeroOK_rd (w := w) (S := S) F.zok
   have hz : RelL w S μ ν (i.zero.map .d) z.cells.toList := by
    refine ⟨by simpa using q1, fun j hj => ?_⟩
    simp only [List.length_map] at hj
    rw [getD_mapd _ j hj]
    exact .d (q2 j hj)
   have hng : ∀ l : List D, noG.noGL (l.map AV.d) = true := fun l => by induction l with | nil => rfl | cons x r ih => simpa [noG.noGL, noG] using ih
   have hkl : ∀ l : List D, AV.keysL (l.map AV.d) = [] := fun l => by induction l with | nil => rfl | cons x r ih => simpa [AV.keysL, AV.keys] using ih
   rw [hdst]
   refine core_box (t := t0) hs hdst (hd d hdst) (vs := z.cells) ?_ hz (hng _) (hfr d (by simp)) (by rw [hkl]; simp)
   simp only [execOp, ho, Instr.alloc, zeroValue, typeInfo, Sem.run_bind, run_program, Result.andThen_ok, F.info, Sem.run_pure, F.zero, newVar, newRow, run_newObj]
   rfl
  ·cases h
 ·rename_i t0 x0
  split at h
  ·rename_i d v hdst hx
   split at h
   ·rename_i cs hc
    split at h
    ·rename_i orc' ds _ hp
     simp only [Option.some.injEq, Prod.mk.injEq] at h
     obtain ⟨rfl, -⟩ := h
     have ecs := pureL_spec hp
     subst ecs
     refine core_boxPure (t := t0) (ds := ds) hs hd ?_ (cells_relL hc (hρ _ _ hx)) rfl rfl rfl rfl
     simp only [execOp, ho, Instr.box, newVar, newRow, Sem.run_bind, run_newObj, Result.andThen_ok, Sem.run_pure]
     rfl
    cases hb : (noG.noGL cs && !(AV.keysL cs).contains d) with
    | false => rw [hb] at h; cases h
    | true =>
     rw [hb] at h
     simp only [cond_true, Option.some.injEq, Prod.mk.injEq] at h
     obtain ⟨rfl, -⟩ := h
     simp only [Bool.and_eq_true, Bool.not_eq_true', List.contains_eq_mem, decide_eq_false_iff_not] at hb
     rw [hdst]
     refine core_box (t := t0) hs hdst (hd d hdst) ?_ (cells_relL hc (hρ _ _ hx)) hb.1 (hfr d (by simp)) hb.2
     simp only [execOp, ho, Instr.box, newVar, newRow, Sem.run_bind, run_newObj, Result.andThen_ok, Sem.run_pure]
     rfl
   ·cases h
  ·cases h
 ·split at h
  ·rename_i e k ds hbc
   split at h
   ·simp only [Option.some.injEq, Prod.mk.injEq] at h
    obtain ⟨rfl, -⟩ := h
    exact core_buildPure hT hs hd ho (unN_ok hρ) hbc rfl rfl rfl rfl
   ·split at h
    ·rename_i d hdst _
     simp only [Option.some.injEq, Prod.mk.injEq] at h
     obtain ⟨rfl, -⟩ := h
     rw [hdst]
     exact core_buildSlice hT hs hdst (hd d hdst) ho (unN_ok hρ) hbc (hfr d (by simp))
    ·cases h
  ·cases h
 ·split at h
  ·rename_i av v hdst hav hv
   split at h
   ·rename_i r' hst
    simp only [Option.some.injEq, Prod.mk.injEq] at h
    obtain ⟨rfl, -⟩ := h
    rw [hdst]
    unfold evStore at hst
    split at hst
    ·rename_i i xs hi hc
     split at hst
     ·rename_i κ off
      split at hst
      ·rename_i cs hl
       cases hb : (Nat.beq xs.length i.size && Nat.ble (off + i.size) cs.length && noG.noGL xs && xs.all oneA) with
       | false => rw [hb] at hst; cases hst
       | true =>
        rw [hb] at hst
        simp only [Bool.and_eq_true] at hb
        simp only [cond_true, Option.some.injEq] at hst
        subst hst
        exact core_store_box hs (hT _ _ hi) ho hdst (hρ _ _ hav) (hρ _ _ hv) (hmem (κ, .box cs) (by simp)) hc (Nat.eq_of_beq_eq_true hb.1.1.1) (Nat.le_of_ble_eq_true hb.1.1.2) hb.1.2 hb.2 _
      ·cases hst
     ·rename_i κ k p off
      split at hst
      ·rename_i e k' n f ds hl hp
       cases hb : (Nat.beq k k' && Nat.beq ds.length i.size && Nat.ble (off + i.size) k && ds.all oneD) with
       | false => rw [hb] at hst; cases hst
       | true =>
        rw [hb] at hst
        simp only [Bool.and_eq_true] at hb
        simp only [cond_true, Option.some.injEq] at hst
        subst hst
        exact core_store_row hs (hT _ _ hi) ho hdst (hρ _ _ hav) (hρ _ _ hv) (hmem (κ, .row e k n f) (by simp)) hc hp (Nat.eq_of_beq_eq_true hb.1.1.2) (Nat.le_of_ble_eq_true hb.1.2) hob hb.2 _
      ·cases hst
     ·cases hst
    ·cases hst
   ·cases h
  ·cases h
 ·rename_i xs ts
  split at h
  ·rename_i d s x t t' hdst hxs hts
   split at h
   ·rename_i dv sv htt hdv hsv
    split at h
    ·rename_i r' hap
     simp only [Option.some.injEq, Prod.mk.injEq] at h
     obtain ⟨rfl, -⟩ := h
     rw [hdst]
     have e1 := Nat.eq_of_beq_eq_true htt
     subst e1
     have ho' : o.op = .call { callee := .builtin .append, args := #[s, x], argTypes := #[t, t] } := by
      rw [ho]
      congr 2
      ·cases xs; simpa using hxs
      ·cases ts; simpa using hts
     unfold evAppend at hap
     split at hap
     ·rename_i e _ _ _ _ hl
      split at hap
      ·rename_i i hi
       split at hap
       ·rename_i m g ro' ob' hsrc
        have src : ob'.den → (∀ p, p ∈ ro' → A.lb p.1 = some p.2) → ∃ ys, SrcOK w S i.size m g (a.eval x) ys := by
         intro hob' hro'
         have hr := hρ _ _ hsv
         unfold evSrc at hsrc
         split at hsrc
         ·simp only [Option.some.injEq, Prod.mk.injEq] at hsrc
          obtain ⟨rfl, rfl, rfl, rfl⟩ := hsrc
          exact src_pure (rel_d.1 hr) hob'.1 hob'.2
         ·simp only [Option.some.injEq, Prod.mk.injEq] at hsrc
          obtain ⟨rfl, rfl, rfl, rfl⟩ := hsrc
          have := rel_scalar rfl hr
          exact ⟨[], ⟨⟨by simp, fun i hi => absurd hi (by omega)⟩, fun u hu => (by cases hu), .inl ⟨this, rfl⟩⟩⟩
         ·simp only [Option.some.injEq, Prod.mk.injEq] at hsrc
          obtain ⟨rfl, rfl, rfl, rfl⟩ := hsrc
          generalize a.eval x = xv at hr
          cases hr with
          | nns hd => exact src_pure hd hob'.1 hob'.2
         ·rename_i κ m0
          split at hsrc
          ·rename_i e2 k2 m2 g2 hlk
           cases hb : Nat.beq i.size k2 with
           | false => rw [hb] at hsrc; cases hsrc
           | true =>
            rw [hb] at hsrc
            have e3 := Nat.eq_of_beq_eq_true hb
            simp only [cond_true, Option.some.injEq, Prod.mk.injEq] at hsrc
            obtain ⟨rfl, rfl, rfl, rfl⟩ := hsrc
            have hlb := hro' (κ, .row e2 k2 m2 g2) (by simp)
            obtain ⟨o5, o6⟩ := Ob.and_den hob'
            rw [← e3, ← (show _ = _ from o5)] at hlb
            exact src_own hs hlb hr o6
          ·cases hsrc
         ·cases hsrc
        split at hap
        ·simp only [Option.some.injEq] at hap
         subst hap
         obtain ⟨o1, o2, o3⟩ := Ob.and_den hob
         obtain ⟨ys, hys⟩ := src o1 hro
         exact core_append hs hdst (hd d hdst) (hT _ _ hl) rfl (hT _ _ hi) ho' (hρ _ _ hdv) (.nil (fun _ => [])) rfl hys o2 o3 (hfr d (by simp))
        ·rename_i κ n
         split at hap
         ·rename_i e' k n' f hlk
          cases hb : (Nat.beq e e' && Nat.beq k i.size && !Nat.beq d κ) with
          | false => rw [hb] at hap; cases hap
          | true =>
           rw [hb] at hap
           simp only [cond_true, Option.some.injEq] at hap
           subst hap
           simp only [Bool.and_eq_true] at hb
           have e4 := Nat.eq_of_beq_eq_true hb.1.1
           have e5 := Nat.eq_of_beq_eq_true hb.1.2
           obtain ⟨o1, o7⟩ := Ob.and_den hob
           obtain ⟨o2, o3, o4⟩ := Ob.and_den o7
           have o2 : n = n' := o2
           subst e4; subst e5; subst o2
           obtain ⟨ys, hys⟩ := src o1 hro
           have hκ := hmem (κ, .row e i.size n f) (by simp)
           have hne : d ∉ [κ] := fun hc => by
            simp only [List.mem_singleton] at hc
            subst hc
            have := hb.2
            rw [Nat.beq_refl] at this
            cases this
           exact core_append hs hdst (hd d hdst) (hT _ _ hl) rfl (hT _ _ hi) ho' (hρ _ _ hdv) (.own hκ) rfl hys o3 o4 (hfr d (by simpa using hne))
         ·cases hap
        ·cases hap
       ·cases hap
      ·cases hap
     ·cases hap
    ·cases h
   ·cases h
  ·cases h
 ·rename_i cf xs _
  split at h
  ·rename_i c l hc hl
   have hargs := argsOf_rel hρ xs.toList l hl
   unfold evCall at h
   split at h
   ·rename_i res orc0
    split at h
    ·rename_i f caps
     split at h
     ·rename_i args' ro' ob' hb
      cases hfl : flatA res with
      | false => rw [hfl] at h; cases h
      | true =>
       rw [hfl] at h
       simp only [cond_true, Option.some.injEq, Prod.mk.injEq] at h
       obtain ⟨rfl, -⟩ := h
       exact core_call_flat hs hd ho (hρ _ _ hc) hargs hb hro (Ob.and_den hob).1 (Ob.and_den hob).2 hfl rfl rfl rfl rfl
     ·cases h
    ·cases h
   ·rename_i hand res back orc0
    split at h
    ·rename_i f caps
     split at h
     ·rename_i lbs hlk
      cases hb : (noG.noGL (l ++ caps) && closedB res back && noG res && (!quiet || (hand.isEmpty && back.isEmpty)) && back.all (fun p => !hand.contains p.1)) with
      | false => rw [hb] at h; cases h
      | true =>
       rw [hb] at h
       simp only [cond_true, Option.some.injEq, Prod.mk.injEq] at h
       obtain ⟨rfl, -⟩ := h
       simp only [Bool.and_eq_true, closedB, List.all_eq_true, List.contains_eq_mem, decide_eq_true_eq, Bool.not_eq_true', decide_eq_false_iff_not] at hb
       obtain ⟨⟨⟨⟨h1, h2, h3⟩, h4⟩, h5⟩, h6⟩ := hb
       refine core_call hs hd ho (hρ _ _ hc) hargs h1 hob hmem (fun k hk => hfr k ?_) h2 h3
       have hhand := looks_mem hlk
       simp only [List.mem_filter, Bool.not_eq_true', List.contains_eq_mem, decide_eq_false_iff_not]
       refine ⟨hk, ?_⟩
       rw [hhand]
       obtain ⟨p, hp, rfl⟩ := List.mem_map.1 hk
       exact h6 p hp
     ·cases h
    ·cases h
   ·rename_i κ b' orc0
    split at h
    ·rename_i f caps
     split at h
     ·rename_i b hlk
      cases hb : (noG.noGL (l ++ caps) && !quiet) with
      | false => rw [hb] at h; cases h
      | true =>
       rw [hb] at h
       simp only [cond_true, Option.some.injEq, Prod.mk.injEq] at h
       obtain ⟨rfl, -⟩ := h
       simp only [Bool.and_eq_true] at hb
       exact core_call_same hs hd ho (hρ _ _ hc) hargs hb.1 hob (hmem (κ, b) (by simp))
     ·cases h
    ·cases h
   ·rename_i hand anc res back orc0
    split at h
    ·rename_i f caps
     split at h
     ·rename_i lbs hlk
      cases hb : (noG.noGL (l ++ caps) && bxOK (l ++ caps) hand lbs anc res back && noG res && !quiet) with
      | false => rw [hb] at h; cases h
      | true =>
       rw [hb] at h
       simp only [cond_true, Option.some.injEq, Prod.mk.injEq] at h
       obtain ⟨rfl, -⟩ := h
       simp only [Bool.and_eq_true, bxOK, List.all_eq_true, List.contains_eq_mem, decide_eq_true_eq, Bool.not_eq_true', decide_eq_false_iff_not, Bool.or_eq_true] at hb
       obtain ⟨⟨⟨h1, ⟨⟨h2, h3⟩, h4⟩, h5⟩, h6⟩, h7⟩ := hb
       have hhand := looks_mem hlk
       have box : ∀ (lb : List (Nat × Blk)) κ, isBoxAt lb κ = true → ∃ cs, look lb κ = some (.box cs) := fun lb κ h => by
        unfold isBoxAt at h
        split at h
        ·exact ⟨_, by assumption⟩
        ·cases h
       have ptr : ∀ κ x, isPtr κ x = true → x = .ptr κ 0 := fun κ x h => by
        unfold isPtr at h
        split at h
        ·rw [Nat.eq_of_beq_eq_true h]
        ·cases h
       refine core_call_bx hs hd ho (hρ _ _ hc) hargs h1 hob (fun p hp => ?_) hmem (fun k hk hn => hfr k ?_) h4 h5
       ·obtain ⟨⟨⟨a1, a2⟩, a3⟩, a4⟩ := h2 p hp
        exact ⟨Nat.le_of_ble_eq_true a1, ptr _ _ a2, box _ _ a3, box _ _ a4⟩
       ·simp only [List.mem_filter, Bool.not_eq_true', List.contains_eq_mem, decide_eq_false_iff_not]
        refine ⟨hk, ?_⟩
        rw [hhand]
        obtain ⟨p, hp, rfl⟩ := List.mem_map.1 hk
        exact (h3 p hp).resolve_left hn
     ·cases h
    ·cases h
   ·cases h
  ·cases h
 ·split at h
  ·rename_i d e _ _ _ _ kl n kc m hdst ht hl hc
   split at h
   ·rename_i i hi
    simp only [Option.some.injEq, Prod.mk.injEq] at h
    obtain ⟨rfl, -⟩ := h
    have hob' : ((Ob.ze n m).and (.pr (0 ≤ n ∧ n.toNat ≤ maxLen ∧ n.toNat * i.bytes ≤ 140737488355328))).den := hob
    obtain ⟨o1, o2, o3, o4⟩ := Ob.and_den hob'
    have o1 : n = m := o1
    subst o1
    rw [hdst]
    exact core_make hT hs hdst (hd d hdst) ho ht rfl hi (rel_int (hρ _ _ hl)) (rel_int (hρ _ _ hc)) o2 o3 o4 (hfr d (by simp))
   ·cases h
  ·cases h
 ·split at h
  ·rename_i v ob' hv
   simp only [Option.some.injEq, Prod.mk.injEq] at h
   obtain ⟨rfl, -⟩ := h
   exact evBytes_wp hT hs hρ hd hv hob need _ gs
  ·split at h
   ·rename_i v ro' ob' hv
    simp only [Option.some.injEq, Prod.mk.injEq] at h
    obtain ⟨rfl, -⟩ := h
    exact evV_wp hT hs hρ hd hv hro hob need gs
   ·cases h
theorem evArr_sound {T : List (Nat × TI)} (hT : TOk C.P T) {o : Oper} {ρ : Operand → Option AV} (hρ : ∀ x y, ρ x = some y → Rel w S μ ν y (a.eval x)) {v : AV} {ob : Ob} (h : evArr T ρ o.op = some (v, ob)) (hob : ob.den) :
  ∃ x, (execOp a.eval o).run C.P w = .ok (.value x) w ∧ Rel w S μ ν v x := by
 unfold evArr at h
 split at h
 ·rename_i t ps ho
  split at h
  ·rename_i n e _ _ z _ vs hl hv
   split at h
   ·rename_i ie he
    split at h
    ·rename_i cs hcs
     simp only [Option.some.injEq, Prod.mk.injEq] at h
     obtain ⟨rfl, -⟩ := h
     obtain ⟨ti, zz, F⟩ := tiOK_facts (hT t _ hl)
     have hu := kind_array F.kind
     obtain ⟨te, ze, G⟩ := tiOK_facts (hT e _ he)
     have hsz : (sizeOf e).run C.P w = .ok ie.size w := by simp [sizeOf, typeInfo, G.info, G.size]
     obtain ⟨q1, q2⟩ := zeroOK_rd (w := w) (S := S) F.zok
     have hz : RelL w S μ ν (z.map .d) zz.cells.toList := by
      refine ⟨by simpa using q1, fun i hi => ?_⟩
      simp only [List.length_map] at hi
      rw [getD_mapd z i hi]
      exact .d (q2 i hi)
     obtain ⟨v1, v2⟩ := valsOf_rel hρ ps.toList vs hv
     obtain ⟨cur', hf, hr⟩ := fillA_run (fun q => some (q * ie.size, ie.size)) vs (ps.toList.map fun p => (p.1, a.eval p.2)) (z.map .d) cs zz.cells hz v1 v2 hcs
     refine ⟨.agg cur', ?_, mkAgg_rel (by have := hr.1; simpa using this) (fun i hi => by rw [getD_toList]; exact hr.2 i hi)⟩
     have hps : (ps.map fun (i, x) => (i, a.eval x)).toList = ps.toList.map fun p => (p.1, a.eval p.2) := by simp
     simp only [execOp, ho, Instr.build, Sem.run_bind, zeroValue, typeInfo, run_program, Result.andThen_ok, F.info, Sem.run_pure, F.zero, run_underlying hu, hsz, hps]
     rw [hf]
     simp
    ·cases h
   ·cases h
  ·cases h
 ·rename_i t x i ho
  split at h
  ·rename_i n e _ _ _ _ κ off kk q hl hx hi
   split at h
   ·rename_i ie he
    simp only [Option.some.injEq, Prod.mk.injEq] at h
    obtain ⟨rfl, rfl⟩ := h
    have hob : 0 ≤ q ∧ q < n := hob
    obtain ⟨ti, zz, F⟩ := tiOK_facts (hT t _ hl)
    have hu := kind_array F.kind
    obtain ⟨te, ze, G⟩ := tiOK_facts (hT e _ he)
    have hsz : (sizeOf e).run C.P w = .ok ie.size w := by simp [sizeOf, typeInfo, G.info, G.size]
    have hxv := hρ _ _ hx
    have hiv := rel_int (hρ _ _ hi)
    generalize hav : a.eval x = av at hxv
    cases hxv with
    | @ptr _ _ g cap hμ =>
     refine ⟨.pointer (some ⟨g, off + q.toNat * ie.size, none⟩), ?_, .ptr hμ⟩
     simp [execOp, ho, hav, hiv, Instr.indexAt, asIntOf, run_underlying hu, Instr.sureAddr, hob, hsz, addr_add]
   ·cases h
  ·rename_i n e _ _ _ _ cs kk q hl hx hi
   split at h
   ·rename_i ie he
    simp only [Option.some.injEq, Prod.mk.injEq] at h
    obtain ⟨rfl, rfl⟩ := h
    have hob : 0 ≤ q ∧ q < n := hob
    obtain ⟨ti, zz, F⟩ := tiOK_facts (hT t _ hl)
    have hu := kind_array F.kind
    obtain ⟨te, ze, G⟩ := tiOK_facts (hT e _ he)
    have hsz : (sizeOf e).run C.P w = .ok ie.size w := by simp [sizeOf, typeInfo, G.info, G.size]
    have hxv := hρ _ _ hx
    have hiv := rel_int (hρ _ _ hi)
    generalize hav : a.eval x = av at hxv
    cases hxv with
    | @ref _ b o' vals hcell hr =>
     refine ⟨.pointer (some ⟨b, o' + q.toNat * ie.size, none⟩), ?_, .ref (fun j => vals (q.toNat * ie.size + j)) (fun j hj => ?_) (fun j hj => ?_)⟩
     ·simp [execOp, ho, hav, hiv, Instr.indexAt, asIntOf, run_underlying hu, Instr.sureAddr, hob, hsz, addr_add]
     ·simp only [List.length_drop] at hj
      have := hcell (q.toNat * ie.size + j) (by omega)
      rw [← Nat.add_assoc] at this
      exact this
     ·simp only [List.length_drop] at hj
      have := hr (q.toNat * ie.size + j) (by omega)
      simpa [List.getD] using this
   ·cases h
  ·cases h
 ·cases h
theorem evOpM_sound {T : List (Nat × TI)} (hT : TOk C.P T) (hs : Sim C A a w S μ ν) {lb : List (Nat × Blk)} {o : Oper} {ρ : Operand → Option AV} (hρ : ∀ x y, ρ x = some y → Rel w S μ ν y (a.eval x)) (hd : ∀ t, o.dst = some t → t < C.nt) {quiet : Bool} {orc orc' : List Orc} {r : R}
  (h : evOpM C.P T lb ρ o.dst quiet orc o.op = some (r, orc')) (hro : ∀ p, p ∈ r.ro → A.lb p.1 = some p.2) (hmem : ∀ p, p ∈ r.mem → A.lb p.1 = some p.2) (hob : r.ob.den) (hfr : ∀ κ, κ ∈ (r.mem'.map (·.1)).filter (fun k => !(r.mem.map (·.1)).contains k) → Fresh A κ) (need : List (Nat × AV)) (gs : List (Nat × Bool)) :
  o.wp C.P a w (fun a' w' => ∃ S' μ', Sim C ((Tr.mk need o.dst r.v r.ro r.mem r.mem' gs).apply A) a' w' S' μ' ν) (fun _ _ _ => False) := by
 unfold evOpM at h
 split at h
 ·rename_i r' hm
  simp only [Option.some.injEq, Prod.mk.injEq] at h
  obtain ⟨rfl, -⟩ := h
  exact evMapA_sound hT hs hρ hd hm hro hmem hob need gs
 split at h
 ·rename_i r' hm
  simp only [Option.some.injEq, Prod.mk.injEq] at h
  obtain ⟨rfl, -⟩ := h
  exact evMore_sound hT hs hρ hd hm hro hmem hob hfr need gs
 split at h
 ·rename_i v ob hm
  simp only [Option.some.injEq, Prod.mk.injEq] at h
  obtain ⟨rfl, -⟩ := h
  obtain ⟨x, h1, h2⟩ := evArr_sound hT hρ hm hob
  exact core_value hs hd h1 h2 rfl rfl rfl
 ·exact evOp0_sound hT hs hρ hd h hro hmem hob hfr need gs
theorem lookC {α : Type} (k : Nat) (x : α) (r : List (Nat × α)) (t : Nat) : look ((k, x) :: r) t = if k = t then some x else look r t := by
 simp only [look]
 cases hb : Nat.beq k t with
 | true => simp [Nat.eq_of_beq_eq_true hb]
 | false =>
  have : ¬ k = t := fun e => by rw [e, Nat.beq_refl] at hb; cases hb
  simp [this]
theorem Sim.weaken {B : M} (h : Sim C A a w S μ ν) (hsl : ∀ t v, Rel w S μ ν (A.sl t) v → Rel w S μ ν (B.sl t) v) (hlb : ∀ κ b', B.lb κ = some b' → ∃ b, A.lb κ = some b ∧ ∀ y, BlkOK w S μ b y → BlkOK w S μ b' y) : Sim C B a w S μ ν := by
 refine ⟨h.tmps, h.defers, fun t => hsl t _ (h.slots t), fun κ b hb => ?_, fun κ κ' b b' g c c' hb hb' hm hm' => ?_, fun κ b g c hb hm => ?_, h.stable, h.fresh, h.bound, h.kept⟩
 ·obtain ⟨d, h1, h2⟩ := hlb κ b hb
  exact h2 _ (h.mem κ d h1)
 ·obtain ⟨d, h1, _⟩ := hlb κ b hb
  obtain ⟨d', h1', _⟩ := hlb κ' b' hb'
  exact h.inj κ κ' d d' g c c' h1 h1' hm hm'
 ·obtain ⟨d, h1, _⟩ := hlb κ b hb
  exact h.own κ d g c h1 hm
theorem row_ok {e k n n' : Nat} {f f' : Nat → List D} (hn : n = n') (hf : ∀ i, i < n → CsLe (f i) (f' i)) (y : Option (Option (Nat × Nat))) (h : BlkOK w S μ (.row e k n f) y) : BlkOK w S μ (.row e k n' f') y := by
 subst hn
 cases y with
 | none => exact h
 | some y =>
  cases y with
  | none => exact h
  | some gc =>
   obtain ⟨g, c⟩ := gc
   obtain ⟨cur, q1, q2, q3, q4, q5, q6⟩ := h.at
   refine BlkAt.ok ⟨cur, q1, q2, q3, q4, q5, fun i hi => ?_⟩
   obtain ⟨z1, z2⟩ := q6 i hi
   refine ⟨(hf i hi).1 ▸ z1, fun j hj => ?_⟩
   obtain ⟨x, x1, x2⟩ := z2 j hj
   exact ⟨x, x1, (hf i hi).2 j (by omega) _ _ _ x2⟩
theorem normR_sim {c : NormC} {r r' : R} (h : normR c r = some r') (hob : r'.ob.den) : r.ob.den ∧ r'.ro = r.ro ∧ r'.mem = r.mem ∧ r'.mem'.map (·.1) = r.mem'.map (·.1) ∧
  ∀ {A : M} {dst : Option Nat} {need : List (Nat × AV)} {gs : List (Nat × Bool)} {a : Act} {w : World} {S : Nat → Prop} {μ : Mu} {ν : Nat → Bool}, Sim C ((Tr.mk need dst r.v r.ro r.mem r.mem' gs).apply A) a w S μ ν → Sim C ((Tr.mk need dst r'.v r'.ro r'.mem r'.mem' gs).apply A) a w S μ ν := by
 obtain ⟨cn, ce⟩ := c.eq
 obtain ⟨v, ro, mem, mem', ob⟩ := r
 unfold normR at h
 split at h
 ·rename_i κ e k n f hmem
  dsimp only at hmem
  subst hmem
  have blk : n = c.n → f = c.f → ∀ {A : M} {dst : Option Nat} {need : List (Nat × AV)} {gs : List (Nat × Bool)} {a : Act} {w : World} {S : Nat → Prop} {μ : Mu} {ν : Nat → Bool} {x y : AV}, (∀ v, Rel w S μ ν x v → Rel w S μ ν y v) → Sim C ((Tr.mk need dst x ro mem [(κ, .row e k n f)] gs).apply A) a w S μ ν → Sim C ((Tr.mk need dst y ro mem [(κ, .row e k c.n' c.f')] gs).apply A) a w S μ ν := by
   intro hn hf A dst need gs a w S μ ν x y hxy hs
   refine hs.weaken (fun t v hv => ?_) (fun κ' b' hb' => ?_)
   ·simp only [Tr.apply] at hv ⊢
    split
    ·rename_i hd
     simp only [hd, if_true] at hv
     exact hxy v hv
    ·rename_i hd
     simp only [hd, if_false] at hv
     exact hv
   ·simp only [Tr.apply, lookC] at hb' ⊢
    by_cases hk : κ = κ'
    ·subst hk
     simp only [if_true, Option.some.injEq] at hb' ⊢
     subst hb'
     exact ⟨_, rfl, fun y => row_ok (hn.trans cn) (fun i hi => by rw [hf]; exact ce i (by omega)) y⟩
    ·simp only [hk, if_false] at hb' ⊢
     exact ⟨b', hb', fun _ h => h⟩
  split at h
  ·rename_i κ' m hv
   dsimp only at hv
   subst hv
   cases hb : Nat.beq κ' κ with
   | false => rw [hb] at h; cases h
   | true =>
    rw [hb] at h
    simp only [cond_true, Option.some.injEq] at h
    subst h
    obtain ⟨o1, o2⟩ := Ob.and_den hob
    obtain ⟨o3, o4⟩ := Ob.and_den o2
    obtain ⟨o5, o6⟩ := Ob.and_den o4
    have o3 : m = c.n := o3
    refine ⟨o1, rfl, rfl, rfl, fun hs => blk o5 o6 (fun v hv => ?_) hs⟩
    rw [o3, cn] at hv
    exact hv
  ·rename_i hv
   dsimp only at hv
   subst hv
   simp only [Option.some.injEq] at h
   subst h
   obtain ⟨o1, o2⟩ := Ob.and_den hob
   obtain ⟨o5, o6⟩ := Ob.and_den o2
   exact ⟨o1, rfl, rfl, rfl, fun hs => blk o5 o6 (fun v hv => hv) hs⟩
  ·cases h
 ·rename_i hmem
  dsimp only at hmem
  subst hmem
  split at h
  ·rename_i n f hv
   dsimp only at hv
   subst hv
   simp only [Option.some.injEq] at h
   subst h
   obtain ⟨o1, o2⟩ := Ob.and_den hob
   obtain ⟨o5, o6⟩ := Ob.and_den o2
   have o5 : n = c.n := o5
   have o6 : f = c.f := o6
   refine ⟨o1, rfl, rfl, rfl, fun hs => ?_⟩
   refine hs.weaken (fun t v hv => ?_) (fun κ' b' hb' => ⟨b', hb', fun _ h => h⟩)
   simp only [Tr.apply] at hv ⊢
   split
   ·rename_i hd
    simp only [hd, if_true] at hv
    exact .d (DLe.slc (o5.trans cn) (fun i hi => by rw [o6]; exact ce i (by omega)) _ _ _ (rel_d.1 hv))
   ·rename_i hd
    simp only [hd, if_false] at hv
    exact hv
  ·cases h
 ·cases h
theorem mp_ok {n n' : Nat} {f f' : Nat → Value × D} (hn : n = n') (hf : ∀ i, i < n → f i = f' i) (y : Option (Option (Nat × Nat))) (h : BlkOK w S μ (.mp n f) y) : BlkOK w S μ (.mp n' f') y := by
 subst hn
 cases y with
 | none => exact h
 | some y =>
  cases y with
  | none => exact h
  | some gc =>
   obtain ⟨g, c⟩ := gc
   obtain ⟨cur, q1, q2, q3, q4⟩ := h.at
   refine BlkAt.ok ⟨cur, q1, q2, q3, fun i hi => ?_⟩
   rw [← hf i hi]
   exact q4 i hi
theorem ml_ok {n n' : Nat} {f f' : Nat → Value × D} (hn : n = n') (hf : ∀ i, i < n → f i = f' i) (y : Option (Option (Nat × Nat))) (h : BlkOK w S μ (.ml n f) y) : BlkOK w S μ (.ml n' f') y := by
 subst hn
 cases y with
 | none => exact h
 | some y =>
  cases y with
  | none => exact h
  | some gc =>
   obtain ⟨g, c⟩ := gc
   obtain ⟨cur, ck, q1, q2, q3, q4⟩ := h.at
   refine BlkAt.ok ⟨cur, ck, q1, q2, q3, fun i hi => ?_⟩
   rw [← hf i hi]
   exact q4 i hi
theorem normM_sim {c : NormM} {r r' : R} (h : normM c r = some r') (hob : r'.ob.den) : r.ob.den ∧ r'.ro = r.ro ∧ r'.mem = r.mem ∧ r'.mem'.map (·.1) = r.mem'.map (·.1) ∧
  ∀ {A : M} {dst : Option Nat} {need : List (Nat × AV)} {gs : List (Nat × Bool)} {a : Act} {w : World} {S : Nat → Prop} {μ : Mu} {ν : Nat → Bool}, Sim C ((Tr.mk need dst r.v r.ro r.mem r.mem' gs).apply A) a w S μ ν → Sim C ((Tr.mk need dst r'.v r'.ro r'.mem r'.mem' gs).apply A) a w S μ ν := by
 obtain ⟨cn, ce⟩ := c.eq
 obtain ⟨v, ro, mem, mem', ob⟩ := r
 unfold normM at h
 split at h
 ·rename_i κ n f hmem
  dsimp only at hmem
  subst hmem
  split at h
  ·rename_i hv
   dsimp only at hv
   subst hv
   simp only [Option.some.injEq] at h
   subst h
   obtain ⟨o1, o2⟩ := Ob.and_den hob
   obtain ⟨o5, o6⟩ := Ob.and_den o2
   have o5 : n = c.n := o5
   have o6 : f = c.f := o6
   refine ⟨o1, rfl, rfl, rfl, fun hs => ?_⟩
   refine hs.weaken (fun t v hv => hv) (fun κ' b' hb' => ?_)
   simp only [Tr.apply, lookC] at hb' ⊢
   by_cases hk : κ = κ'
   ·subst hk
    simp only [if_true, Option.some.injEq] at hb' ⊢
    subst hb'
    exact ⟨_, rfl, fun y => mp_ok (o5.trans cn) (fun i hi => by rw [o6]; exact ce i (by omega)) y⟩
   ·simp only [hk, if_false] at hb' ⊢
    exact ⟨b', hb', fun _ h => h⟩
  ·rename_i hv
   dsimp only at hv
   subst hv
   simp only [Option.some.injEq] at h
   subst h
   obtain ⟨o1, o2⟩ := Ob.and_den hob
   obtain ⟨o5, o6⟩ := Ob.and_den o2
   have o5 : n = c.n := o5
   have o6 : f = c.f := o6
   refine ⟨o1, rfl, rfl, rfl, fun hs => ?_⟩
   refine hs.weaken (fun t v hv => hv) (fun κ' b' hb' => ?_)
   simp only [Tr.apply, lookC] at hb' ⊢
   by_cases hk : κ = κ'
   ·subst hk
    simp only [if_true, Option.some.injEq] at hb' ⊢
    subst hb'
    exact ⟨_, rfl, fun y => mp_ok (o5.trans cn) (fun i hi => by rw [o6]; exact ce i (by omega)) y⟩
   ·simp only [hk, if_false] at hb' ⊢
    exact ⟨b', hb', fun _ h => h⟩
  ·rename_i hv
   dsimp only at hv
   subst hv
   simp only [Option.some.injEq] at h
   subst h
   obtain ⟨o1, o2⟩ := Ob.and_den hob
   obtain ⟨o5, o6⟩ := Ob.and_den o2
   have o5 : n = c.n := o5
   have o6 : f = c.f := o6
   refine ⟨o1, rfl, rfl, rfl, fun hs => ?_⟩
   refine hs.weaken (fun t v hv => hv) (fun κ' b' hb' => ?_)
   simp only [Tr.apply, lookC] at hb' ⊢
   by_cases hk : κ = κ'
   ·subst hk
    simp only [if_true, Option.some.injEq] at hb' ⊢
    subst hb'
    exact ⟨_, rfl, fun y => mp_ok (o5.trans cn) (fun i hi => by rw [o6]; exact ce i (by omega)) y⟩
   ·simp only [hk, if_false] at hb' ⊢
    exact ⟨b', hb', fun _ h => h⟩
  ·cases h
 ·rename_i κ n f hmem
  dsimp only at hmem
  subst hmem
  split at h
  ·rename_i hv
   dsimp only at hv
   subst hv
   simp only [Option.some.injEq] at h
   subst h
   obtain ⟨o1, o2⟩ := Ob.and_den hob
   obtain ⟨o5, o6⟩ := Ob.and_den o2
   have o5 : n = c.n := o5
   have o6 : f = c.f := o6
   refine ⟨o1, rfl, rfl, rfl, fun hs => ?_⟩
   refine hs.weaken (fun t v hv => hv) (fun κ' b' hb' => ?_)
   simp only [Tr.apply, lookC] at hb' ⊢
   by_cases hk : κ = κ'
   ·subst hk
    simp only [if_true, Option.some.injEq] at hb' ⊢
    subst hb'
    exact ⟨_, rfl, fun y => ml_ok (o5.trans cn) (fun i hi => by rw [o6]; exact ce i (by omega)) y⟩
   ·simp only [hk, if_false] at hb' ⊢
    exact ⟨b', hb', fun _ h => h⟩
  ·cases h
 ·cases h
theorem castR_sim {c : CastC} {r : R} (hob : (castR c r).ob.den) : r.ob.den ∧
  ∀ {A : M} {dst : Option Nat} {need : List (Nat × AV)} {gs : List (Nat × Bool)} {a : Act} {w : World} {S : Nat → Prop} {μ : Mu} {ν : Nat → Bool}, Sim C ((Tr.mk need dst r.v r.ro r.mem r.mem' gs).apply A) a w S μ ν → Sim C ((Tr.mk need dst c.y r.ro r.mem r.mem' gs).apply A) a w S μ ν := by
 obtain ⟨o1, o2⟩ := Ob.and_den hob
 have o2 : r.v = c.x := o2
 refine ⟨o1, fun hs => ?_⟩
 refine hs.weaken (fun t v hv => ?_) (fun κ' b' hb' => ⟨b', hb', fun _ h => h⟩)
 simp only [Tr.apply] at hv ⊢
 split
 ·rename_i hd
  simp only [hd, if_true] at hv
  rw [o2] at hv
  exact c.le _ _ _ _ _ hv
 ·rename_i hd
  simp only [hd, if_false] at hv
  exact hv
theorem evOp_sound {T : List (Nat × TI)} (hT : TOk C.P T) (hs : Sim C A a w S μ ν) {lb : List (Nat × Blk)} {o : Oper} {ρ : Operand → Option AV} (hρ : ∀ x y, ρ x = some y → Rel w S μ ν y (a.eval x)) (hd : ∀ t, o.dst = some t → t < C.nt) {quiet : Bool} {orc orc' : List Orc} {r : R}
  (h : evOp C.P T lb ρ o.dst quiet orc o.op = some (r, orc')) (hro : ∀ p, p ∈ r.ro → A.lb p.1 = some p.2) (hmem : ∀ p, p ∈ r.mem → A.lb p.1 = some p.2) (hob : r.ob.den) (hfr : ∀ κ, κ ∈ (r.mem'.map (·.1)).filter (fun k => !(r.mem.map (·.1)).contains k) → Fresh A κ) (need : List (Nat × AV)) (gs : List (Nat × Bool)) :
  o.wp C.P a w (fun a' w' => ∃ S' μ', Sim C ((Tr.mk need o.dst r.v r.ro r.mem r.mem' gs).apply A) a' w' S' μ' ν) (fun _ _ _ => False) := by
 unfold evOp at h
 split at h
 ·rename_i r0 orc1 h0
  split at h
  ·rename_i c orc2 _
   split at h
   ·rename_i r' hn
    simp only [Option.some.injEq, Prod.mk.injEq] at h
    obtain ⟨rfl, -⟩ := h
    obtain ⟨o1, e1, e2, e3, hsim⟩ := normR_sim (C := C) hn hob
    rw [e3, e2] at hfr
    rw [e1] at hro
    rw [e2] at hmem
    exact Oper.wp_mono (fun a' w' hh => let ⟨S', μ', hh⟩ := hh; ⟨S', μ', hsim hh⟩) (evOpM_sound hT hs hρ hd h0 hro hmem o1 hfr need gs)
   ·simp only [Option.some.injEq, Prod.mk.injEq] at h
    obtain ⟨rfl, -⟩ := h
    exact evOpM_sound hT hs hρ hd h0 hro hmem hob hfr need gs
  ·split at h
   ·rename_i r' hn
    simp only [Option.some.injEq, Prod.mk.injEq] at h
    obtain ⟨rfl, -⟩ := h
    obtain ⟨o1, e1, e2, e3, hsim⟩ := normM_sim (C := C) hn hob
    rw [e3, e2] at hfr
    rw [e1] at hro
    rw [e2] at hmem
    exact Oper.wp_mono (fun a' w' hh => let ⟨S', μ', hh⟩ := hh; ⟨S', μ', hsim hh⟩) (evOpM_sound hT hs hρ hd h0 hro hmem o1 hfr need gs)
   ·simp only [Option.some.injEq, Prod.mk.injEq] at h
    obtain ⟨rfl, -⟩ := h
    exact evOpM_sound hT hs hρ hd h0 hro hmem hob hfr need gs
  ·split at h
   ·generalize Nat.beq _ _ = bb at h
    cases bb with
    | false =>
     simp only [cond_false, Option.some.injEq, Prod.mk.injEq] at h
     obtain ⟨rfl, -⟩ := h
     exact evOpM_sound hT hs hρ hd h0 hro hmem hob hfr need gs
    | true =>
     simp only [cond_true, Option.some.injEq, Prod.mk.injEq] at h
     obtain ⟨rfl, -⟩ := h
     obtain ⟨o1, hsim⟩ := castR_sim (C := C) hob
     exact Oper.wp_mono (fun a' w' hh => let ⟨S', μ', hh⟩ := hh; ⟨S', μ', hsim hh⟩) (evOpM_sound hT hs hρ hd h0 hro hmem o1 hfr need gs)
   ·simp only [Option.some.injEq, Prod.mk.injEq] at h
    obtain ⟨rfl, -⟩ := h
    exact evOpM_sound hT hs hρ hd h0 hro hmem hob hfr need gs
  ·simp only [Option.some.injEq, Prod.mk.injEq] at h
   obtain ⟨rfl, -⟩ := h
   exact evOpM_sound hT hs hρ hd h0 hro hmem hob hfr need gs
 ·cases h
end
end Go.Av
