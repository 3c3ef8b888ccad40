/- Plain readings of loops: a walk over a list. -/
import Derived.Test.YtihmmpaalpghbaaGreatDoorAvTk
set_option linter.unusedSimpArgs false
set_option linter.unusedVariables false
namespace Go.Av
open Go
set_option linter.unusedSectionVars false
variable [Globs]
def Sk.isLoop : {α : Type} → Sk α → Bool
 | _, .loop .. => true
 | _, _ => false
def Sk.pstq : {α : Type} → Sk α → (α → Prop) → Prop
 | _, .fin a, L => L a
 | _, .br e x y, L => (e = true → x.pstq L) ∧ (e = false → y.pstq L)
 | _, .r _ c k, L => ∀ x, x = c.v → c.post x → (k x).pstq L
 | _, .wi _ _ _ k, L => k.pstq L
 | _, .wn _ _ _ k, L => k.pstq L
 | _, .wr _ _ _ k, L => k.pstq L
 | _, .brt k, L => k.pstq L
 | _, .brf k, L => k.pstq L
 | _, .dead a, L => L a
 | _, .bnd _ _ _ k, L => k.pstq L
 | _, .cas _ c _ _ x y, L => (c = true → x.pstq L) ∧ (c = false → y.pstq L)
 | _, .nsp _ _ _ k, L => k.pstq L
 | _, .fz _ k, L => k.pstq L
 | _, .op _ k, L => (k []).pstq L
 | _, .cl _ _ k, L => k.pstq L
 | _, .oq _ q k, L => (∃ m, q m) ∧ ∀ m, q m → (k m).pstq L
 | _, .cq _ _ _ k, L => k.pstq L
 | _, .ot _ Q _ _ _ k, L => (∃ m, Q m) ∧ ∀ m, Q m → (k m).pstq L
 | _, .ct _ _ _ _ _ k, L => k.pstq L
 | _, .orr _ Q _ _ k, L => (∃ m, Q m) ∧ ∀ m, Q m → (k m).pstq L
 | _, .cr _ _ _ _ _ k, L => k.pstq L
 | _, .nr _ _ _ _ _ k, L => k.pstq L
 | _, .fm _ k, L => k.pstq L
 | _, .fb _ k, L => k.pstq L
 | _, .up _ k, L => k.pstq L
 | _, .clr _ _ _ k, L => k.pstq L
 | _, .mr n V init _ _ b k, L => V [] init ∧ (∀ s g i, V s g → i < n → i ∉ s → (b g i).pstq (V (i :: s))) ∧ ∀ g, g = (List.range n).foldr (fun i g => (b g i).val) init → V (List.range n) g → (k g).pstq L
 | _, .bind _ J s _ k, L => s.pstq (leafB L J) ∧ ∀ b, (s.isLoop = false → s.val = .inr b) → J b → (k b).pstq L
 | _, .loop _ I m i0 _ b, L => I i0 ∧ ∀ i, I i → (b i).pstq (leafJ L fun j => I j ∧ m j < m i)
 | _, .rf it I B _ s0 _ _ b k, L => I 0 s0 ∧ (∀ i s y, I i s → it.ys[i]? = some y → (b s y).pstq (leafJ B (I (i + 1)))) ∧ ∀ r, leafJ B (I it.ys.length) r → (k r).pstq L
def Sk.obq : {α : Type} → Sk α → (α → Prop) → Prop
 | _, .fin a, L => L a
 | _, .br e x y, L => (e = true → x.obq L) ∧ (e = false → y.obq L)
 | _, .r _ c k, L => c.pre ∧ ∀ x, x = c.v → c.post x → (k x).obq L
 | _, .wi _ m n k, L => m = n ∧ k.obq L
 | _, .wn _ n n' k, L => n = n' ∧ k.obq L
 | _, .wr _ n n' k, L => n = n' ∧ k.obq L
 | _, .brt k, L => k.obq L
 | _, .brf k, L => k.obq L
 | _, .dead _, _ => False
 | _, .bnd _ _ n k, L => n ≤ maxLen → k.obq L
 | _, .cas _ c _ _ x y, L => (c = true → x.obq L) ∧ (c = false → y.obq L)
 | _, .nsp _ n k1 k2, L => (n = 0 → k1.obq L ∧ k1.val = k2.val) ∧ k2.obq L
 | _, .fz _ k, L => k.obq L
 | _, .op _ k, L => ∀ m, (k m).val = (k []).val ∧ (k m).obq L
 | _, .cl _ _ k, L => k.obq L
 | _, .oq _ q k, L => ∀ m, q m → (k m).val = (k (canon q)).val ∧ (k m).obq L
 | _, .cq _ m q k, L => q m ∧ k.obq L
 | _, .ot _ Q _ _ d k, L => ∀ m, Q m → (k m).val = (k (canonY Q d)).val ∧ (k m).obq L
 | _, .ct _ Q _ _ y k, L => Q y ∧ k.obq L
 | _, .orr _ Q _ d k, L => ∀ m, Q m → (k m).val = (k (canonY Q d)).val ∧ (k m).obq L
 | _, .cr _ _ Q _ y k, L => Q y ∧ k.obq L
 | _, .nr _ _ _ _ _ k, L => k.obq L
 | _, .fm _ k, L => k.obq L
 | _, .fb _ k, L => k.obq L
 | _, .up _ k, L => k.obq L
 | _, .clr _ x c k, L => (0 ≤ x ∧ x ≤ (c.n : Int)) ∧ k.obq L
 | _, .mr n V init _ _ b k, L => V [] init ∧ (∀ s g i, V s g → i < n → i ∉ s → (b g i).pst (V (i :: s)) ∧ (b g i).obq fun _ => True) ∧ (∀ s g i j, V s g → i < n → j < n → i ≠ j → i ∉ s → j ∉ s → (b (b g j).val i).val = (b (b g i).val j).val) ∧ ∀ g, g = (List.range n).foldr (fun i g => (b g i).val) init → V (List.range n) g → (k g).obq L
 | _, .bind _ J s _ k, L => s.obq (leafB L J) ∧ ∀ b, (s.isLoop = false → s.val = .inr b) → J b → (k b).obq L
 | _, .loop _ I m i0 _ b, L => I i0 ∧ ∀ i, I i → (b i).obq (leafJ L fun j => I j ∧ m j < m i)
 | _, .rf it I B _ s0 _ _ b k, L => it.pre ∧ I 0 s0 ∧ (∀ i s y, I i s → it.ys[i]? = some y → (b s y).pstq (leafJ B (I (i + 1))) ∧ (b s y).obq (leafJ B (I (i + 1)))) ∧ ∀ r, leafJ B (I it.ys.length) r → (k r).obq L
theorem Sk.pst_of : {α : Type} → (s : Sk α) → {L : α → Prop} → s.pstq L → s.pst L
 | _, .fin _, _, h => h
 | _, .br _ x y, _, h => ⟨fun e => x.pst_of (h.1 e), fun e => y.pst_of (h.2 e)⟩
 | _, .r _ _ k, _, h => fun x e p => (k x).pst_of (h x e p)
 | _, .wi _ _ _ k, L, h => k.pst_of (L := L) h
 | _, .wn _ _ _ k, L, h => k.pst_of (L := L) h
 | _, .wr _ _ _ k, L, h => k.pst_of (L := L) h
 | _, .brt k, L, h => k.pst_of (L := L) h
 | _, .brf k, L, h => k.pst_of (L := L) h
 | _, .dead _, _, h => h
 | _, .bnd _ _ _ k, L, h => k.pst_of (L := L) h
 | _, .cas _ _ _ _ x y, _, h => ⟨fun e => x.pst_of (h.1 e), fun e => y.pst_of (h.2 e)⟩
 | _, .nsp _ _ _ k, L, h => k.pst_of (L := L) h
 | _, .fz _ k, L, h => k.pst_of (L := L) h
 | _, .op _ k, L, h => (k []).pst_of (L := L) h
 | _, .cl _ _ k, L, h => k.pst_of (L := L) h
 | _, .oq _ _ k, L, h => ⟨h.1, fun m hm => (k m).pst_of (L := L) (h.2 m hm)⟩
 | _, .cq _ _ _ k, L, h => k.pst_of (L := L) h
 | _, .ot _ _ _ _ _ k, L, h => ⟨h.1, fun m hm => (k m).pst_of (L := L) (h.2 m hm)⟩
 | _, .ct _ _ _ _ _ k, L, h => k.pst_of (L := L) h
 | _, .orr _ _ _ _ k, L, h => ⟨h.1, fun m hm => (k m).pst_of (L := L) (h.2 m hm)⟩
 | _, .cr _ _ _ _ _ k, L, h => k.pst_of (L := L) h
 | _, .nr _ _ _ _ _ k, L, h => k.pst_of (L := L) h
 | _, .fm _ k, L, h => k.pst_of (L := L) h
 | _, .fb _ k, L, h => k.pst_of (L := L) h
 | _, .up _ k, L, h => k.pst_of (L := L) h
 | _, .clr _ _ _ k, L, h => k.pst_of (L := L) h
 | _, .mr _ _ _ _ _ b k, _, h => ⟨h.1, fun s g i hg hi hn => (b g i).pst_of (h.2.1 s g i hg hi hn), fun g e hg => (k g).pst_of (h.2.2 g e hg)⟩
 | _, .bind _ _ s _ k, _, h => ⟨s.pst_of h.1, fun b e hb => (k b).pst_of (h.2 b (fun _ => e) hb)⟩
 | _, .loop _ _ _ _ _ b, _, h => ⟨h.1, fun i hi => (b i).pst_of (h.2 i hi)⟩
 | _, .rf _ _ _ _ _ _ _ b k, _, h => ⟨h.1, fun i s y hs hy => (b s y).pst_of (h.2.1 i s y hs hy), fun r _ hr => (k r).pst_of (h.2.2 r hr)⟩
theorem Sk.obs_of : {α : Type} → (s : Sk α) → {L : α → Prop} → s.obq L → s.obs L
 | _, .fin _, _, h => h
 | _, .br _ x y, _, h => ⟨fun e => x.obs_of (h.1 e), fun e => y.obs_of (h.2 e)⟩
 | _, .r _ _ k, _, h => ⟨h.1, fun x e p => (k x).obs_of (h.2 x e p)⟩
 | _, .wi _ _ _ k, L, h => ⟨h.1, k.obs_of (L := L) h.2⟩
 | _, .wn _ _ _ k, L, h => ⟨h.1, k.obs_of (L := L) h.2⟩
 | _, .wr _ _ _ k, L, h => ⟨h.1, k.obs_of (L := L) h.2⟩
 | _, .brt k, L, h => k.obs_of (L := L) h
 | _, .brf k, L, h => k.obs_of (L := L) h
 | _, .dead _, _, h => h.elim
 | _, .bnd _ _ _ k, L, h => fun hn => k.obs_of (L := L) (h hn)
 | _, .cas _ _ _ _ x y, _, h => ⟨fun e => x.obs_of (h.1 e), fun e => y.obs_of (h.2 e)⟩
 | _, .nsp _ _ k1 k2, L, h => ⟨fun e => ⟨k1.obs_of (L := L) (h.1 e).1, (h.1 e).2⟩, k2.obs_of (L := L) h.2⟩
 | _, .fz _ k, L, h => k.obs_of (L := L) h
 | _, .op _ k, L, h => fun m => ⟨(h m).1, (k m).obs_of (h m).2⟩
 | _, .cl _ _ k, L, h => k.obs_of (L := L) h
 | _, .oq _ _ k, L, h => fun m hm => ⟨(h m hm).1, (k m).obs_of (h m hm).2⟩
 | _, .cq _ _ _ k, L, h => ⟨h.1, k.obs_of (L := L) h.2⟩
 | _, .ot _ _ _ _ _ k, L, h => fun m hm => ⟨(h m hm).1, (k m).obs_of (h m hm).2⟩
 | _, .ct _ _ _ _ _ k, L, h => ⟨h.1, k.obs_of (L := L) h.2⟩
 | _, .orr _ _ _ _ k, L, h => fun m hm => ⟨(h m hm).1, (k m).obs_of (h m hm).2⟩
 | _, .cr _ _ _ _ _ k, L, h => ⟨h.1, k.obs_of (L := L) h.2⟩
 | _, .nr _ _ _ _ _ k, L, h => k.obs_of (L := L) h
 | _, .fm _ k, L, h => k.obs_of (L := L) h
 | _, .fb _ k, L, h => k.obs_of (L := L) h
 | _, .up _ k, L, h => k.obs_of (L := L) h
 | _, .clr _ _ _ k, L, h => ⟨h.1, k.obs_of (L := L) h.2⟩
 | _, .mr _ _ _ _ _ b k, _, h => ⟨h.1, fun s g i hg hi hn => ⟨(h.2.1 s g i hg hi hn).1, (b g i).obs_of (h.2.1 s g i hg hi hn).2⟩, h.2.2.1, fun g e hg => (k g).obs_of (h.2.2.2 g e hg)⟩
 | _, .bind _ _ s _ k, _, h => ⟨s.obs_of h.1, fun b e hb => (k b).obs_of (h.2 b (fun _ => e) hb)⟩
 | _, .loop _ _ _ _ _ b, _, h => ⟨h.1, fun i hi => (b i).obs_of (h.2 i hi)⟩
 | _, .rf _ _ _ _ _ _ _ b k, _, h => ⟨h.1, h.2.1, fun i s y hs hy => ⟨(b s y).pst_of (h.2.2.1 i s y hs hy).1, (b s y).obs_of (h.2.2.1 i s y hs hy).2⟩, fun r _ hr => (k r).obs_of (h.2.2.2 r hr)⟩
def walk {α σ β : Type} (step : α → σ → β ⊕ σ) (fin : σ → β) : List α → σ → β
 | [], s => fin s
 | x :: r, s => match step x s with
  | .inl b => b
  | .inr s' => walk step fin r s'
theorem iter_walk {α σ β ι : Type} [Inhabited α] (l : List α) (pack : σ → Nat → ι) {f : ι → β ⊕ ι} {d : β} (step : α → σ → β ⊕ σ) (fin : σ → β)
  (hs : ∀ s i, i < l.length → f (pack s i) = match step (l.getD i default) s with | .inl b => .inl b | .inr s' => .inr (pack s' (i + 1)))
  (he : ∀ s, f (pack s l.length) = .inl (fin s)) : ∀ (n i : Nat) (s : σ), i ≤ l.length → l.length - i < n → iter f d n (pack s i) = walk step fin (l.drop i) s
 | 0, i, s, _, hn => absurd hn (by omega)
 | n + 1, i, s, hi, hn => by
  simp only [iter]
  by_cases h : i < l.length
  ·rw [hs s i h, List.drop_eq_getElem_cons h, show l.getD i default = l[i] from by simp [List.getD, h]]
   simp only [walk]
   cases hst : step l[i] s with
   | inl b => rfl
   | inr s' => exact iter_walk l pack step fin hs he n (i + 1) s' h (by omega)
  ·obtain rfl : i = l.length := by omega
   rw [he s, List.drop_length]
   rfl
theorem iter_walk0 {α σ β ι : Type} [Inhabited α] (l : List α) (pack : σ → Nat → ι) {f : ι → β ⊕ ι} {d : β} (step : α → σ → β ⊕ σ) (fin : σ → β)
  (hs : ∀ s i, i < l.length → f (pack s i) = match step (l.getD i default) s with | .inl b => .inl b | .inr s' => .inr (pack s' (i + 1)))
  (he : ∀ s, f (pack s l.length) = .inl (fin s)) {n : Nat} (hn : l.length < n) (s : σ) : iter f d n (pack s 0) = walk step fin l s := by
 have := iter_walk (d := d) l pack step fin hs he n 0 s (Nat.zero_le _) (by omega)
 simpa using this
theorem walk_fold {α σ β : Type} (g : α → σ → σ) (fin : σ → β) : ∀ (l : List α) (s : σ), walk (fun x s => .inr (g x s)) fin l s = fin (l.foldl (fun s x => g x s) s)
 | [], _ => rfl
 | x :: r, s => by simp only [walk, List.foldl_cons]; exact walk_fold g fin r (g x s)
theorem lget_mem {α : Type} {l : List α} {i : Nat} (h : i < l.length) (d : α) : l.getD i d ∈ l := by
 rw [show l.getD i d = l[i] from by simp [List.getD, h]]
 exact List.getElem_mem h
theorem subL_length {α : Type} [Inhabited α] (L : List α) (lo n : Nat) : (subL L lo n).length = n := by simp [subL]
theorem LN : (∀ (p : Prop) [Decidable p], (decide p = true) = p) ∧ (∀ (p : Prop) [Decidable p], decide p = false ↔ ¬ p) ∧
  (∀ (α : Type) (a b : List α), (a ++ b).length = a.length + b.length) ∧ (∀ (α : Type) (x : α) (a : List α), (x :: a).length = a.length + 1) ∧ (∀ α : Type, ([] : List α).length = 0) ∧
  (∀ (α : Type) (a : List α) (i : Nat) (x : α), (a.set i x).length = a.length) ∧ (∀ (α : Type) (n : Nat) (x : α), (List.replicate n x).length = n) ∧
  (∀ b : Bool, (¬ b = true) = (b = false)) ∧ (∀ b : Bool, (¬ b = false) = (b = true)) ∧ (∀ a b : Int, ¬ a < b ↔ b ≤ a) ∧ (∀ a b : Int, ¬ a ≤ b ↔ b < a) ∧
  (∀ a b : Bool, ((a && b) = true) = (a = true ∧ b = true)) ∧ (∀ a b : Bool, ((a || b) = true) = (a = true ∨ b = true)) ∧ (∀ a b : Bool, (a && b) = false ↔ a = false ∨ b = false) ∧ (∀ a b : Bool, (a || b) = false ↔ a = false ∧ b = false) ∧
  (∀ a b : Bool, (!a) = b ↔ a = !b) ∧ ((!true) = false) ∧ ((!false) = true) ∧
  (∀ (α : Type) [BEq α] [LawfulBEq α] (a b : α), (a == b) = true ↔ a = b) ∧ (∀ (α : Type) [BEq α] [LawfulBEq α] (a b : α), (a != b) = true ↔ a ≠ b) ∧
  (∀ (α : Type) [BEq α] [LawfulBEq α] (a b : α), (a == b) = false ↔ a ≠ b) ∧ (∀ (α : Type) [BEq α] [LawfulBEq α] (a b : α), (a != b) = false ↔ a = b) ∧
  (∀ (α : Type) (a b : α), (a ≠ b) = ¬ a = b) ∧ (∀ (α : Type) [Inhabited α] (L : List α) (lo n : Nat), (subL L lo n).length = n) :=
 ⟨fun _ _ => decide_eq_true_eq, fun _ _ => decide_eq_false_iff_not, fun _ _ _ => List.length_append, fun _ _ _ => rfl, fun _ => rfl, fun _ _ _ _ => List.length_set, fun _ _ _ => List.length_replicate,
  Bool.not_eq_true, Bool.not_eq_false, fun _ _ => Int.not_lt, fun _ _ => Int.not_le, Bool.and_eq_true, Bool.or_eq_true, fun _ _ => Bool.and_eq_false_iff, fun _ _ => Bool.or_eq_false_iff,
  fun _ _ => Bool.not_eq_eq_eq_not, rfl, rfl, fun _ _ _ _ _ => beq_iff_eq, fun _ _ _ _ _ => bne_iff_ne, fun _ _ _ _ _ => beq_eq_false_iff_ne, fun _ _ _ _ _ => bne_eq_false_iff_eq, fun _ _ _ => rfl, fun _ _ => subL_length⟩
theorem ON : (∀ (x : Unit), Cal.z.post x = True) ∧
 (∀ (p : Prop) (x : Unit), (Cal.p p).post x = True) ∧
 (∀ {p : Prop} (h : p) (x : Unit), (Cal.t h).post x = True) ∧
 (∀ (p : Prop) {q : Prop} (h : q) (x : Unit), (Cal.pt p h).post x = True) ∧
 (∀ (l : List Orc) (x : Unit), (Cal.o l).post x = True) ∧
 (∀ {α β : Type} (a : Cal α) (b : Cal β) (x : α × β), (a.and b).post x = (a.post x.1 ∧ b.post x.2)) ∧
 (∀ {β : Type} (a : Cal Unit) (b : Cal β) (x : β), (a.andl b).post x = b.post x) ∧
 (∀ {β : Type} (a : Cal β) (b : Cal Unit) (x : β), (a.andr b).post x = a.post x) ∧
 (∀ {β : Type} (e w : Bool) (a : Cal β) (x : β), (a.wh e w).post x = a.post x) ∧
 (∀ {α β : Type} (a : Cal α) (b : α → Cal β) (x : α × β), (a.dep b).post x = (a.post x.1 ∧ (b x.1).post x.2)) ∧
 (∀ {α : Type} (a : Cal α) (b : α → Cal Unit) (x : α), (a.depr b).post x = a.post x) ∧
 (∀ {β : Type} (c : Ctr β) (x : β), c.c.post x = c.post x) ∧
 (∀ {β : Type} (c : Ctr β) (i : Nat) (h : ∃ g, c.args[i]? = some (.d (.sl 0 g))) (x : β), (c.nil i h).post x = c.post x) ∧
 (∀ {β : Type} (c : Ctr β) (i j : Nat) (cs : List D) (h : c.args[i]? = some (.d (.agg cs))) (h2 : ∃ g, cs[j]? = some (.sl 0 g)) (x : β), (c.nilc i j cs h h2).post x = c.post x) ∧
 (Cal.z.pre = True) ∧
 (∀ (p : Prop), (Cal.p p).pre = p) ∧
 (∀ {p : Prop} (h : p), (Cal.t h).pre = True) ∧
 (∀ (p : Prop) {q : Prop} (h : q), (Cal.pt p h).pre = p) ∧
 (∀ (l : List Orc), (Cal.o l).pre = True) ∧
 (∀ {α β : Type} (a : Cal α) (b : Cal β), (a.and b).pre = (a.pre ∧ b.pre)) ∧
 (∀ {β : Type} (a : Cal Unit) (b : Cal β), (a.andl b).pre = (a.pre ∧ b.pre)) ∧
 (∀ {β : Type} (a : Cal β) (b : Cal Unit), (a.andr b).pre = (a.pre ∧ b.pre)) ∧
 (∀ {β : Type} (e w : Bool) (a : Cal β), (a.wh e w).pre = (e = w → a.pre)) ∧
 (∀ {α β : Type} (a : Cal α) (b : α → Cal β), (a.dep b).pre = (a.pre ∧ ∀ x, x = a.v → a.post x → (b x).pre)) ∧
 (∀ {α : Type} (a : Cal α) (b : α → Cal Unit), (a.depr b).pre = (a.pre ∧ ∀ x, x = a.v → a.post x → (b x).pre)) ∧
 (∀ {α β : Type} (a : Cal α) (b : α → Cal β), (a.dep b).v = (a.v, (b a.v).v)) ∧
 (∀ {α : Type} (a : Cal α) (b : α → Cal Unit), (a.depr b).v = a.v) ∧
 (∀ {β : Type} (c : Ctr β), c.c.pre = c.pre) ∧
 (∀ {β : Type} (c : Ctr β), c.c.v = c.v) ∧
 (∀ {β : Type} (c : Ctr β) (i : Nat) (h : ∃ g, c.args[i]? = some (.d (.sl 0 g))), (c.nil i h).pre = c.pre) ∧
 (∀ {β : Type} (c : Ctr β) (i : Nat) (h : ∃ g, c.args[i]? = some (.d (.sl 0 g))), (c.nil i h).v = c.v) ∧
 (∀ {β : Type} (c : Ctr β) (i j : Nat) (cs : List D) (h : c.args[i]? = some (.d (.agg cs))) (h2 : ∃ g, cs[j]? = some (.sl 0 g)), (c.nilc i j cs h h2).pre = c.pre) ∧
 (∀ {β : Type} (c : Ctr β) (i j : Nat) (cs : List D) (h : c.args[i]? = some (.d (.agg cs))) (h2 : ∃ g, cs[j]? = some (.sl 0 g)), (c.nilc i j cs h h2).v = c.v) ∧
 (∀ {α β : Type} (a : Cal α) (b : Cal β), (a.and b).v = (a.v, b.v)) ∧
 (∀ {β : Type} (a : Cal Unit) (b : Cal β), (a.andl b).v = b.v) ∧
 (∀ {β : Type} (a : Cal β) (b : Cal Unit), (a.andr b).v = a.v) ∧
 (∀ {β : Type} (e w : Bool) (a : Cal β), (a.wh e w).v = a.v) ∧
 (∀ {β : Type} (c : CtrO β), c.c.pre = c.pre) ∧
 (∀ {β : Type} (c : CtrO β), c.c.v = c.v) ∧
 (∀ {β : Type} (c : CtrO β) (i : Nat) (h : ∃ g, c.args[i]? = some (.d (.sl 0 g))), (c.nil i h).pre = c.pre) ∧
 (∀ {β : Type} (c : CtrO β) (i : Nat) (h : ∃ g, c.args[i]? = some (.d (.sl 0 g))), (c.nil i h).v = c.v) ∧
 (∀ {β : Type} (c : CtrO β) (x : β), c.c.post x = c.post x) ∧
 (∀ {β : Type} (c : CtrO β) (i : Nat) (h : ∃ g, c.args[i]? = some (.d (.sl 0 g))) (x : β), (c.nil i h).post x = c.post x) ∧
 (∀ {α β : Type} (L : α → Prop) (J : β → Prop) (a : α), leafB L J (.inl a) = L a) ∧
 (∀ {α β : Type} (L : α → Prop) (J : β → Prop) (b : β), leafB L J (.inr b) = J b) ∧
 (∀ {α β : Type} (L : α → Prop) (J : β → Prop) (a : α), leafJ L J (.inl a) = L a) ∧
 (∀ {α β : Type} (L : α → Prop) (J : β → Prop) (b : β), leafJ L J (.inr b) = J b) ∧
 (∀ (i : Int) (n : Nat), ixP i n = (0 ≤ i ∧ i < (n : Int))) ∧
 (∀ n m bytes : Nat, szP n m bytes = (n + m ≤ maxLen ∧ (n + m) * bytes ≤ 140737488355328)) ∧
 (∀ (n : Int) (bytes : Nat), mkP n bytes = (0 ≤ n ∧ n.toNat ≤ maxLen ∧ n.toNat * bytes ≤ 140737488355328)) ∧
 (∀ α : Prop, (α → True) = True) ∧
 (∀ α : Type, (α → True) = True) ∧
 (∀ p : Prop, (True ∧ p) = p) ∧
 (∀ p : Prop, (p ∧ True) = p) ∧
 (∀ p : Prop, (p ∧ p) = p) ∧
 (∀ p : Prop, (True → p) = p) ∧
 (∀ p : Prop, (False → p) = True) := by
 refine ⟨?_, ?_, ?_, ?_, ?_, ?_, ?_, ?_, ?_, ?_, ?_, ?_, ?_, ?_, ?_, ?_, ?_, ?_, ?_, ?_, ?_, ?_, ?_, ?_, ?_, ?_, ?_, ?_, ?_, ?_, ?_, ?_, ?_, ?_, ?_, ?_, ?_, ?_, ?_, ?_, ?_, ?_, ?_, ?_, ?_, ?_, ?_, ?_, ?_, ?_, ?_, ?_, ?_, ?_, ?_, ?_, ?_⟩
 all_goals first | rfl | (intros; rfl) | (intros; simp)
def kk {P : Program} {T : List (Nat × TI)} (hT : TOk P T) (hm : P.follows .mixedOrders = true) {f : FuncId} {fn : Func} (hf : P.funcs[f]? = some fn) (args : List AV) {α : Type} (enc : α → AV) (fl : Bool) (s : Sk α) (v : α) {pre : Prop} (ok : pre → s.obs fun _ => True)
  (post : α → Prop := fun _ => True) (hp : post v := by trivial) (hv : v = s.val := by exact id rfl) (n : Nat := 3000) (hb : fn.body.isSome = true := by exact id (by kernel_rfl)) (hc : (callable P f && Nat.ble args.length fn.ntmps) = true := by exact id (by kernel_rfl))
  (h : chk P T fn.ntmps fn.results.toList (resM fn.results.toList) 0 [] n [.code (fn.body.get hb)] ⟨argSlots 0 args, []⟩ (fun a => .ret (enc a) []) s = (chk P T fn.ntmps fn.results.toList (resM fn.results.toList) 0 [] n [.code (fn.body.get hb)] ⟨argSlots 0 args, []⟩ (fun a => .ret (enc a) []) s).diag := by exact id (by kernel_rfl)) : Ctr α :=
 ⟨P, f, args, enc, fl, v, pre, fun hp => hv ▸ FnA.sk hT hm enc (fun _ => []) hf (Option.some_get hb).symm hc n s h (ok hp), post, hp⟩
theorem u0 {c : Prop} (f : c) (_ : True) : c := f
theorem u2 {a b c : Prop} (f : a → b → c) (h : a ∧ b) : c := f h.1 h.2
theorem u3 {a b c d : Prop} (f : a → b → c → d) (h : a ∧ b ∧ c) : d := f h.1 h.2.1 h.2.2
def kp {P : Program} {T : List (Nat × TI)} (hT : TOk P T) (hm : P.follows .mixedOrders = true) {f : FuncId} {fn : Func} (hf : P.funcs[f]? = some fn) (args : List AV) {α : Type} (enc : α → AV) (fl : Bool) {s : Sk α} (v : α) {pre : Prop} (ok : pre → s.obs fun _ => True)
  {post : α → Prop} (hq : s.pst post) (hv : v = s.val := by exact id rfl) (n : Nat := 3000) (hb : fn.body.isSome = true := by exact id (by kernel_rfl)) (hc : (callable P f && Nat.ble args.length fn.ntmps) = true := by exact id (by kernel_rfl))
  (h : chk P T fn.ntmps fn.results.toList (resM fn.results.toList) 0 [] n [.code (fn.body.get hb)] ⟨argSlots 0 args, []⟩ (fun a => .ret (enc a) []) s = (chk P T fn.ntmps fn.results.toList (resM fn.results.toList) 0 [] n [.code (fn.body.get hb)] ⟨argSlots 0 args, []⟩ (fun a => .ret (enc a) []) s).diag := by exact id (by kernel_rfl)) : Ctr α :=
 ⟨P, f, args, enc, fl, v, pre, fun hp => hv ▸ FnA.sk hT hm enc (fun _ => []) hf (Option.some_get hb).symm hc n s h (ok hp), post, hv ▸ Sk.pval s hq⟩
@[simp] theorem kk_v {P : Program} {T : List (Nat × TI)} (hT : TOk P T) (hm : P.follows .mixedOrders = true) {f : FuncId} {fn : Func} (hf : P.funcs[f]? = some fn) (args : List AV) {α : Type} (enc : α → AV) (fl : Bool) (s : Sk α) (v : α) {pre : Prop} (ok : pre → s.obs fun _ => True) (post : α → Prop) (hp : post v) (hv : v = s.val) (n : Nat) (hb : fn.body.isSome = true) (hc : (callable P f && Nat.ble args.length fn.ntmps) = true) (h : chk P T fn.ntmps fn.results.toList (resM fn.results.toList) 0 [] n [.code (fn.body.get hb)] ⟨argSlots 0 args, []⟩ (fun a => .ret (enc a) []) s = (chk P T fn.ntmps fn.results.toList (resM fn.results.toList) 0 [] n [.code (fn.body.get hb)] ⟨argSlots 0 args, []⟩ (fun a => .ret (enc a) []) s).diag) : (kk hT hm hf args enc fl s v ok post hp hv n hb hc h).v = v := rfl
@[simp] theorem kk_pre {P : Program} {T : List (Nat × TI)} (hT : TOk P T) (hm : P.follows .mixedOrders = true) {f : FuncId} {fn : Func} (hf : P.funcs[f]? = some fn) (args : List AV) {α : Type} (enc : α → AV) (fl : Bool) (s : Sk α) (v : α) {pre : Prop} (ok : pre → s.obs fun _ => True) (post : α → Prop) (hp : post v) (hv : v = s.val) (n : Nat) (hb : fn.body.isSome = true) (hc : (callable P f && Nat.ble args.length fn.ntmps) = true) (h : chk P T fn.ntmps fn.results.toList (resM fn.results.toList) 0 [] n [.code (fn.body.get hb)] ⟨argSlots 0 args, []⟩ (fun a => .ret (enc a) []) s = (chk P T fn.ntmps fn.results.toList (resM fn.results.toList) 0 [] n [.code (fn.body.get hb)] ⟨argSlots 0 args, []⟩ (fun a => .ret (enc a) []) s).diag) : (kk hT hm hf args enc fl s v ok post hp hv n hb hc h).pre = pre := rfl
@[simp] theorem kk_post {P : Program} {T : List (Nat × TI)} (hT : TOk P T) (hm : P.follows .mixedOrders = true) {f : FuncId} {fn : Func} (hf : P.funcs[f]? = some fn) (args : List AV) {α : Type} (enc : α → AV) (fl : Bool) (s : Sk α) (v : α) {pre : Prop} (ok : pre → s.obs fun _ => True) (post : α → Prop) (hp : post v) (hv : v = s.val) (n : Nat) (hb : fn.body.isSome = true) (hc : (callable P f && Nat.ble args.length fn.ntmps) = true) (h : chk P T fn.ntmps fn.results.toList (resM fn.results.toList) 0 [] n [.code (fn.body.get hb)] ⟨argSlots 0 args, []⟩ (fun a => .ret (enc a) []) s = (chk P T fn.ntmps fn.results.toList (resM fn.results.toList) 0 [] n [.code (fn.body.get hb)] ⟨argSlots 0 args, []⟩ (fun a => .ret (enc a) []) s).diag) : (kk hT hm hf args enc fl s v ok post hp hv n hb hc h).post = post := rfl
theorem okE {p : Prop} (h : p := by
 refine Sk.obs_of _ ?_
 simp only [Sk.obq, Sk.isLoop, reduceCtorEq, leafB, leafJ, Cal.z, Cal.p, Cal.t, Cal.pt, Cal.o, Cal.and, Cal.andl, Cal.andr, Cal.wh, Cal.dep, Cal.depr, Ctr.c, kk, kp, Ctr.nil, Ctr.nilc, CtrO.c, CtrO.nil, Sk.pst, Sk.pstq, maxLen, implies_true, true_and, and_true, and_self, true_implies, false_implies, ixP, szP, mkP]) : p := h
theorem okD {p : Prop} (h : p := by
 refine Sk.obs_of _ ?_
 simp only [Sk.obq, Sk.isLoop, reduceCtorEq, leafB, leafJ, Cal.z, Cal.p, Cal.t, Cal.pt, Cal.o, Cal.and, Cal.andl, Cal.andr, Cal.wh, Cal.dep, Cal.depr, Ctr.c, kk, kp, Ctr.nil, Ctr.nilc, CtrO.c, CtrO.nil, Sk.pst, Sk.pstq, maxLen, implies_true, true_and, and_true, and_self, true_implies, false_implies, ixP, szP, mkP]
 all_goals (repeat' first | assumption | (apply And.intro) | (intro h))
 all_goals first | trivial | assumption | omega | ((try simp only [LN] at *) <;> first | omega | (refine (w64_id ?_ ?_).trans ?_ <;> omega) | (simp (disch := omega) only [w64_id] at *; omega) | (grind) | (simp_all; done) | (simp_all; omega))) : p := h
theorem okG {p : Prop} (h : p := by
 refine Sk.obs_of _ ?_
 simp only [Sk.obq, Sk.isLoop, reduceCtorEq, leafB, leafJ, Cal.z, Cal.p, Cal.t, Cal.pt, Cal.o, Cal.and, Cal.andl, Cal.andr, Cal.wh, Cal.dep, Cal.depr, Ctr.c, kk, kp, Ctr.nil, Ctr.nilc, CtrO.c, CtrO.nil, Sk.pst, Sk.pstq, forall_eq, Sum.forall, maxLen, implies_true, true_and, and_true, and_self, true_implies, false_implies, ixP, szP, mkP]
 all_goals (repeat' first | assumption | (apply And.intro) | (intro h))
 all_goals first | trivial | assumption | omega | ((try simp only [LN] at *) <;> first | omega | (refine (w64_id ?_ ?_).trans ?_ <;> omega) | (simp (disch := omega) only [w64_id] at *; omega) | (grind) | (simp_all; done) | (simp_all; omega))) : p := h
theorem okP {p : Prop} (h : p := by
 refine Sk.pst_of _ ?_
 simp only [Sk.isLoop, reduceCtorEq, leafB, leafJ, Cal.z, Cal.p, Cal.t, Cal.pt, Cal.o, Cal.and, Cal.andl, Cal.andr, Cal.wh, Cal.dep, Cal.depr, Ctr.c, kk, kp, Ctr.nil, Ctr.nilc, CtrO.c, CtrO.nil, Sk.pstq, maxLen, implies_true, true_and, and_true, and_self, true_implies, false_implies, ixP, szP, mkP]
 all_goals (repeat' first | assumption | (apply And.intro) | (intro h))
 all_goals first | trivial | assumption | omega | ((try simp only [LN] at *) <;> first | omega | (refine (w64_id ?_ ?_).trans ?_ <;> omega) | (simp (disch := omega) only [w64_id] at *; omega) | (grind) | (simp_all; done) | (simp_all; omega))) : p := h
theorem okQ {p : Prop} (h : p := by
 refine Sk.pst_of _ ?_
 simp only [Sk.isLoop, reduceCtorEq, leafB, leafJ, Cal.z, Cal.p, Cal.t, Cal.pt, Cal.o, Cal.and, Cal.andl, Cal.andr, Cal.wh, Cal.dep, Cal.depr, Ctr.c, kk, kp, Ctr.nil, Ctr.nilc, CtrO.c, CtrO.nil, Sk.pstq, forall_eq, Sum.forall, maxLen, implies_true, true_and, and_true, and_self, true_implies, false_implies, ixP, szP, mkP]
 all_goals (repeat' first | assumption | (apply And.intro) | (intro h))
 all_goals first | trivial | assumption | omega | ((try simp only [LN] at *) <;> first | omega | (refine (w64_id ?_ ?_).trans ?_ <;> omega) | (simp (disch := omega) only [w64_id] at *; omega) | (grind) | (simp_all; done) | (simp_all; omega))) : p := h
end Go.Av
