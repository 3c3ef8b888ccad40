/- Plain readings of loops: a walk over a list. -/
import Derived.Test.YtggilgghigileaaGreatDoorAvT
set_option linter.unusedSimpArgs false
set_option linter.unusedVariables false
namespace Go.Av
open Go
set_option linter.unusedSectionVars false
variable [Globs]

/-! obligations without what a loop's value is -/
def Sk.isLoop : {α : Type} → Sk α → Bool
  | _, .loop .. => true
  | _, _ => false

def Sk.pstq : {α : Type} → Sk α → (α → Prop) → Prop
  | _, .fin a, L => L a
  | _, .br e x y, L => (e = true → x.pstq L) ∧ (e = false → y.pstq L)
  | _, .r _ c k, L => ∀ x, x = c.v → c.post x → (k x).pstq L
  | _, .wi _ _ _ k, L => k.pstq L
  | _, .wn _ _ _ k, L => k.pstq L
  | _, .brt k, L => k.pstq L
  | _, .brf k, L => k.pstq L
  | _, .dead a, L => L a
  | _, .bnd _ _ _ k, L => k.pstq L
  | _, .cas _ c _ _ x y, L => (c = true → x.pstq L) ∧ (c = false → y.pstq L)
  | _, .nsp _ _ _ k, L => k.pstq L
  | _, .fz _ k, L => k.pstq L
  | _, .mr n V init _ _ b k, L => V init ∧ (∀ g i, V g → i < n → (b g i).pstq V) ∧ ∀ g, g = (List.range n).foldr (fun i g => (b g i).val) init → V g → (k g).pstq L
  | _, .bind _ J s _ k, L => s.pstq (leafB L J) ∧ ∀ b, (s.isLoop = false → s.val = .inr b) → J b → (k b).pstq L
  | _, .loop _ I m i0 _ b, L => I i0 ∧ ∀ i, I i → (b i).pstq (leafJ L fun j => I j ∧ m j < m i)

def Sk.obq : {α : Type} → Sk α → (α → Prop) → Prop
  | _, .fin a, L => L a
  | _, .br e x y, L => (e = true → x.obq L) ∧ (e = false → y.obq L)
  | _, .r _ c k, L => c.pre ∧ ∀ x, x = c.v → c.post x → (k x).obq L
  | _, .wi _ m n k, L => m = n ∧ k.obq L
  | _, .wn _ n n' k, L => n = n' ∧ k.obq L
  | _, .brt k, L => k.obq L
  | _, .brf k, L => k.obq L
  | _, .dead _, _ => False
  | _, .bnd _ _ n k, L => n ≤ maxLen → k.obq L
  | _, .cas _ c _ _ x y, L => (c = true → x.obq L) ∧ (c = false → y.obq L)
  | _, .nsp _ n k1 k2, L => (n = 0 → k1.obq L ∧ k1.val = k2.val) ∧ k2.obq L
  | _, .fz _ k, L => k.obq L
  | _, .mr n V init _ _ b k, L => V init ∧ (∀ g i, V g → i < n → (b g i).pst V ∧ (b g i).obq fun _ => True) ∧ (∀ g i j, V g → i < n → j < n → i ≠ j → (b (b g j).val i).val = (b (b g i).val j).val) ∧ ∀ g, g = (List.range n).foldr (fun i g => (b g i).val) init → V g → (k g).obq L
  | _, .bind _ J s _ k, L => s.obq (leafB L J) ∧ ∀ b, (s.isLoop = false → s.val = .inr b) → J b → (k b).obq L
  | _, .loop _ I m i0 _ b, L => I i0 ∧ ∀ i, I i → (b i).obq (leafJ L fun j => I j ∧ m j < m i)

theorem Sk.pst_of : {α : Type} → (s : Sk α) → {L : α → Prop} → s.pstq L → s.pst L
  | _, .fin _, _, h => h
  | _, .br _ x y, _, h => ⟨fun e => x.pst_of (h.1 e), fun e => y.pst_of (h.2 e)⟩
  | _, .r _ _ k, _, h => fun x e p => (k x).pst_of (h x e p)
  | _, .wi _ _ _ k, L, h => k.pst_of (L := L) h
  | _, .wn _ _ _ k, L, h => k.pst_of (L := L) h
  | _, .brt k, L, h => k.pst_of (L := L) h
  | _, .brf k, L, h => k.pst_of (L := L) h
  | _, .dead _, _, h => h
  | _, .bnd _ _ _ k, L, h => k.pst_of (L := L) h
  | _, .cas _ _ _ _ x y, _, h => ⟨fun e => x.pst_of (h.1 e), fun e => y.pst_of (h.2 e)⟩
  | _, .nsp _ _ _ k, L, h => k.pst_of (L := L) h
  | _, .fz _ k, L, h => k.pst_of (L := L) h
  | _, .mr _ _ _ _ _ b k, _, h => ⟨h.1, fun g i hg hi => (b g i).pst_of (h.2.1 g i hg hi), fun g e hg => (k g).pst_of (h.2.2 g e hg)⟩
  | _, .bind _ _ s _ k, _, h => ⟨s.pst_of h.1, fun b e hb => (k b).pst_of (h.2 b (fun _ => e) hb)⟩
  | _, .loop _ _ _ _ _ b, _, h => ⟨h.1, fun i hi => (b i).pst_of (h.2 i hi)⟩

theorem Sk.obs_of : {α : Type} → (s : Sk α) → {L : α → Prop} → s.obq L → s.obs L
  | _, .fin _, _, h => h
  | _, .br _ x y, _, h => ⟨fun e => x.obs_of (h.1 e), fun e => y.obs_of (h.2 e)⟩
  | _, .r _ _ k, _, h => ⟨h.1, fun x e p => (k x).obs_of (h.2 x e p)⟩
  | _, .wi _ _ _ k, L, h => ⟨h.1, k.obs_of (L := L) h.2⟩
  | _, .wn _ _ _ k, L, h => ⟨h.1, k.obs_of (L := L) h.2⟩
  | _, .brt k, L, h => k.obs_of (L := L) h
  | _, .brf k, L, h => k.obs_of (L := L) h
  | _, .dead _, _, h => h.elim
  | _, .bnd _ _ _ k, L, h => fun hn => k.obs_of (L := L) (h hn)
  | _, .cas _ _ _ _ x y, _, h => ⟨fun e => x.obs_of (h.1 e), fun e => y.obs_of (h.2 e)⟩
  | _, .nsp _ _ k1 k2, L, h => ⟨fun e => ⟨k1.obs_of (L := L) (h.1 e).1, (h.1 e).2⟩, k2.obs_of (L := L) h.2⟩
  | _, .fz _ k, L, h => k.obs_of (L := L) h
  | _, .mr _ _ _ _ _ b k, _, h => ⟨h.1, fun g i hg hi => ⟨(h.2.1 g i hg hi).1, (b g i).obs_of (h.2.1 g i hg hi).2⟩, h.2.2.1, fun g e hg => (k g).obs_of (h.2.2.2 g e hg)⟩
  | _, .bind _ _ s _ k, _, h => ⟨s.obs_of h.1, fun b e hb => (k b).obs_of (h.2 b (fun _ => e) hb)⟩
  | _, .loop _ _ _ _ _ b, _, h => ⟨h.1, fun i hi => (b i).obs_of (h.2 i hi)⟩

theorem lget_set_eq {α : Type} (l : List α) {i : Nat} (h : i < l.length) (x d : α) : (l.set i x).getD i d = x := by simp [List.getD, h]
theorem lget_set_ne {α : Type} (l : List α) {i j : Nat} (h : j ≠ i) (x d : α) : (l.set i x).getD j d = l.getD j d := by simp [List.getD, List.getElem?_set_ne (fun e => h e.symm)]

/-- steps over a list, with an early end -/
def walk {α σ β : Type} (step : α → σ → β ⊕ σ) (fin : σ → β) : List α → σ → β
  | [], s => fin s
  | x :: r, s => match step x s with
    | .inl b => b
    | .inr s' => walk step fin r s'

theorem iter_walk {α σ β ι : Type} [Inhabited α] (l : List α) (pack : σ → Nat → ι) {f : ι → β ⊕ ι} {d : β} (step : α → σ → β ⊕ σ) (fin : σ → β)
    (hs : ∀ s i, i < l.length → f (pack s i) = match step (l.getD i default) s with | .inl b => .inl b | .inr s' => .inr (pack s' (i + 1)))
    (he : ∀ s, f (pack s l.length) = .inl (fin s)) : ∀ (n i : Nat) (s : σ), i ≤ l.length → l.length - i < n → iter f d n (pack s i) = walk step fin (l.drop i) s
  | 0, i, s, _, hn => absurd hn (by omega)
  | n + 1, i, s, hi, hn => by
    simp only [iter]
    by_cases h : i < l.length
    · rw [hs s i h, List.drop_eq_getElem_cons h, show l.getD i default = l[i] from by simp [List.getD, h]]
      simp only [walk]
      cases hst : step l[i] s with
      | inl b => rfl
      | inr s' => exact iter_walk l pack step fin hs he n (i + 1) s' h (by omega)
    · obtain rfl : i = l.length := by omega
      rw [he s, List.drop_length]
      rfl

theorem iter_walk0 {α σ β ι : Type} [Inhabited α] (l : List α) (pack : σ → Nat → ι) {f : ι → β ⊕ ι} {d : β} (step : α → σ → β ⊕ σ) (fin : σ → β)
    (hs : ∀ s i, i < l.length → f (pack s i) = match step (l.getD i default) s with | .inl b => .inl b | .inr s' => .inr (pack s' (i + 1)))
    (he : ∀ s, f (pack s l.length) = .inl (fin s)) {n : Nat} (hn : l.length < n) (s : σ) : iter f d n (pack s 0) = walk step fin l s := by
  have := iter_walk (d := d) l pack step fin hs he n 0 s (Nat.zero_le _) (by omega)
  simpa using this

theorem walk_fold {α σ β : Type} (g : α → σ → σ) (fin : σ → β) : ∀ (l : List α) (s : σ), walk (fun x s => .inr (g x s)) fin l s = fin (l.foldl (fun s x => g x s) s)
  | [], _ => rfl
  | x :: r, s => by simp only [walk, List.foldl_cons]; exact walk_fold g fin r (g x s)

theorem walk_append {α σ β : Type} (step : α → σ → β ⊕ σ) (fin : σ → β) : ∀ (l r : List α) (s : σ), walk step fin (l ++ r) s = walk step (fun s => walk step fin r s) l s
  | [], _, _ => rfl
  | x :: l, r, s => by
    simp only [List.cons_append, walk]
    cases step x s with
    | inl b => rfl
    | inr s' => exact walk_append step fin l r s'

theorem lget_mem {α : Type} {l : List α} {i : Nat} (h : i < l.length) (d : α) : l.getD i d ∈ l := by
  rw [show l.getD i d = l[i] from by simp [List.getD, h]]
  exact List.getElem_mem h
theorem subL_length {α : Type} [Inhabited α] (L : List α) (lo n : Nat) : (subL L lo n).length = n := by simp [subL]
theorem u64_eq (n : Int) : IntKind.u64.wrap n = n % 18446744073709551616 := rfl
theorem u64_rng (n : Int) : 0 ≤ IntKind.u64.wrap n ∧ IntKind.u64.wrap n < 18446744073709551616 := by
  rw [u64_eq]; omega
theorem u64_id {n : Int} (h : 0 ≤ n) (h2 : n < 18446744073709551616) : IntKind.u64.wrap n = n := by
  rw [u64_eq]; omega
theorem u8_eq (n : Int) : IntKind.u8.wrap n = n % 256 := rfl
theorem shr_eq {a b : Int} (k : IntKind) (h : 0 ≤ b ∧ b ≤ k.bits) : shrK k a b = a / 2 ^ b.toNat := by
  unfold shrK
  rw [Nat.min_eq_left (by omega), Int.fdiv_eq_ediv_of_nonneg _ (Int.le_of_lt (Int.pow_pos (by omega)))]
theorem shl_eq {a b : Int} (h : 0 ≤ b ∧ b ≤ 64) : shlK .u64 a b = (a * 2 ^ b.toNat) % 18446744073709551616 := by
  unfold shlK
  have : IntKind.u64.bits = 64 := rfl
  rw [this, Nat.min_eq_left (by omega), u64_eq]

end Go.Av
