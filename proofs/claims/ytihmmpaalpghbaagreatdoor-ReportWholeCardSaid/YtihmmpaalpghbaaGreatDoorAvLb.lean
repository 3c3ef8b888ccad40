/- Walks over lists: how they end. -/
import Derived.Test.YtihmmpaalpghbaaGreatDoorAvLa
set_option linter.unusedSimpArgs false
set_option linter.unusedVariables false
namespace Go.Av
open Go
set_option linter.unusedSectionVars false
variable [Globs]
theorem walk_split {α σ β : Type} {step : α → σ → β ⊕ σ} {I : Nat → σ → Prop} {Q : β → Prop} : ∀ (l : List α) (k0 : Nat) (s : σ), (∀ k x s, x ∈ l → I k s → match step x s with | .inl b => Q b | .inr s' => I (k + 1) s') → I k0 s →
  (∃ b, Q b ∧ ∀ fin, walk step fin l s = b) ∨ ∃ s', I (k0 + l.length) s' ∧ ∀ fin, walk step fin l s = fin s'
 | [], k0, s, _, h0 => .inr ⟨s, h0, fun _ => rfl⟩
 | x :: r, k0, s, h, h0 => by
  have hx := h k0 x s (by simp) h0
  simp only [walk]
  cases hs : step x s with
  | inl b => rw [hs] at hx; exact .inl ⟨b, hx, fun _ => rfl⟩
  | inr s' =>
   rw [hs] at hx
   rcases walk_split r (k0 + 1) s' (fun k y t hy => h k y t (List.mem_cons_of_mem _ hy)) hx with ⟨b, q, e⟩ | ⟨t, q, e⟩
   ·exact .inl ⟨b, q, e⟩
   ·exact .inr ⟨t, by rw [List.length_cons, show k0 + (r.length + 1) = k0 + 1 + r.length by omega]; exact q, e⟩
theorem pick_iter_walk {α σ γ δ ι : Type} [Inhabited α] (l : List α) (pack : σ → Nat → ι) {f : ι → (γ ⊕ δ) ⊕ ι} {d : γ ⊕ δ} (step : α → σ → γ ⊕ σ) (fin : σ → δ) (g : δ → γ)
  (hs : ∀ s i, i < l.length → f (pack s i) = match step (l.getD i default) s with | .inl b => .inl (.inl b) | .inr s' => .inr (pack s' (i + 1)))
  (he : ∀ s, f (pack s l.length) = .inl (.inr (fin s))) {n : Nat} (hn : l.length < n) (s : σ) : pickS (iter f d n (pack s 0)) g = walk step (fun s => g (fin s)) l s := by
 rw [iter_walk0 (d := d) l pack (fun x s => match step x s with | .inl b => .inl (.inl b) | .inr s' => .inr s') (fun s => .inr (fin s)) (fun s i hi => by rw [hs s i hi]; cases step (l.getD i default) s <;> rfl) he hn s]
 clear hs he
 induction l generalizing s with
 | nil => rfl
 | cons x r ih =>
  simp only [walk]
  cases step x s with
  | inl b => rfl
  | inr s' => exact ih (by simp at hn; omega) s'
end Go.Av
