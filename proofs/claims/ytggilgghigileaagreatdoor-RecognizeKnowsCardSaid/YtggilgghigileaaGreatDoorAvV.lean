/- Small facts that printed walks use. -/
import Derived.Test.YtggilgghigileaaGreatDoorAvU
namespace Go.Av
open Go
set_option linter.unusedSectionVars false
variable [Globs]

/-- a slice by its elements -/
def slD {α : Type} [Inhabited α] (cells : α → List D) (l : List α) : D := .sl l.length fun i => cells (l.getD i default)
def intC (n : Int) : List D := [.v (.int .i64 n)]
def strC (s : ByteArray) : List D := [.v (.string s)]
def boolC (b : Bool) : List D := [.v (.bool b)]

theorem wrap64_id {n : Int} (h1 : -9223372036854775808 ≤ n) (h2 : n ≤ 9223372036854775807) : IntKind.i64.wrap n = n := IntWalk.i64_in n ⟨h1, h2⟩

theorem dle_int {k : IntKind} {a b : Int} (h : a = b) : DLe (.v (.int k a)) (.v (.int k b)) := DLe.of_eq (by rw [h])
theorem dle_bool {a b : Bool} (h : a = b) : DLe (.v (.bool a)) (.v (.bool b)) := DLe.of_eq (by rw [h])
theorem dle_wrap {n m : Int} (h1 : -9223372036854775808 ≤ n) (h2 : n ≤ 9223372036854775807) (h : n = m) : DLe (.v (.int .i64 (IntKind.i64.wrap n))) (.v (.int .i64 m)) := dle_int (by rw [wrap64_id h1 h2, h])
theorem dle_nilsl {α : Type} [Inhabited α] (cells : α → List D) : DLe (.v (.slice none 0 0)) (slD cells []) := DLe.nil _

theorem row_app {α : Type} [Inhabited α] (cells : α → List D) (L : List α) (x : α) (k : Nat) :
    (L.length + 1 = (L ++ [x]).length) ∧ ∀ i, i < L.length + 1 → (if i < L.length then cells (L.getD i default) else rowF k 1 (cells x) (i - L.length)) = cells ((L ++ [x]).getD i default) := by
  refine ⟨by simp, fun i hi => ?_⟩
  split
  · rename_i h
    simp [List.getD, List.getElem?_append_left h]
  · rename_i h
    obtain rfl : i = L.length := by omega
    simp [List.getD, rowF]

theorem row_app0 {α : Type} [Inhabited α] (cells : α → List D) (x : α) (k : Nat) :
    (0 + 1 = [x].length) ∧ ∀ i, i < 0 + 1 → (if i < 0 then [] else rowF k 1 (cells x) (i - 0)) = cells ([x].getD i default) := by
  refine ⟨rfl, fun i hi => ?_⟩
  obtain rfl : i = 0 := by omega
  simp [rowF]

theorem row_cat {α : Type} [Inhabited α] (cells : α → List D) (L M : List α) :
    (L.length + M.length = (L ++ M).length) ∧ ∀ i, i < L.length + M.length → (if i < L.length then cells (L.getD i default) else cells (M.getD (i - L.length) default)) = cells ((L ++ M).getD i default) := by
  refine ⟨by simp, fun i hi => ?_⟩
  split
  · rename_i h
    simp [List.getD, List.getElem?_append_left h]
  · rename_i h
    simp [List.getD, List.getElem?_append_right (Nat.le_of_not_lt h)]

theorem row_set {α : Type} [Inhabited α] (cells : α → List D) (L : List α) (p : Nat) (y : α) (cs : List D) (hp : p < L.length) (hc : cs = cells y) :
    (L.length = (L.set p y).length) ∧ ∀ i, i < L.length → (if i = p then cs else cells (L.getD i default)) = cells ((L.set p y).getD i default) := by
  subst hc
  refine ⟨by simp, fun i hi => ?_⟩
  split
  · rename_i h
    subst h
    simp [List.getD, hp]
  · rename_i h
    simp [List.getD, List.getElem?_set_ne (fun e => h e.symm)]

/-- a slice that is there is no longer than the longest -/
theorem G.slBound {g : Goal} {k : List Item} {st : St} (t : Nat) {n : Nat} {f : Nat → List D} (h : St.get st.sl t = .d (.sl n f)) (hg : n ≤ maxLen → G g k st) : G g k st := by
  intro C h1 h2 a w hs
  have hs0 := hs
  obtain ⟨S, μ, hsim⟩ := hs
  have hr := (hsim fun _ => false).slots t
  simp only [St.toM, h] at hr
  refine hg ?_ C h1 h2 a w hs0
  generalize a.tmps.getD t undef = v at hr
  cases rel_d.1 hr with
  | nil => simp [maxLen]
  | sl _ _ _ _ _ _ hc hm => omega

/-- so is a row -/
theorem G.rowBound {g : Goal} {k : List Item} {st : St} (κ : Nat) {e m n : Nat} {f : Nat → List D} (h : look st.lb κ = some (.row e m n f)) (hg : n ≤ maxLen → G g k st) : G g k st := by
  intro C h1 h2 a w hs
  have hs0 := hs
  obtain ⟨S, μ, hsim⟩ := hs
  have hm := (hsim fun _ => false).mem κ _ h
  refine hg ?_ C h1 h2 a w hs0
  cases hμ : μ κ with
  | none => rw [hμ] at hm; exact hm.elim
  | some y =>
    rw [hμ] at hm
    cases y with
    | none => have : n = 0 := hm; simp [this]
    | some gc =>
      obtain ⟨q, c⟩ := gc
      obtain ⟨cur, _, _, _, q4, q5, _⟩ := hm.at
      omega

/-- ways that meet again -/
theorem G.cut {g : Goal} {k : List Item} {st : St} {c : Item} {ι : Type} (J : ι → St) (hj : ∀ i, G g k (J i)) (h : (∀ i, G g k (J i)) → G g (c :: k) st) : G g (c :: k) st := h hj

theorem AvLe.tup2 {a b c d : AV} (h1 : AvLe a c) (h2 : AvLe b d) : AvLe (.tup [a, b]) (.tup [c, d]) := by
  intro w S μ ν v hr
  cases hr with
  | tup hl hh =>
    refine .tup hl (fun i hi => ?_)
    have := hh i hi
    match i, hi with
    | 0, _ => exact h1 _ _ _ _ _ this
    | 1, _ => exact h2 _ _ _ _ _ this

/-- a way that cannot be -/
theorem G.absurd {g : Goal} {k : List Item} {st : St} (h : False) : G g k st := h.elim
end Go.Av
