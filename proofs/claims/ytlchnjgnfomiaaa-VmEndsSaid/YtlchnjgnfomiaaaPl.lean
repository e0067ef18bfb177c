/- A part of the proof: Pl. -/
import Derived.Test.YtlchnjgnfomiaaaA16
set_option linter.unusedSimpArgs false
set_option linter.unusedVariables false
namespace Go.Ag
/-- The first place where something is found. -/
def fstAt {α β : Type} (f : Nat → α → Option β) : Nat → List α → Option (Nat × β)
  | _, [] => none
  | i, x :: r => match f i x with
    | some b => some (i, b)
    | none => fstAt f (i + 1) r
theorem fstAt_some {α β : Type} {f : Nat → α → Option β} : ∀ {l : List α} {i j : Nat} {x : α} {b : β}, l[j]? = some x → (∀ k y, k < j → l[k]? = some y → f (i + k) y = none) → f (i + j) x = some b → fstAt f i l = some (i + j, b)
  | [], i, j, x, b, h, _, _ => by simp at h
  | a :: r, i, 0, x, b, h, hb, hf => by
    simp at h; subst h
    simp only [Nat.add_zero] at hf
    simp [fstAt, hf]
  | a :: r, i, j + 1, x, b, h, hb, hf => by
    have h0 := hb 0 a (by omega) rfl
    simp only [Nat.add_zero] at h0
    simp only [fstAt, h0]
    rw [fstAt_some (j := j) (x := x) (b := b) (by simpa using h) (fun k y hk hy => by have := hb (k + 1) y (by omega) (by simpa using hy); rw [show i + 1 + k = i + (k + 1) by omega]; exact this) (by rw [show i + 1 + j = i + (j + 1) by omega]; exact hf)]
    congr 2; omega
theorem fstAt_none {α β : Type} {f : Nat → α → Option β} : ∀ {l : List α} {i : Nat}, (∀ k y, l[k]? = some y → f (i + k) y = none) → fstAt f i l = none
  | [], i, _ => rfl
  | a :: r, i, hb => by
    have h0 := hb 0 a rfl
    simp only [Nat.add_zero] at h0
    simp only [fstAt, h0]
    exact fstAt_none (fun k y hy => by have := hb (k + 1) y (by simpa using hy); rw [show i + 1 + k = i + (k + 1) by omega]; exact this)
theorem fstAt_spec {α β : Type} {f : Nat → α → Option β} : ∀ {l : List α} {i : Nat}, (match fstAt f i l with
    | some (j, b) => ∃ k x, j = i + k ∧ l[k]? = some x ∧ f j x = some b ∧ ∀ m y, m < k → l[m]? = some y → f (i + m) y = none
    | none => ∀ k y, l[k]? = some y → f (i + k) y = none)
  | [], i => by simp [fstAt]
  | a :: r, i => by
    simp only [fstAt]
    cases h : f i a with
    | some b => exact ⟨0, a, rfl, rfl, h, by omega⟩
    | none =>
      have ih := fstAt_spec (f := f) (l := r) (i := i + 1)
      simp only
      cases h2 : fstAt f (i + 1) r with
      | some p =>
        obtain ⟨j, b⟩ := p
        rw [h2] at ih
        obtain ⟨k, x, h3, h4, h5, h6⟩ := ih
        refine ⟨k + 1, x, by omega, by simpa using h4, h5, fun m y hm hy => ?_⟩
        cases m with
        | zero => simp at hy; subst hy; exact h
        | succ m => have := h6 m y (by omega) (by simpa using hy); rw [show i + (m + 1) = i + 1 + m by omega]; exact this
      | none =>
        rw [h2] at ih
        intro m y hy
        cases m with
        | zero => simp at hy; subst hy; exact h
        | succ m => have := ih m y (by simpa using hy); rw [show i + (m + 1) = i + 1 + m by omega]; exact this
end Go.Ag
