/- The first of a list that is so; whether there is one: Go's slices.IndexFunc and ContainsFunc. -/
import Derived.Test.YtbgeagbgfioaaaaGreatAbFgRing
namespace Go.Proofs.YtbgeagbgfioaaaaGreat.AB
open Go
set_option maxRecDepth 100000
set_option linter.unusedSimpArgs false
set_option linter.unusedVariables false
def idx {α : Type} (g : α → Bool) : List α → Nat → Int
  | [], _ => -1
  | x :: r, k => if g x = true then (k : Int) else idx g r (k + 1)
theorem idx_any {α : Type} (g : α → Bool) : ∀ (L : List α) (k : Nat), L.any g = decide (idx g L k ≥ 0)
  | [], k => by simp [idx]
  | x :: r, k => by
    by_cases h : g x = true
    · simp [idx, h]
    · have h' : g x = false := by simpa using h
      rw [List.any_cons, h', Bool.false_or, idx_any g r (k + 1), idx, if_neg h]
end Go.Proofs.YtbgeagbgfioaaaaGreat.AB
