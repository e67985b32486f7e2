/- What is asked of the world besides: the library's table of the powers of ten is there, and nobody writes it. -/
import Derived.Test.YtkcnljgjlofgiaaGreatDoorAbA
namespace Go.Proofs.YtkcnljgjlofgiaaGreatDoor.AB
open Go
/-- the powers of ten, as the table holds them -/
def pow10V : Array Value := ((List.range 20).map fun i => Value.int .u64 ((10 ^ i : Nat) : Int)).toArray
/-- what a row's own condition says of blocks that nobody writes -/
def Lay (Z : Nat → Prop) (w : World) : Prop := Z 1 ∧ ∃ t fz, w.heap[1]? = some (.cells pow10V t fz)
theorem Lay.mono {Z Z' : Nat → Prop} {w w' : World} (h : Lay Z w) (hZ : ∀ b, Z b → Z' b) (hw : ∀ b, Z b → w'.heap[b]? = w.heap[b]?) : Lay Z' w' := by
  obtain ⟨h1, t, fz, h2⟩ := h
  exact ⟨hZ _ h1, t, fz, (hw _ h1).trans h2⟩
end Go.Proofs.YtkcnljgjlofgiaaGreatDoor.AB
