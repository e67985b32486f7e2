/- What is asked of the world besides: nothing. -/
import Derived.Test.YtoemclhjcbcjaaaGreatAbA
namespace Go.Proofs.YtoemclhjcbcjaaaGreat.AB
open Go
set_option linter.unusedVariables false
/-- what a row's own condition says of blocks that nobody writes -/
def Lay (Z : Nat → Prop) (w : World) : Prop := True
theorem Lay.mono {Z Z' : Nat → Prop} {w w' : World} (h : Lay Z w) (hZ : ∀ b, Z b → Z' b) (hw : ∀ b, Z b → w'.heap[b]? = w.heap[b]?) : Lay Z' w' := trivial
end Go.Proofs.YtoemclhjcbcjaaaGreat.AB
