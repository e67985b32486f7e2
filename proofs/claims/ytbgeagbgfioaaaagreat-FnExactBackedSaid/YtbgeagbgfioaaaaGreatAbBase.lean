/- What a row's builder asks of the whole program, asked once. -/
import Derived.Test.YtbgeagbgfioaaaaGreatAbT
import Derived.Test.YtbgeagbgfioaaaaGreatAbZ
import Derived.Test.YtbgeagbgfioaaaaGreatAbYu
import Derived.Test.YtbgeagbgfioaaaaGreatChecked
import Derived.Test.YtbgeagbgfioaaaaGreatRows
import Derived.JoinedOf
namespace Go.Proofs.YtbgeagbgfioaaaaGreat.AB
open Go
set_option linter.unusedSimpArgs false
set_option maxRecDepth 100000
theorem good : Good Tryz.prog T := ⟨T_ok, by kernel_rfl, by kernel_rfl⟩
theorem laidOut : laidOutB Tryz.prog = true := by kernel_rfl
theorem own : ownKnob Tryz.prog.godebug = none := by kernel_rfl
end Go.Proofs.YtbgeagbgfioaaaaGreat.AB
