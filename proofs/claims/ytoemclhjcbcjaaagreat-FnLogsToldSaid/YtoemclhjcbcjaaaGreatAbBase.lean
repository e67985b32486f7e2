/- What a row's builder asks of the whole program, asked once. -/
import Derived.Test.YtoemclhjcbcjaaaGreatAbT
import Derived.Test.YtoemclhjcbcjaaaGreatAbZ
import Derived.Test.YtoemclhjcbcjaaaGreatAbYu
import Derived.Test.YtoemclhjcbcjaaaGreatChecked
import Derived.Test.YtoemclhjcbcjaaaGreatRows
import Derived.JoinedOf
namespace Go.Proofs.YtoemclhjcbcjaaaGreat.AB
open Go
set_option linter.unusedSimpArgs false
set_option maxRecDepth 100000
theorem good : Good Tryz.prog T := ⟨T_ok, by kernel_rfl, by kernel_rfl⟩
theorem laidOut : laidOutB Tryz.prog = true := by kernel_rfl
theorem own : ownKnob Tryz.prog.godebug = none := by kernel_rfl
end Go.Proofs.YtoemclhjcbcjaaaGreat.AB
