/- What a row's builder asks of the whole program, asked once. -/
import Derived.Test.YtbpfciidbgkekaaDoorAbT
import Derived.Test.YtbpfciidbgkekaaDoorAbZ
import Derived.Test.YtbpfciidbgkekaaDoorAbYu
import Derived.Test.YtbpfciidbgkekaaDoorChecked
import Derived.Test.YtbpfciidbgkekaaDoorRows
import Derived.JoinedOf
namespace Go.Proofs.YtbpfciidbgkekaaDoor.AB
open Go
set_option linter.unusedSimpArgs false
set_option maxRecDepth 100000
theorem good : Good Tryd.prog T := ⟨T_ok, by kernel_rfl, by kernel_rfl⟩
theorem laidOut : laidOutB Tryd.prog = true := by kernel_rfl
theorem own : ownKnob Tryd.prog.godebug = none := by kernel_rfl
end Go.Proofs.YtbpfciidbgkekaaDoor.AB
