/- The statement of caravan/caravanlaw08.CutterAgain, from its walk. No condition. -/
import Derived.Test.YthjceppddmecdaaCutterAgain
import Derived.Test.YthjceppddmecdaaOpen
set_option linter.unusedSimpArgs false
set_option linter.unusedVariables false
namespace Go.Proofs.Ythjceppddmecdaa
open Go.RowKit Go.WideShapes Go.ChangeShapes Go.ChangeAt
theorem cutterAgain_own : ownKnob Try.prog.godebug = none := by kernel_rfl
end Go.Proofs.Ythjceppddmecdaa
