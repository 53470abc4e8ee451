/- What each row asks. -/
import Derived.Test.YtapnodlmfapjlaaDoorChecked
import Derived.Test.YtapnodlmfapjlaaDoorModBase
import Derived.WalkKit
import Derived.ProofKit
import Derived.OpenShut
import Derived.ShutString
import Derived.ChangeOld
import Derived.Below
import Derived.Carry
import Derived.SizedLaws
namespace Go.Proofs.YtapnodlmfapjlaaDoor
open Go.ChangeShapes Go.WideShapes Go.ChangeAt Go.RowKit
set_option maxRecDepth 100000

theorem row_own : ownKnob Tryd.prog.godebug = none := by kernel_rfl
theorem row_laid : laidOutB Tryd.prog = true := by kernel_rfl

end Go.Proofs.YtapnodlmfapjlaaDoor
