/- What each row asks. -/
import Derived.Test.YthchkhfnhhpleaaDoorChecked
import Derived.Test.YthchkhfnhhpleaaDoorModBase
import Derived.WalkKit
import Derived.ProofKit
import Derived.OpenShut
import Derived.ShutString
import Derived.ChangeOld
import Derived.Below
import Derived.Carry
import Derived.SizedLaws
namespace Go.Proofs.YthchkhfnhhpleaaDoor
open Go.ChangeShapes Go.WideShapes Go.ChangeAt Go.RowKit
set_option maxRecDepth 100000

theorem row_own : ownKnob Tryd.prog.godebug = none := by kernel_rfl
theorem row_laid : laidOutB Tryd.prog = true := by kernel_rfl

end Go.Proofs.YthchkhfnhhpleaaDoor
