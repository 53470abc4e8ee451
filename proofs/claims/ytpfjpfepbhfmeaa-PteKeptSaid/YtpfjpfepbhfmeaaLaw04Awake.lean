/- tenementlaw04.awake. -/
import Derived.Test.YtpfjpfepbhfmeaaPhysG
import Derived.WalkKit
namespace Go.Proofs.Ytpfjpfepbhfmeaa
open Go.RowKit
set_option maxRecDepth 100000

theorem pack_five (w : World) : Calls Try.prog 96 #[.agg #[.bool true, .bool true, .int .i64 5]] w fun e w' => e = .returned (.tuple #[.int .u32 1283, .int .i64 0]) ∧ Mod No w w' := by
  go_enter Try.func96, Try.ntmps96
  go_wp2
  go_ret2
  exact ⟨rfl, (Mod.refl No w).alloc _⟩

theorem awake4 (w : World) : Calls Try.prog 39 #[] w fun e w' => e = .returned (.bool true) ∧ Mod No w w' := by
  go_enter Try.func39, Try.ntmps39
  go_wp2_with (go_at_call 96; refine (pack_five _).mono ?_; rintro e w' ⟨rfl, hm⟩)
  go_ret
  exact ⟨rfl, hm⟩

end Go.Proofs.Ytpfjpfepbhfmeaa
