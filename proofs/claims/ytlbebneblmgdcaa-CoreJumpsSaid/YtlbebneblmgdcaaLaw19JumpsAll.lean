/- CoreJumps: the walk, whichever way. -/
import Derived.Test.YtlbebneblmgdcaaLaw19JumpsA
import Derived.Test.YtlbebneblmgdcaaLaw19JumpsB
namespace Go.Proofs.Ytlbebneblmgdcaa
open Go.RowKit
set_option maxRecDepth 100000

theorem jumps_any (T : Bool) (a k r0 r1 r2 r3 r4 r5 r6 r7 r8 : Int) (w : World) (ha : 0 ≤ a ∧ a ≤ 255) (hk : -32768 ≤ k ∧ k ≤ 32767) (hreg : ∀ x ∈ [r0, r1, r2, r3, r4, r5, r6, r7], 0 ≤ x ∧ x ≤ 4294967295) :
    Calls Try.prog 4 #[.bool T, .int .u8 a, .int .i16 k, .agg #[.int .u32 r0, .int .u32 r1, .int .u32 r2, .int .u32 r3, .int .u32 r4, .int .u32 r5, .int .u32 r6, .int .u32 r7, .int .u32 r8]] w fun e w' => e = .returned (.bool true) ∧ Mod No w w' := by
  have ex : a.tmod 8 = ((a % 8).toNat : Int) := by
    rw [Int.tmod_eq_emod_of_nonneg ha.1]; omega
  have hx : (a % 8).toNat < 8 := by omega
  generalize (a % 8).toNat = x at ex hx
  by_cases hz : [r0, r1, r2, r3, r4, r5, r6, r7].getD x 0 = 0
  · cases T with
    | true => exact jumps_tz x a k _ _ _ ex hx hk rfl rfl rfl r0 r1 r2 r3 r4 r5 r6 r7 r8 hz hreg w
    | false =>
      by_cases hs : 12 + 4 * k < 0
      · exact jumps_fzm x a k _ _ _ ex hx hk rfl rfl rfl hs r0 r1 r2 r3 r4 r5 r6 r7 r8 hz hreg w
      · exact jumps_fzp x a k _ _ _ ex hx hk rfl rfl rfl (by omega) r0 r1 r2 r3 r4 r5 r6 r7 r8 hz hreg w
  · cases T with
    | true =>
      by_cases hs : 12 + 4 * k < 0
      · exact jumps_tnm x a k _ _ _ ex hx hk rfl rfl rfl hs r0 r1 r2 r3 r4 r5 r6 r7 r8 hz hreg w
      · exact jumps_tnp x a k _ _ _ ex hx hk rfl rfl rfl (by omega) r0 r1 r2 r3 r4 r5 r6 r7 r8 hz hreg w
    | false => exact jumps_fn x a k _ _ _ ex hx hk rfl rfl rfl r0 r1 r2 r3 r4 r5 r6 r7 r8 hz hreg w

end Go.Proofs.Ytlbebneblmgdcaa
