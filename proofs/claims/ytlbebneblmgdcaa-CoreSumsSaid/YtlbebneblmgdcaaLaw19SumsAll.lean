/- CoreSums: the walk, whatever the operator. -/
import Derived.Test.YtlbebneblmgdcaaLaw19SumsA
import Derived.Test.YtlbebneblmgdcaaLaw19SumsB
import Derived.Test.YtlbebneblmgdcaaLaw19SumsC
namespace Go.Proofs.Ytlbebneblmgdcaa
open Go.RowKit
set_option maxRecDepth 100000

theorem tmod_nat (a k : Int) (h : 0 ≤ a) (hk : 0 < k) : a.tmod k = ((a % k).toNat : Int) := by
  rw [Int.tmod_eq_emod_of_nonneg h]
  have := Int.emod_nonneg a (b := k) (by omega)
  omega
theorem sums_any (op a b c r0 r1 r2 r3 r4 r5 r6 r7 r8 : Int) (w : World) (hop : 0 ≤ op ∧ op ≤ 255) (ha : 0 ≤ a ∧ a ≤ 255) (hb : 0 ≤ b ∧ b ≤ 255) (hc : 0 ≤ c ∧ c ≤ 255) (hreg : ∀ x ∈ [r0, r1, r2, r3, r4, r5, r6, r7], 0 ≤ x ∧ x ≤ 4294967295) :
    Calls Try.prog 3 #[.int .u8 op, .int .u8 a, .int .u8 b, .int .u8 c, .agg #[.int .u32 r0, .int .u32 r1, .int .u32 r2, .int .u32 r3, .int .u32 r4, .int .u32 r5, .int .u32 r6, .int .u32 r7, .int .u32 r8]] w fun e w' => e = .returned (.bool true) ∧ Mod No w w' := by
  have ex := tmod_nat a 8 ha.1 (by omega)
  have ey := tmod_nat b 8 hb.1 (by omega)
  have ez := tmod_nat c 8 hc.1 (by omega)
  have em := tmod_nat op 9 hop.1 (by omega)
  have hx : (a % 8).toNat < 8 := by omega
  have hy : (b % 8).toNat < 8 := by omega
  have hz : (c % 8).toNat < 8 := by omega
  have hm : (op % 9).toNat < 9 := by omega
  generalize (a % 8).toNat = x at ex hx
  generalize (b % 8).toNat = y at ey hy
  generalize (c % 8).toNat = z at ez hz
  generalize (op % 9).toNat = m at em hm
  rcases (show m = 0 ∨ m = 1 ∨ m = 2 ∨ m = 3 ∨ m = 4 ∨ m = 5 ∨ m = 6 ∨ m = 7 ∨ m = 8 by omega) with h | h | h | h | h | h | h | h | h
  · exact sums_0 m x y z op a b c h em ex ey ez hx hy hz r0 r1 r2 r3 r4 r5 r6 r7 r8 hreg w
  · exact sums_1 m x y z op a b c h em ex ey ez hx hy hz r0 r1 r2 r3 r4 r5 r6 r7 r8 hreg w
  · exact sums_2 m x y z op a b c h em ex ey ez hx hy hz r0 r1 r2 r3 r4 r5 r6 r7 r8 hreg w
  · exact sums_3 m x y z op a b c h em ex ey ez hx hy hz r0 r1 r2 r3 r4 r5 r6 r7 r8 hreg w
  · exact sums_4 m x y z op a b c h em ex ey ez hx hy hz r0 r1 r2 r3 r4 r5 r6 r7 r8 hreg w
  · exact sums_5 m x y z op a b c h em ex ey ez hx hy hz r0 r1 r2 r3 r4 r5 r6 r7 r8 hreg w
  · exact sums_6 m x y z op a b c h em ex ey ez hx hy hz r0 r1 r2 r3 r4 r5 r6 r7 r8 hreg w
  · exact sums_7 m x y z op a b c h em ex ey ez hx hy hz r0 r1 r2 r3 r4 r5 r6 r7 r8 hreg w
  · by_cases hl : [r0, r1, r2, r3, r4, r5, r6, r7].getD y 0 < [r0, r1, r2, r3, r4, r5, r6, r7].getD z 0
    · exact sums_8y m x y z op a b c h em ex ey ez hx hy hz r0 r1 r2 r3 r4 r5 r6 r7 r8 hl hreg w
    · exact sums_8n m x y z op a b c h em ex ey ez hx hy hz r0 r1 r2 r3 r4 r5 r6 r7 r8 hl hreg w

end Go.Proofs.Ytlbebneblmgdcaa
