/- Small facts on bits of 32-bit numbers, as the print spells them, in numbers alone. -/
import Derived.OpenShut
import Derived.Laws.BitsAllLaws
namespace Go.Proofs.Ytlaamkojkpamaaa.BitFacts

theorem and1 (x : Int) (h0 : 0 ≤ x) (h1 : x ≤ 4294967295) : Go.bits .and .u32 x 1 = x % 2 := by
  rw [Go.u32_and x 1 h0 (by omega) (by omega) (by omega)]
  have : x.toNat &&& (1 : Int).toNat = x.toNat % 2 := Go.nat_mask1 x.toNat
  rw [this]; omega

theorem and2 (x : Int) (h0 : 0 ≤ x) (h1 : x ≤ 4294967295) : Go.bits .and .u32 x 2 = x / 2 % 2 * 2 := by
  rw [Go.u32_and x 2 h0 (by omega) (by omega) (by omega)]
  have : x.toNat &&& (2 : Int).toNat = x.toNat / 2 % 2 * 2 := Go.nat_bit 1 x.toNat
  rw [this]; omega

theorem and63 (x : Int) (h0 : 0 ≤ x) (h1 : x ≤ 4294967295) : Go.bits .and .u32 x 63 = x % 64 := by
  rw [Go.u32_and x 63 h0 (by omega) (by omega) (by omega)]
  have : x.toNat &&& (63 : Int).toNat = x.toNat % 64 := Go.nat_mask6 x.toNat
  rw [this]; omega

theorem and255 (x : Int) (h0 : 0 ≤ x) (h1 : x ≤ 4294967295) : Go.bits .and .u32 x 255 = x % 256 := by
  rw [Go.u32_and x 255 h0 (by omega) (by omega) (by omega)]
  have : x.toNat &&& (255 : Int).toNat = x.toNat % 256 := Go.nat_mask8 x.toNat
  rw [this]; omega

set_option maxRecDepth 20000 in
theorem nat252 : ∀ y : Nat, y < 256 → (y &&& 252 = 0 ↔ y ≤ 3) := by decide

theorem and252 (x : Int) (h0 : 0 ≤ x) (h1 : x ≤ 4294967295) : Go.bits .and .u32 x 252 = 0 ↔ x % 256 ≤ 3 := by
  rw [Go.u32_and x 252 h0 (by omega) (by omega) (by omega)]
  have e : x.toNat &&& (252 : Int).toNat = (x.toNat % 256) &&& 252 := by
    rw [← Go.nat_mask8 x.toNat, Nat.and_assoc]; rfl
  rw [e]
  have := nat252 (x.toNat % 256) (by omega)
  omega

theorem or_sum (x y : Int) (i : Nat) (h0 : 0 ≤ x) (h1 : x ≤ 4294967295) (h2 : 0 ≤ y) (h3 : y ≤ 4294967295) (hx : x.toNat % 2 ^ i = 0) (hy : y.toNat < 2 ^ i) : Go.bits .or .u32 x y = x + y := by
  rw [Go.u32_or x y h0 (by omega) h2 (by omega), Go.nat_join i x.toNat y.toNat hx hy]
  omega

end Go.Proofs.Ytlaamkojkpamaaa.BitFacts
