/- PteJoins: the two ways of joining an address agree, for all three numbers. No condition. -/
import Derived.Test.YthfkpbfapkpnfaaPPteJoinsx2
import Derived.Test.YthfkpbfapkpnfaaBitFacts
namespace Go.Proofs.Ythfkpbfapkpnfaa.Pure
open Go.RowKit Go.Proofs.Ythfkpbfapkpnfaa.PPteJoins Go.Proofs.YthfkpbfapkpnfaaW.PrintWords Go.Proofs.YthfkpbfapkpnfaaW.PrintLast

theorem joins_awake : tenementlaw04_awake.f 1 = some true := by decide +kernel

theorem joins_same (a b c : Int) : pte_Join.f a b c = tenementref04_Join.f a b c := by
  unfold pte_Join.f tenementref04_Join.f
  have w (x : Int) (hx : 0 ≤ x) (hy : x ≤ 4294967295) : wrap64 x = x := by unfold wrap64; omega
  by_cases c1 : a < 0
  · rw [if_pos c1, if_pos c1]
  rw [if_neg c1, if_neg c1]
  by_cases c2 : a ≥ 64
  · rw [if_pos c2, if_pos (show a > 63 by omega)]
  rw [if_neg c2, if_neg (show ¬ a > 63 by omega)]
  by_cases c3 : b < 0
  · rw [if_pos c3, if_pos c3]
  rw [if_neg c3, if_neg c3]
  by_cases c4 : b ≥ 64
  · rw [if_pos c4, if_pos (show b > 63 by omega)]
  rw [if_neg c4, if_neg (show ¬ b > 63 by omega)]
  by_cases c5 : c < 0
  · rw [if_pos c5, if_pos c5]
  rw [if_neg c5, if_neg c5]
  by_cases c6 : c ≥ 256
  · rw [if_pos c6, if_pos (show c > 255 by omega)]
  rw [if_neg c6, if_neg (show ¬ c > 255 by omega)]
  have e1 : (a % 4294967296) * 16384 % 4294967296 = a * 16384 := by omega
  have e2 : (b % 4294967296) * 256 % 4294967296 = b * 256 := by omega
  have e3 : c % 4294967296 = c := by omega
  rw [e1, e2, e3, BitFacts.or_sum (a * 16384) (b * 256) 14 (by omega) (by omega) (by omega) (by omega) (by omega) (by omega)]
  rw [BitFacts.or_sum (a * 16384 + b * 256) c 8 (by omega) (by omega) (by omega) (by omega) (by omega) (by omega)]
  rw [w (a * 64) (by omega) (by omega), w (a * 64 + b) (by omega) (by omega), w ((a * 64 + b) * 256) (by omega) (by omega), w ((a * 64 + b) * 256 + c) (by omega) (by omega)]
  have e4 : ((a * 64 + b) * 256 + c) % 4294967296 = a * 16384 + b * 256 + c := by omega
  rw [e4]

theorem PteJoins : tenementlaw04_PteJoins.Pure := by
  intro a b c _ _ _
  refine ⟨1, ?_⟩
  unfold tenementlaw04_PteJoins.f
  rw [joins_same a b c]
  obtain ⟨r, hr⟩ : ∃ r, tenementref04_Join.f a b c = some r := by
    unfold tenementref04_Join.f; repeat' (first | exact ⟨_, rfl⟩ | split)
  rw [hr]; simp [joins_awake]

end Go.Proofs.Ythfkpbfapkpnfaa.Pure
