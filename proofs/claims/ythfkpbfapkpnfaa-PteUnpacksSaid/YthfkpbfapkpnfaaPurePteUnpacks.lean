/- PteUnpacks: the two ways of reading an entry's bits agree, for every number of 32 bits. No condition. -/
import Derived.Test.YthfkpbfapkpnfaaPPteUnpacksx2
import Derived.Test.YthfkpbfapkpnfaaBitFacts
namespace Go.Proofs.Ythfkpbfapkpnfaa.Pure
open Go.RowKit Go.Proofs.Ythfkpbfapkpnfaa.PPteUnpacks Go.Proofs.YthfkpbfapkpnfaaW.PrintWords Go.Proofs.YthfkpbfapkpnfaaW.PrintLast

theorem unpacks_awake : tenementlaw04_awake.f 1 = some true := by decide +kernel

theorem unpacks_same (a : Int) (h0 : 0 ≤ a) (h1 : a ≤ 4294967295) : pte_Unpack.f a = tenementref04_Unpack.f a := by
  unfold pte_Unpack.f tenementref04_Unpack.f
  have w (x : Int) (hx : 0 ≤ x) (hy : x ≤ 4294967295) : wrap64 x = x := by unfold wrap64; omega
  rw [BitFacts.and1 a h0 h1, BitFacts.and2 a h0 h1]
  rw [Int.tmod_eq_emod_of_nonneg h0, Int.tmod_eq_emod_of_nonneg h0, Int.tmod_eq_emod_of_nonneg h0, Int.tdiv_eq_ediv_of_nonneg h0]
  by_cases c1 : a % 2 = 0
  · rw [if_pos c1, if_pos c1]
  rw [if_neg c1, if_neg c1]
  by_cases c2 : a % 256 ≤ 3
  · rw [if_pos ((BitFacts.and252 a h0 h1).2 c2), if_neg (by omega), w (a / 256) (by omega) (by omega)]
    have e : (a / 2 % 2 * 2 != 0) = (a % 4 == 3) := by
      rw [Bool.eq_iff_iff, bne_iff_ne, beq_iff_eq]; omega
    have e2 : a / 256 % 4294967296 = a / 256 := by omega
    rw [e, e2]
  · rw [if_neg (fun h => c2 ((BitFacts.and252 a h0 h1).1 h)), if_pos (by omega)]

theorem PteUnpacks : tenementlaw04_PteUnpacks.Pure := by
  intro a h
  have b := bounds_u32 h
  refine ⟨1, ?_⟩
  unfold tenementlaw04_PteUnpacks.f
  rw [unpacks_same a b.1 b.2]
  obtain ⟨r, hr⟩ : ∃ r, tenementref04_Unpack.f a = some r := by
    unfold tenementref04_Unpack.f; repeat' (first | exact ⟨_, rfl⟩ | split)
  rw [hr]; simp [unpacks_awake]

end Go.Proofs.Ythfkpbfapkpnfaa.Pure
