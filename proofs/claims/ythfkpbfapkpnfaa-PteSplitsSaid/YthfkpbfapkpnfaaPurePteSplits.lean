/- PteSplits: the two ways of splitting an address agree, for every number of 32 bits. No condition. -/
import Derived.Test.YthfkpbfapkpnfaaPPteSplitsx2
import Derived.Test.YthfkpbfapkpnfaaBitFacts
namespace Go.Proofs.Ythfkpbfapkpnfaa.Pure
open Go.RowKit Go.Proofs.Ythfkpbfapkpnfaa.PPteSplits Go.Proofs.YthfkpbfapkpnfaaW.PrintWords Go.Proofs.YthfkpbfapkpnfaaW.PrintLast

theorem splits_awake : tenementlaw04_awake.f 1 = some true := by decide +kernel

theorem splits_same (a0 : Int) (h0 : 0 ≤ a0) (h1 : a0 ≤ 4294967295) : pte_Split.f a0 = tenementref04_Split.f a0 := by
  unfold pte_Split.f tenementref04_Split.f
  rw [BitFacts.and63 _ (by omega) (by omega), BitFacts.and255 _ h0 h1]
  have w (x : Int) (hx : 0 ≤ x) (hy : x ≤ 4294967295) : wrap64 x = x := by unfold wrap64; omega
  by_cases h : a0 / 1048576 = 0
  · rw [if_pos h, if_neg (by omega)]
    rw [w a0 h0 h1, w (a0 / 16384) (by omega) (by omega), w (a0 / 256 % 64) (by omega) (by omega), w (a0 % 256) (by omega) (by omega)]
    rw [Int.tdiv_eq_ediv_of_nonneg h0, Int.tdiv_eq_ediv_of_nonneg h0, w (a0 / 16384) (by omega) (by omega), w (a0 / 256) (by omega) (by omega)]
    rw [Int.tmod_eq_emod_of_nonneg (by omega), Int.tmod_eq_emod_of_nonneg (by omega)]
  · rw [if_neg h, if_pos (by omega)]

theorem PteSplits : tenementlaw04_PteSplits.Pure := by
  intro a0 h
  have b := bounds_u32 h
  refine ⟨1, ?_⟩
  unfold tenementlaw04_PteSplits.f
  rw [splits_same a0 b.1 b.2]
  cases hr : tenementref04_Split.f a0 with
  | none => unfold tenementref04_Split.f at hr; split at hr <;> cases hr
  | some r => simp [splits_awake]

end Go.Proofs.Ythfkpbfapkpnfaa.Pure
