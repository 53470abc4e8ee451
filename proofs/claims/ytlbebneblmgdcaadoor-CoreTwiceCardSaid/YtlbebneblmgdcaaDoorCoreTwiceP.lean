/- CoreTwice, plainly: a run of a sum is a run and a run behind it. -/
import Derived.Test.YtlbebneblmgdcaaDoorCoreRunP
namespace Go.Proofs.YtlbebneblmgdcaaDoor
open Go.RowKit
set_option maxRecDepth 100000

theorem runR_zero {root : Int} : ∀ (n : Nat) (S : List Fr) (R : List Int) (pc : Int), (runR root n S R pc).1.s.k = 0 → (runR root n S R pc).2 = n
  | 0, _, _, _, _ => rfl
  | n + 1, S, R, pc, h => by
    rw [runR] at h ⊢
    split at h
    · rename_i hk; exact absurd h hk
    · rename_i hk
      rw [if_neg hk]
      dsimp only at h ⊢
      rw [runR_zero n _ _ _ h]
theorem runR_more {root : Int} (k : Nat) : ∀ (n : Nat) (S : List Fr) (R : List Int) (pc : Int), (runR root n S R pc).1.s.k = 0 →
    runR root (n + k) S R pc = ((runR root k (runR root n S R pc).1.S (runR root n S R pc).1.R (runR root n S R pc).1.pc).1, n + (runR root k (runR root n S R pc).1.S (runR root n S R pc).1.R (runR root n S R pc).1.pc).2)
  | 0, S, R, pc, _ => by
    rw [Nat.zero_add]
    show _ = ((runR root k S R pc).1, 0 + (runR root k S R pc).2)
    rw [Nat.zero_add]
  | n + 1, S, R, pc, h => by
    rw [show n + 1 + k = (n + k) + 1 by omega, runR, runR]
    rw [runR] at h
    split at h
    · rename_i hk; exact absurd h hk
    · rename_i hk
      rw [if_neg hk, if_neg hk]
      dsimp only at h ⊢
      rw [runR_more k n _ _ _ h]
      dsimp only
      rw [show n + (runR root k (runR root n (stepR S root R pc).S (stepR S root R pc).R (stepR S root R pc).pc).1.S (runR root n (stepR S root R pc).S (stepR S root R pc).R (stepR S root R pc).pc).1.R (runR root n (stepR S root R pc).S (stepR S root R pc).R (stepR S root R pc).pc).1.pc).2 + 1 = n + 1 + (runR root k (runR root n (stepR S root R pc).S (stepR S root R pc).R (stepR S root R pc).pc).1.S (runR root n (stepR S root R pc).S (stepR S root R pc).R (stepR S root R pc).pc).1.R (runR root n (stepR S root R pc).S (stepR S root R pc).R (stepR S root R pc).pc).1.pc).2 by omega]
theorem runR_over {root : Int} (k : Nat) : ∀ (n : Nat) (S : List Fr) (R : List Int) (pc : Int), (runR root n S R pc).1.s.k ≠ 0 → runR root (n + k) S R pc = runR root n S R pc
  | 0, S, R, pc, h => absurd rfl h
  | n + 1, S, R, pc, h => by
    rw [show n + 1 + k = (n + k) + 1 by omega, runR, runR]
    rw [runR] at h
    split at h
    · rename_i hk
      rw [if_pos hk, if_pos hk]
    · rename_i hk
      rw [if_neg hk, if_neg hk]
      dsimp only at h
      rw [runR_over k n _ _ _ h]
theorem runR_le {root : Int} : ∀ (n : Nat) (S : List Fr) (R : List Int) (pc : Int), (runR root n S R pc).2 ≤ n
  | 0, _, _, _ => Nat.le_refl _
  | n + 1, S, R, pc => by
    rw [runR]
    split
    · show 1 ≤ n + 1
      omega
    · exact Nat.succ_le_succ (runR_le n _ _ _)

end Go.Proofs.YtlbebneblmgdcaaDoor
