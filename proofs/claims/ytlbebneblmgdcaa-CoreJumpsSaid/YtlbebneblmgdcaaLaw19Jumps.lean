/- CoreJumps: what a jump's step is, plainly. -/
import Derived.Test.YtlbebneblmgdcaaLaw19Sums
namespace Go.Proofs.Ytlbebneblmgdcaa
open Go.RowKit
set_option maxRecDepth 100000

theorem far_of (k n : Int) (hk : -32768 ≤ k ∧ k ≤ 32767) (hn : n = k % 65536) : farI n = k := by
  unfold farI
  split <;> omega
theorem jumps_step (T : Bool) (q : Option Addr) (c : Nat) (x : Nat) (n k : Int) (hx : x < 8) (hk : -32768 ≤ k ∧ k ≤ 32767) (hn : n = k % 65536) (R : List Int) :
    stepR (begS [⟨2, 8, q, [(if T then 19 else 18 : Int), (x : Int), n % 256, n / 256], c⟩]) 0 R 8 = ⟨R, if (R.getD x 0 != 0) = T then (12 + 4 * k) % 1048576 else 12, goesS, begS [⟨2, 8, q, [(if T then 19 else 18 : Int), (x : Int), n % 256, n / 256], c⟩]⟩ := by
  unfold stepR
  rw [fetch_jumps]
  generalize begS [⟨2, 8, q, [(if T then 19 else 18 : Int), (x : Int), n % 256, n / 256], c⟩] = S
  simp only [List.getD_cons_zero, List.getD_cons_succ, ne_eq, not_true_eq_false, if_false]
  have e : n % 256 + 256 * (n / 256) = n := by omega
  have ef := far_of k n hk hn
  unfold workR
  cases T with
  | true =>
    simp only [if_true]
    rw [if_neg (show ¬ (20 < (19 : Int)) by omega), if_neg (show ¬ ((1 ≤ namedR 19 ∧ 7 < (x : Int)) ∨ (2 ≤ namedR 19 ∧ 7 < n % 256) ∨ (3 ≤ namedR 19 ∧ 7 < n / 256)) by
      have : namedR 19 = 1 := rfl
      rw [this]; omega)]
    have hd : doR S 0 R ((8 + 4) % 1048576) 19 x (n % 256) (n / 256) = ⟨R, if R.getD x 0 ≠ 0 then (12 + 4 * k) % 1048576 else 12, goesS, S⟩ := by
      show (⟨R, if R.getD (x : Int).toNat 0 ≠ 0 then ((8 + 4) % 1048576 + 4 * farI (n % 256 + 256 * (n / 256))) % 1048576 else (8 + 4) % 1048576, goesS, S⟩ : Out) = _
      rw [e, ef, Int.toNat_natCast]
      rfl
    rw [hd, if_neg (by simp [goesS])]
    by_cases hz : R.getD x 0 = 0
    · rw [if_neg (by simpa using hz), if_neg (by rw [hz]; decide)]
    · rw [if_pos hz, if_pos (by simpa using hz)]
  | false =>
    simp only [Bool.false_eq_true, if_false]
    rw [if_neg (show ¬ (20 < (18 : Int)) by omega), if_neg (show ¬ ((1 ≤ namedR 18 ∧ 7 < (x : Int)) ∨ (2 ≤ namedR 18 ∧ 7 < n % 256) ∨ (3 ≤ namedR 18 ∧ 7 < n / 256)) by
      have : namedR 18 = 1 := rfl
      rw [this]; omega)]
    have hd : doR S 0 R ((8 + 4) % 1048576) 18 x (n % 256) (n / 256) = ⟨R, if R.getD x 0 = 0 then (12 + 4 * k) % 1048576 else 12, goesS, S⟩ := by
      show (⟨R, if R.getD (x : Int).toNat 0 = 0 then ((8 + 4) % 1048576 + 4 * farI (n % 256 + 256 * (n / 256))) % 1048576 else (8 + 4) % 1048576, goesS, S⟩ : Out) = _
      rw [e, ef, Int.toNat_natCast]
      rfl
    rw [hd, if_neg (by simp [goesS])]
    by_cases hz : R.getD x 0 = 0
    · rw [if_pos hz, if_pos (by rw [hz]; decide)]
    · rw [if_neg hz, if_neg (by simpa using hz)]

theorem wrap64_in (v : Int) (h : -9223372036854775808 ≤ v ∧ v ≤ 9223372036854775807) : wrap64 v = v := by
  unfold wrap64; omega
theorem tmod_small (v : Int) (h : -131072 ≤ v ∧ v ≤ 131080) : v.tmod 1048576 = v := by
  by_cases h0 : 0 ≤ v
  · rw [Int.tmod_eq_emod_of_nonneg h0]; omega
  · have : v = -(-v) := by omega
    rw [this, Int.neg_tmod, Int.tmod_eq_emod_of_nonneg (by omega)]
    omega

end Go.Proofs.Ytlbebneblmgdcaa
