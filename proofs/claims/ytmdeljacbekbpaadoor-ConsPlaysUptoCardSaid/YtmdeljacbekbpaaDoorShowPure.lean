/- Bytes as a text that can be read, plainly: the document's letters are the model's. -/
import Derived.Lib.TrimUEq
namespace Go.Proofs.YtmdeljacbekbpaaDoor
open Go.Lib

/-- The document's: how many bytes the letter has, and which it is; 0, 0: none. -/
def letterN (n b0 b1 b2 b3 : Nat) : Nat × Nat :=
  if b0 < 128 then (1, b0)
  else if 194 ≤ b0 ∧ b0 < 224 then (if n < 2 then (0, 0) else if b1 < 128 ∨ 192 ≤ b1 then (0, 0) else (2, 64 * (b0 - 192) + b1 - 128))
  else if 224 ≤ b0 ∧ b0 < 240 then
    (if n < 3 then (0, 0) else if b1 < 128 ∨ 192 ≤ b1 then (0, 0) else if b2 < 128 ∨ 192 ≤ b2 then (0, 0) else
      if 64 * (64 * (b0 - 224) + b1 - 128) + b2 - 128 < 2048 ∨ (55296 ≤ 64 * (64 * (b0 - 224) + b1 - 128) + b2 - 128 ∧ 64 * (64 * (b0 - 224) + b1 - 128) + b2 - 128 < 57344) then (0, 0) else (3, 64 * (64 * (b0 - 224) + b1 - 128) + b2 - 128))
  else if 240 ≤ b0 ∧ b0 < 245 then
    (if n < 4 then (0, 0) else if b1 < 128 ∨ 192 ≤ b1 then (0, 0) else if b2 < 128 ∨ 192 ≤ b2 then (0, 0) else if b3 < 128 ∨ 192 ≤ b3 then (0, 0) else
      if 64 * (64 * (64 * (b0 - 240) + b1 - 128) + b2 - 128) + b3 - 128 < 65536 ∨ 1114111 < 64 * (64 * (64 * (b0 - 240) + b1 - 128) + b2 - 128) + b3 - 128 then (0, 0) else (4, 64 * (64 * (64 * (b0 - 240) + b1 - 128) + b2 - 128) + b3 - 128))
  else (0, 0)

theorem ld_bad {n b0 b1 b2 b3 : Nat} (h : decodeN n b0 b1 b2 b3 = (65533, 1)) (hl : letterN n b0 b1 b2 b3 = (0, 0)) :
    letterN n b0 b1 b2 b3 = if decodeN n b0 b1 b2 b3 = (65533, 1) then (0, 0) else ((decodeN n b0 b1 b2 b3).2, (decodeN n b0 b1 b2 b3).1) := by rw [h, if_pos rfl, hl]
theorem ld_good {n b0 b1 b2 b3 v k : Nat} (h : decodeN n b0 b1 b2 b3 = (v, k)) (hne : v ≠ 65533 ∨ k ≠ 1) (hl : letterN n b0 b1 b2 b3 = (k, v)) :
    letterN n b0 b1 b2 b3 = if decodeN n b0 b1 b2 b3 = (65533, 1) then (0, 0) else ((decodeN n b0 b1 b2 b3).2, (decodeN n b0 b1 b2 b3).1) := by
  rw [h, if_neg (by simp only [Prod.mk.injEq]; omega), hl]

theorem letter_decode (n b0 b1 b2 b3 : Nat) (h0 : b0 < 256) (h1 : b1 < 256) (h2 : b2 < 256) (h3 : b3 < 256) :
    letterN n b0 b1 b2 b3 = if decodeN n b0 b1 b2 b3 = (65533, 1) then (0, 0) else ((decodeN n b0 b1 b2 b3).2, (decodeN n b0 b1 b2 b3).1) := by
  by_cases c1 : b0 < 128
  · exact ld_good (v := b0) (k := 1) (by unfold decodeN; rw [if_pos c1]) (by omega) (by unfold letterN; rw [if_pos c1])
  by_cases c2 : b0 / 32 = 6
  · by_cases d : 1 < n ∧ b1 / 64 = 2
    · by_cases q : b0 % 32 * 64 + b1 % 64 ≥ 128
      · refine ld_good (v := b0 % 32 * 64 + b1 % 64) (k := 2) (by unfold decodeN; rw [if_neg c1, if_pos ⟨c2, d⟩, if_pos q]) (by omega) ?_
        unfold letterN
        rw [if_neg c1, if_pos (by omega), if_neg (by omega), if_neg (by omega)]
        simp only [Prod.mk.injEq, true_and]; omega
      · refine ld_bad (by unfold decodeN; rw [if_neg c1, if_pos ⟨c2, d⟩, if_neg q]) ?_
        unfold letterN
        rw [if_neg c1, if_neg (by omega), if_neg (by omega), if_neg (by omega)]
    · refine ld_bad (by unfold decodeN; rw [if_neg c1, if_neg (fun q => d q.2), if_neg (by omega), if_neg (by omega)]) ?_
      unfold letterN
      rw [if_neg c1]
      split
      · split
        · rfl
        · rw [if_pos (by omega)]
      · rw [if_neg (by omega), if_neg (by omega)]
  by_cases c3 : b0 / 16 = 14
  · by_cases d : (1 < n ∧ b1 / 64 = 2) ∧ (2 < n ∧ b2 / 64 = 2)
    · have e : 64 * (64 * (b0 - 224) + b1 - 128) + b2 - 128 = b0 % 16 * 4096 + b1 % 64 * 64 + b2 % 64 := by omega
      have hv : b0 % 16 * 4096 + b1 % 64 * 64 + b2 % 64 ≤ 65535 := by omega
      have hl : letterN n b0 b1 b2 b3 = if b0 % 16 * 4096 + b1 % 64 * 64 + b2 % 64 < 2048 ∨ (55296 ≤ b0 % 16 * 4096 + b1 % 64 * 64 + b2 % 64 ∧ b0 % 16 * 4096 + b1 % 64 * 64 + b2 % 64 < 57344) then (0, 0) else (3, b0 % 16 * 4096 + b1 % 64 * 64 + b2 % 64) := by
        unfold letterN
        rw [if_neg c1, if_neg (by omega), if_pos (by omega), if_neg (by omega), if_neg (by omega), if_neg (by omega), e]
      by_cases q : b0 % 16 * 4096 + b1 % 64 * 64 + b2 % 64 ≥ 2048 ∧ (b0 % 16 * 4096 + b1 % 64 * 64 + b2 % 64 < 55296 ∨ (57344 ≤ b0 % 16 * 4096 + b1 % 64 * 64 + b2 % 64 ∧ b0 % 16 * 4096 + b1 % 64 * 64 + b2 % 64 ≤ 1114111))
      · refine ld_good (v := b0 % 16 * 4096 + b1 % 64 * 64 + b2 % 64) (k := 3) (by unfold decodeN; rw [if_neg c1, if_neg (fun q => c2 q.1), if_pos ⟨c3, d⟩, if_pos q]) (by omega) ?_
        rw [hl, if_neg (by omega)]
      · refine ld_bad (by unfold decodeN; rw [if_neg c1, if_neg (fun q => c2 q.1), if_pos ⟨c3, d⟩, if_neg q]) ?_
        rw [hl, if_pos (by omega)]
    · refine ld_bad (by unfold decodeN; rw [if_neg c1, if_neg (fun q => c2 q.1), if_neg (fun q => d q.2), if_neg (by omega)]) ?_
      unfold letterN
      rw [if_neg c1, if_neg (by omega), if_pos (by omega)]
      split
      · rfl
      · split
        · rfl
        · rw [if_pos (by omega)]
  by_cases c4 : b0 / 8 = 30
  · by_cases d : (1 < n ∧ b1 / 64 = 2) ∧ (2 < n ∧ b2 / 64 = 2) ∧ (3 < n ∧ b3 / 64 = 2)
    · have e : 64 * (64 * (64 * (b0 - 240) + b1 - 128) + b2 - 128) + b3 - 128 = b0 % 8 * 262144 + b1 % 64 * 4096 + b2 % 64 * 64 + b3 % 64 := by omega
      have hv : 245 ≤ b0 → 1114111 < b0 % 8 * 262144 + b1 % 64 * 4096 + b2 % 64 * 64 + b3 % 64 := by omega
      have hl : b0 < 245 → letterN n b0 b1 b2 b3 = if b0 % 8 * 262144 + b1 % 64 * 4096 + b2 % 64 * 64 + b3 % 64 < 65536 ∨ 1114111 < b0 % 8 * 262144 + b1 % 64 * 4096 + b2 % 64 * 64 + b3 % 64 then (0, 0) else (4, b0 % 8 * 262144 + b1 % 64 * 4096 + b2 % 64 * 64 + b3 % 64) := by
        intro h245
        unfold letterN
        rw [if_neg c1, if_neg (by omega), if_neg (by omega), if_pos (by omega), if_neg (by omega), if_neg (by omega), if_neg (by omega), if_neg (by omega), e]
      have hl2 : ¬ b0 < 245 → letterN n b0 b1 b2 b3 = (0, 0) := by
        intro h245
        unfold letterN
        rw [if_neg c1, if_neg (by omega), if_neg (by omega), if_neg (by omega)]
      by_cases q : b0 % 8 * 262144 + b1 % 64 * 4096 + b2 % 64 * 64 + b3 % 64 ≥ 65536 ∧ (b0 % 8 * 262144 + b1 % 64 * 4096 + b2 % 64 * 64 + b3 % 64 < 55296 ∨ (57344 ≤ b0 % 8 * 262144 + b1 % 64 * 4096 + b2 % 64 * 64 + b3 % 64 ∧ b0 % 8 * 262144 + b1 % 64 * 4096 + b2 % 64 * 64 + b3 % 64 ≤ 1114111))
      · refine ld_good (v := b0 % 8 * 262144 + b1 % 64 * 4096 + b2 % 64 * 64 + b3 % 64) (k := 4) (by unfold decodeN; rw [if_neg c1, if_neg (fun q => c2 q.1), if_neg (fun q => c3 q.1), if_pos ⟨c4, d⟩, if_pos q]) (by omega) ?_
        rw [hl (by omega), if_neg (by omega)]
      · refine ld_bad (by unfold decodeN; rw [if_neg c1, if_neg (fun q => c2 q.1), if_neg (fun q => c3 q.1), if_pos ⟨c4, d⟩, if_neg q]) ?_
        by_cases h245 : b0 < 245
        · rw [hl h245, if_pos (by omega)]
        · exact hl2 h245
    · refine ld_bad (by unfold decodeN; rw [if_neg c1, if_neg (fun q => c2 q.1), if_neg (fun q => c3 q.1), if_neg (fun q => d q.2)]) ?_
      unfold letterN
      rw [if_neg c1, if_neg (by omega), if_neg (by omega)]
      split
      · split
        · rfl
        · split
          · rfl
          · split
            · rfl
            · rw [if_pos (by omega)]
      · rfl
  · refine ld_bad (by unfold decodeN; rw [if_neg c1, if_neg (fun q => c2 q.1), if_neg (fun q => c3 q.1), if_neg (fun q => c4 q.1)]) ?_
    unfold letterN
    rw [if_neg c1, if_neg (by omega), if_neg (by omega), if_neg (by omega)]

end Go.Proofs.YtmdeljacbekbpaaDoor
