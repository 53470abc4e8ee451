/- The document's letter is the model's; its hex. -/
import Derived.Test.YtmdeljacbekbpaaDoorRefLetter
namespace Go.Proofs.YtmdeljacbekbpaaDoor
open Go.RowKit
set_option maxRecDepth 100000

def bytL (bs : List Int) : List UInt8 := bs.map fun n => UInt8.ofNat n.toNat
theorem strOfNums_l (bs : List Int) : (strOfNums bs).data.toList = bytL bs := rfl
theorem bytL_len (bs : List Int) : (bytL bs).length = bs.length := by simp [bytL]

theorem xAt_nat {bs : List Int} (hr : ∀ x ∈ bs, 0 ≤ x ∧ x ≤ 255) (j : Nat) : xAt bs j = (((bytL bs).getD j 0).toNat : Int) := by
  unfold xAt bytL
  rw [List.getD_eq_getElem?_getD, List.getD_eq_getElem?_getD, List.getElem?_map]
  cases h : bs[j]? with
  | none => rfl
  | some x =>
    have := hr x (List.mem_of_getElem? h)
    show x = ((UInt8.ofNat x.toNat).toNat : Int)
    rw [UInt8.toNat_ofNat']
    omega

set_option maxHeartbeats 4000000 in
theorem lettR_letterN (bs : List Int) (b0 b1 b2 b3 : Nat) (h0 : xAt bs 0 = b0) (h1 : xAt bs 1 = b1) (h2 : xAt bs 2 = b2) (h3 : xAt bs 3 = b3) :
    lettR bs = (((letterN bs.length b0 b1 b2 b3).1 : Int), ((letterN bs.length b0 b1 b2 b3).2 : Int)) := by
  unfold lettR letterN
  simp only [runL, h0, h1, h2, h3]
  by_cases c1 : b0 < 128
  · rw [if_pos (by omega), if_pos c1]; rfl
  rw [if_neg (by omega), if_neg c1]
  by_cases c2 : 194 ≤ b0 ∧ b0 < 224
  · rw [if_pos (by omega), if_pos c2]
    by_cases l2 : bs.length < 2
    · rw [if_pos l2, if_pos l2]; rfl
    rw [if_neg l2, if_neg l2]
    by_cases d1 : b1 < 128 ∨ 192 ≤ b1
    · rw [if_pos (by omega), if_pos d1]; rfl
    rw [if_neg (by omega), if_neg d1]
    rw [letEnd, if_neg (by omega)]
    ext <;> simp only <;> omega
  rw [if_neg (by omega), if_neg c2]
  by_cases c3 : 224 ≤ b0 ∧ b0 < 240
  · rw [if_pos (by omega), if_pos c3]
    by_cases l2 : bs.length < 3
    · rw [if_pos l2, if_pos l2]; rfl
    rw [if_neg l2, if_neg l2]
    by_cases d1 : b1 < 128 ∨ 192 ≤ b1
    · rw [if_pos (by omega), if_pos d1]; rfl
    rw [if_neg (by omega), if_neg d1]
    by_cases d2 : b2 < 128 ∨ 192 ≤ b2
    · rw [if_pos (by omega), if_pos d2]; rfl
    rw [if_neg (by omega), if_neg d2, letEnd]
    by_cases q : 64 * (64 * (b0 - 224) + b1 - 128) + b2 - 128 < 2048 ∨ (55296 ≤ 64 * (64 * (b0 - 224) + b1 - 128) + b2 - 128 ∧ 64 * (64 * (b0 - 224) + b1 - 128) + b2 - 128 < 57344)
    · rw [if_pos (by omega), if_pos q]; rfl
    · rw [if_neg (by omega), if_neg q]
      ext <;> simp only <;> omega
  rw [if_neg (by omega), if_neg c3]
  by_cases c4 : 240 ≤ b0 ∧ b0 < 245
  · rw [if_pos (by omega), if_pos c4]
    by_cases l2 : bs.length < 4
    · rw [if_pos l2, if_pos l2]; rfl
    rw [if_neg l2, if_neg l2]
    by_cases d1 : b1 < 128 ∨ 192 ≤ b1
    · rw [if_pos (by omega), if_pos d1]; rfl
    rw [if_neg (by omega), if_neg d1]
    by_cases d2 : b2 < 128 ∨ 192 ≤ b2
    · rw [if_pos (by omega), if_pos d2]; rfl
    rw [if_neg (by omega), if_neg d2]
    by_cases d3 : b3 < 128 ∨ 192 ≤ b3
    · rw [if_pos (by omega), if_pos d3]; rfl
    rw [if_neg (by omega), if_neg d3, letEnd]
    by_cases q : 64 * (64 * (64 * (b0 - 240) + b1 - 128) + b2 - 128) + b3 - 128 < 65536 ∨ 1114111 < 64 * (64 * (64 * (b0 - 240) + b1 - 128) + b2 - 128) + b3 - 128
    · rw [if_pos (by omega), if_pos q]; rfl
    · rw [if_neg (by omega), if_neg q]
      ext <;> simp only <;> omega
  rw [if_neg (by omega), if_neg c4]
  rfl

theorem lettR_dec {bs : List Int} (hr : ∀ x ∈ bs, 0 ≤ x ∧ x ≤ 255) :
    lettR bs = if dec (bytL bs) = (65533, 1) then (0, 0) else (((dec (bytL bs)).2 : Int), ((dec (bytL bs)).1 : Int)) := by
  rw [lettR_letterN bs _ _ _ _ (xAt_nat hr 0) (xAt_nat hr 1) (xAt_nat hr 2) (xAt_nat hr 3), ← bytL_len bs, letter_decode _ _ _ _ _ (UInt8.toNat_lt _) (UInt8.toNat_lt _) (UInt8.toNat_lt _) (UInt8.toNat_lt _)]
  unfold dec
  split <;> rfl

set_option maxHeartbeats 4000000 in
/-- The document's hex. -/
theorem refhex_any (c : Nat) (w : World) (hc : c < 256) :
    Calls Tryd.prog 31 #[.int .u8 c] w fun e w' => e = .returned (.string ⟨#[92, 120, hexD (c / 16), hexD (c % 16)]⟩) ∧ Mod No w w' := by
  have e1 : IntKind.u8.wrap ((c : Int) / 16 + 1) = (c : Int) / 16 + 1 := IntWalk.u8_in _ (by omega)
  have e2 : IntKind.u8.wrap ((c : Int) % 16 + 1) = (c : Int) % 16 + 1 := IntWalk.u8_in _ (by omega)
  have g1 : (0 : Int) ≤ (c : Int) / 16 := by omega
  have g2 : (c : Int) / 16 ≤ (c : Int) / 16 + 1 := by omega
  have g3 : (c : Int) / 16 + 1 ≤ 16 := by omega
  have g4 : (0 : Int) ≤ (c : Int) % 16 := by omega
  have g5 : (c : Int) % 16 ≤ (c : Int) % 16 + 1 := by omega
  have g6 : (c : Int) % 16 + 1 ≤ 16 := by omega
  have x1 : (⟨#[48, 49, 50, 51, 52, 53, 54, 55, 56, 57, 97, 98, 99, 100, 101, 102]⟩ : ByteArray).extract ((c : Int) / 16).toNat ((c : Int) / 16 + 1).toNat = ⟨#[hexD (c / 16)]⟩ := by
    rw [show ((c : Int) / 16).toNat = c / 16 by omega, show ((c : Int) / 16 + 1).toNat = c / 16 + 1 by omega]; exact digit_at (c / 16) (by omega)
  have x2 : (⟨#[48, 49, 50, 51, 52, 53, 54, 55, 56, 57, 97, 98, 99, 100, 101, 102]⟩ : ByteArray).extract ((c : Int) % 16).toNat ((c : Int) % 16 + 1).toNat = ⟨#[hexD (c % 16)]⟩ := by
    rw [show ((c : Int) % 16).toNat = c % 16 by omega, show ((c : Int) % 16 + 1).toNat = c % 16 + 1 by omega]; exact digit_at (c % 16) (by omega)
  go_enter Tryd.func31, Tryd.ntmps31
  go_wp2_with fail
  go_quiet (fail)
  go_wp2
  go_ret
  exact ⟨rfl, (Mod.refl No w).drewN _⟩

end Go.Proofs.YtmdeljacbekbpaaDoor
