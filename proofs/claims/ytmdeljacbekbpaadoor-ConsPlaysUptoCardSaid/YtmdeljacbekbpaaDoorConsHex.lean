/- cons.Show's hex: bytes as letters, onto a Builder. -/
import Derived.Test.YtmdeljacbekbpaaDoorConsShelf
import Derived.Test.YtmdeljacbekbpaaDoorPhysH
import Derived.Test.YtmdeljacbekbpaaDoorShowPure2
import Derived.RegionTactic
import Derived.ChangeAlike
import Derived.Deep.RegionHeld3
import Derived.Deep.DeepCutAuto
import Derived.Deep.CutRange
import Derived.IntWalk
namespace Go.Proofs.YtmdeljacbekbpaaDoor
open Go.RowKit
set_option maxRecDepth 100000

theorem hexs_snoc (l : List UInt8) (c : UInt8) : hexs (l ++ [c]) = hexs l ++ [92, 120, hexD (c.toNat / 16), hexD (c.toNat % 16)] := by
  unfold hexs
  rw [List.flatMap_append]
  simp

theorem and15 : ∀ c : Nat, c < 256 → bits BinOp.and IntKind.u8 (c : Int) 15 = (c : Int) % 16 := by decide +kernel
theorem digit_at : ∀ k : Nat, k < 16 → (⟨#[48, 49, 50, 51, 52, 53, 54, 55, 56, 57, 97, 98, 99, 100, 101, 102]⟩ : ByteArray).extract k (k + 1) = ⟨#[hexD k]⟩ := by decide +kernel

set_option maxHeartbeats 4000000 in
theorem hex_any (B b : Nat) (acc : List UInt8) (l : ByteArray) (w : World) (h : Lib.IsBuilderF 79 5 B b (Lib.byteCells acc) w) (hlen : acc.length + 4 * l.size ≤ 140737488355328) (hBw : B ≤ w.heap.size) :
    Calls Tryd.prog 26 #[.string l, .pointer (some ⟨b, 0, none⟩)] w fun e w' => e = .returned (.tuple #[]) ∧ Lib.IsBuilderF 79 5 B b (Lib.byteCells (acc ++ hexs l.data.toList)) w' ∧ Below B w w' ∧ Lib.OthersKept 5 (some b) w w' := by
  go_enter Tryd.func26, Tryd.ntmps26
  go_wp2_with fail
  go_loopw [6] (fun v wx => ∃ i : Nat, v = .int .i64 i ∧ i ≤ l.size ∧ Lib.IsBuilderF 79 5 B b (Lib.byteCells (acc ++ hexs (l.data.toList.take i))) wx ∧ Below B w wx ∧ Lib.OthersKept 5 (some b) w wx) (fun v _ => l.size - (intOf v).toNat)
  case atStart => exact ⟨0, rfl, by omega, by simpa [hexs] using h, Below.refl _ _, Lib.OthersKept.refl _ _ _⟩
  case round =>
    obtain ⟨i, rfl, hi, hI, hb, hk⟩ := hrel
    by_cases hlt : i < l.size
    · have hlt' : (i : Int) < l.size := by omega
      obtain ⟨c, hc⟩ : ∃ c : Nat, (l[i]'hlt).toNat = c := ⟨_, rfl⟩
      have hc2 : c < 256 := by rw [← hc]; exact UInt8.toNat_lt _
      have e1 : IntKind.u8.wrap ((c : Int) / 16 + 1) = (c : Int) / 16 + 1 := IntWalk.u8_in _ (by omega)
      have e2 : IntKind.u8.wrap ((c : Int) % 16 + 1) = (c : Int) % 16 + 1 := IntWalk.u8_in _ (by omega)
      have g1 : (0 : Int) ≤ (c : Int) / 16 := by omega
      have g2 : (c : Int) / 16 ≤ (c : Int) / 16 + 1 := by omega
      have g3 : (c : Int) / 16 + 1 ≤ 16 := by omega
      have g4 : (0 : Int) ≤ (c : Int) % 16 := by omega
      have g5 : (c : Int) % 16 ≤ (c : Int) % 16 + 1 := by omega
      have g6 : (c : Int) % 16 + 1 ≤ 16 := by omega
      have b1 : bits BinOp.and IntKind.u8 (c : Int) 15 = (c : Int) % 16 := and15 c hc2
      have x1 : (⟨#[48, 49, 50, 51, 52, 53, 54, 55, 56, 57, 97, 98, 99, 100, 101, 102]⟩ : ByteArray).extract ((c : Int) / 16).toNat ((c : Int) / 16 + 1).toNat = ⟨#[hexD (c / 16)]⟩ := by
        rw [show ((c : Int) / 16).toNat = c / 16 by omega, show ((c : Int) / 16 + 1).toNat = c / 16 + 1 by omega]; exact digit_at (c / 16) (by omega)
      have x2 : (⟨#[48, 49, 50, 51, 52, 53, 54, 55, 56, 57, 97, 98, 99, 100, 101, 102]⟩ : ByteArray).extract ((c : Int) % 16).toNat ((c : Int) % 16 + 1).toNat = ⟨#[hexD (c % 16)]⟩ := by
        rw [show ((c : Int) % 16).toNat = c % 16 by omega, show ((c : Int) % 16 + 1).toNat = c % 16 + 1 by omega]; exact digit_at (c % 16) (by omega)
      have hsz : ((⟨#[92, 120]⟩ : ByteArray) ++ ⟨#[hexD (c / 16)]⟩ ++ ⟨#[hexD (c % 16)]⟩).size = 4 := by rw [ByteArray.size_append, ByteArray.size_append]; rfl
      have hll : (Lib.byteCells (acc ++ hexs (l.data.toList.take i))).length + ((⟨#[92, 120]⟩ : ByteArray) ++ ⟨#[hexD (c / 16)]⟩ ++ ⟨#[hexD (c % 16)]⟩).size ≤ 140737488355328 := by
        rw [hsz, Lib.byteCells_length, List.length_append, hexs_len, List.length_take]
        have := Lib.size_eq l
        omega
      have HWS : Hid (∀ w', w' = wr.drew → Calls Tryd.prog 27 #[.pointer (some ⟨b, 0, none⟩), .string ((⟨#[92, 120]⟩ : ByteArray) ++ ⟨#[hexD (c / 16)]⟩ ++ ⟨#[hexD (c % 16)]⟩)] w' _) := fun w' hw' => by
        subst hw'
        exact Tryd.Builder_WriteString_k B b _ _ _ (hI.elim (fun x => .inl x.drew) (fun x => .inr x.drew)) hll (Nat.le_trans hBw hb.size)
      clear hll hsz
      have k0 : (0 : Int) ≤ i := by omega
      have k1 : ((i : Int)).toNat = i := by omega
      have hS1 : (fun _ : World => True) wr := trivial
      have HI := Lib.hid hI
      have HB := Lib.hid hb
      have HK := Lib.hid hk
      clear hI hb hk h
      have e3 : l.data.toList.take (i + 1) = l.data.toList.take i ++ [l[i]'hlt] := by
        have hl : i < l.data.toList.length := by rw [← Lib.size_eq l]; exact hlt
        rw [List.take_add_one, List.getElem?_eq_getElem hl]
        rfl
      go_upto_region 3 with (fail)
      go_region_held3 (fun _ : World => True) (exact trivial) ((go_at_call 27; refine (HWS.out _ rfl).mono ?_; rintro e w2 ⟨rfl, h2, hb2, hk2⟩; have HI2 := Lib.hid h2; have HB2 := Lib.hid (HB.out.drew.trans hb2); have HK2 := Lib.hid (HK.out.drew.trans hk2); clear h2 hb2 hk2))
      all_goals (go_wp2_with fail)
      all_goals (go_roundw)
      all_goals first
        | exact ⟨i + 1, by go_num, by omega, by rw [e3, hexs_snoc, hc, ← List.append_assoc, Lib.byteCells_append]; exact .inr HI2.out, HB2.out, HK2.out⟩
        | (simp [intOf]; omega)
    · obtain rfl : i = l.size := by omega
      have hni : ¬ ((l.size : Nat) : Int) < ((l.size : Nat) : Int) := by omega
      have d1 : decide (((l.size : Nat) : Int) < ((l.size : Nat) : Int)) = false := decide_eq_false hni
      have e4 : l.data.toList.take l.size = l.data.toList := List.take_of_length_le (by rw [Lib.size_eq l]; exact Nat.le_refl _)
      go_wp2_with fail
      go_end0
      rw [e4] at hI
      exact ⟨rfl, hI, hb, hk⟩

end Go.Proofs.YtmdeljacbekbpaaDoor
