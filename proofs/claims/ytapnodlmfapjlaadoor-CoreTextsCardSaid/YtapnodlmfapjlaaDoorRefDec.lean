/- The document's decimal. -/
import Derived.Test.YtapnodlmfapjlaaDoorCoreTextG
import Derived.Lib.ItoaNum
import Derived.Laws.BytesArg
namespace Go.Proofs.YtapnodlmfapjlaaDoor
open Go.RowKit
set_option maxRecDepth 100000

theorem rdec_nat : ∀ (m u : Nat), u ≤ m → u ≤ 65535 → ∀ w : World, Calls Tryd.prog 16 #[.int .i64 (u : Int)] w fun e w' => e = .returned (.string ⟨(Lib.decDigits u).toArray⟩) ∧ Mod No w w' := by
  intro m
  induction m with
  | zero =>
    intro u h1 h2 w
    obtain rfl : u = 0 := by omega
    have hcv : ∀ w', w' = w.alloc (.cells #[.int .u8 48] 5) → (convert 22 9 (.slice (some ⟨w.heap.size, 0, none⟩) 1 1)).run Tryd.prog w' = .ok (.string ⟨#[48]⟩) w' := fun w' h => by
      subst h
      exact run_convert_bytes_arg _ 22 5 Tryd.underlying22 Tryd.underlying5 w.heap.size 0 1 1 [48] rfl (fun i hi => by
        obtain rfl : i = 0 := by omega
        exact row_cell (heap_alloc_new w (.cells #[.int .u8 48] 5)) 0) 9 Tryd.underlying9
    have hcv2 := hcv _ rfl
    clear hcv
    go_enter Tryd.func16, Tryd.ntmps16
    go_wp2
    go_ret
    refine ⟨?_, (Mod.refl No w).alloc _⟩
    rw [show Lib.decDigits 0 = [48] by unfold Lib.decDigits; rfl]
    rfl
  | succ m ih =>
    intro u h1 h2 w
    obtain ⟨d, hd⟩ : ∃ d : Nat, d = u % 10 := ⟨_, rfl⟩
    have hd9 : d ≤ 9 := by omega
    have e1 : (u : Int) % 10 = (d : Int) := by omega
    have e1b : ((u : Int)).tmod 10 = (d : Int) := by rw [Int.tmod_eq_emod_of_nonneg (by omega)]; omega
    have e2 : IntKind.i64.wrap (48 + (d : Int)) = 48 + (d : Int) := IntWalk.i64_in _ (by omega)
    have e3 : IntKind.u8.wrap (48 + (d : Int)) = 48 + (d : Int) := IntWalk.u8_in _ (by omega)
    have e4 : (48 + (d : Int)) % 256 = 48 + (d : Int) := by omega
    obtain ⟨y, hy⟩ : ∃ y : UInt8, y = UInt8.ofNat (48 + d) := ⟨_, rfl⟩
    have hcv2 : (convert 22 9 (.slice (some ⟨w.heap.size, 0, none⟩) 1 1)).run Tryd.prog (w.alloc (.cells #[.int .u8 (48 + (d : Int))] 5)) = .ok (.string ⟨#[y]⟩) (w.alloc (.cells #[.int .u8 (48 + (d : Int))] 5)) := by
      have := run_convert_bytes_arg (w.alloc (.cells #[.int .u8 (48 + (d : Int))] 5)) 22 5 Tryd.underlying22 Tryd.underlying5 w.heap.size 0 1 1 [48 + (d : Int)] rfl (fun i hi => by
        obtain rfl : i = 0 := by omega
        exact row_cell (heap_alloc_new w (.cells #[.int .u8 (48 + (d : Int))] 5)) 0) 9 Tryd.underlying9
      rw [this]
      unfold strOfNums
      rw [show ([48 + (d : Int)].map fun n => UInt8.ofNat n.toNat) = [UInt8.ofNat (48 + d)] by
        simp only [List.map_cons, List.map_nil]
        rw [show (48 + (d : Int)).toNat = 48 + d by omega]]
      rw [← hy]
    have HY := Lib.hid hy
    clear hy
    have n0 : ¬ (u : Int) < 0 := by omega
    have HHD := Lib.hid hd
    clear hd
    by_cases h10 : u < 10
    · have n1 : ¬ (10 : Int) ≤ (u : Int) := by omega
      go_enter Tryd.func16, Tryd.ntmps16
      go_wp2
      go_ret
      have hdu : d = u := by have := HHD.out; omega
      refine ⟨?_, (Mod.refl No w).alloc _⟩
      rw [show Lib.decDigits u = [UInt8.ofNat (48 + u)] by unfold Lib.decDigits; rw [dif_pos h10], ← hdu, ← HY.out]
      rfl
    · have n1 : (10 : Int) ≤ (u : Int) := by omega
      have HIH : Hid (∀ w', Calls Tryd.prog 16 #[.int .i64 ((u : Int) / 10)] w' fun e w2 => e = .returned (.string ⟨(Lib.decDigits (u / 10)).toArray⟩) ∧ Mod No w' w2) := fun w' => by
        have := ih (u / 10) (by omega) (by omega) w'
        rwa [show ((u / 10 : Nat) : Int) = (u : Int) / 10 by omega] at this
      have e5 : ((u : Int)).tdiv 10 = (u : Int) / 10 := Int.tdiv_eq_ediv_of_nonneg (by omega)
      obtain ⟨S, hS⟩ : ∃ S : ByteArray, S = ⟨(Lib.decDigits (u / 10)).toArray⟩ := ⟨_, rfl⟩
      have hlen : S.size ≤ 70000 := by
        rw [hS, ByteArray.size]
        simp only [List.size_toArray]
        have := dec_len (u / 10) (u / 10) (Nat.le_refl _)
        omega
      rw [← hS] at HIH
      have HS := Lib.hid hS
      clear hS
      have n9 : ¬ 9223372036854775807 < S.size + (⟨#[y]⟩ : ByteArray).size := by
        rw [show (⟨#[y]⟩ : ByteArray).size = 1 from rfl]
        omega
      go_enter Tryd.func16, Tryd.ntmps16
      go_wp2_with (go_at_call 16; refine (HIH.out _).mono ?_; rintro e w5 ⟨rfl, hm5⟩)
      go_ret
      refine ⟨?_, ((Mod.refl No w).alloc _).trans hm5⟩
      rw [show Lib.decDigits u = Lib.decDigits (u / 10) ++ [UInt8.ofNat (48 + u % 10)] by conv => lhs; unfold Lib.decDigits; rw [dif_neg h10]]
      rw [← HHD.out, ← HY.out, HS.out]
      rfl

end Go.Proofs.YtapnodlmfapjlaaDoor
