/- The document's decimal of any number of 16 bits with a sign. -/
import Derived.Test.YtapnodlmfapjlaaDoorRefDec
namespace Go.Proofs.YtapnodlmfapjlaaDoor
open Go.RowKit
set_option maxRecDepth 100000

theorem rdec_any (n : Int) (h0 : -65535 ≤ n) (h1 : n ≤ 65535) (w : World) : Calls Tryd.prog 16 #[.int .i64 n] w fun e w' => e = .returned (.string ⟨(Lib.itoa n).toArray⟩) ∧ Mod No w w' := by
  by_cases hn : n < 0
  · obtain ⟨u, hu⟩ : ∃ u : Nat, n = -(u : Int) := ⟨n.natAbs, by omega⟩
    subst hu
    have HIH : Hid (∀ w', Calls Tryd.prog 16 #[.int .i64 (u : Int)] w' fun e w2 => e = .returned (.string ⟨(Lib.decDigits u).toArray⟩) ∧ Mod No w' w2) := fun w' => rdec_nat u u (Nat.le_refl _) (by omega) w'
    obtain ⟨S, hS⟩ : ∃ S : ByteArray, S = ⟨(Lib.decDigits u).toArray⟩ := ⟨_, rfl⟩
    have hlen : S.size ≤ 70000 := by
      rw [hS, ByteArray.size]
      simp only [List.size_toArray]
      have := dec_len u u (Nat.le_refl _)
      omega
    rw [← hS] at HIH
    have HS := Lib.hid hS
    clear hS
    have n0 : -(u : Int) < 0 := hn
    have n9 : ¬ 9223372036854775807 < (⟨#[45]⟩ : ByteArray).size + S.size := by
      rw [show (⟨#[45]⟩ : ByteArray).size = 1 from rfl]
      omega
    go_enter Tryd.func16, Tryd.ntmps16
    go_wp2_with (go_at_call 16; refine (HIH.out _).mono ?_; rintro e w5 ⟨rfl, hm5⟩)
    go_ret
    refine ⟨?_, hm5⟩
    rw [show Lib.itoa (-(u : Int)) = 45 :: Lib.decDigits u by unfold Lib.itoa; rw [if_pos hn]; simp, HS.out]
    congr 1
  · obtain ⟨u, rfl⟩ : ∃ u : Nat, n = (u : Int) := ⟨n.toNat, by omega⟩
    rw [show Lib.itoa (u : Int) = Lib.decDigits u by unfold Lib.itoa; rw [if_neg hn]; simp]
    exact rdec_nat u u (Nat.le_refl _) (by omega) w

end Go.Proofs.YtapnodlmfapjlaaDoor
