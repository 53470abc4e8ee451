/- tenementref19.Step: one instruction, as one plain function. -/
import Derived.Test.YtlbebneblmgdcaaGreatDoorRef19StepCa
import Derived.Test.YtlbebneblmgdcaaGreatDoorRef19StepCb
import Derived.Test.YtlbebneblmgdcaaGreatDoorRef19StepCc
import Derived.Test.YtlbebneblmgdcaaGreatDoorRef19StepCd
import Derived.Test.YtlbebneblmgdcaaGreatDoorRef19StepCe
import Derived.Test.YtlbebneblmgdcaaGreatDoorRef19StepCf
namespace Go.Proofs.YtlbebneblmgdcaaGreatDoor
open Go.RowKit
set_option maxRecDepth 100000

theorem rstep_any {K : RfK} {S : List Fr} (root r0 r1 r2 r3 r4 r5 r6 r7 r8 : Int) (w : World) (hm : RfM w K S) (h8 : 0 ≤ r8 ∧ r8 ≤ 4294967295) (hreg : ∀ x ∈ [r0, r1, r2, r3, r4, r5, r6, r7], 0 ≤ x ∧ x ≤ 4294967295) :
    Calls Tryz.prog 16 #[.pointer (some ⟨K.R, 0, none⟩), .int .i64 root, .agg #[.int .u32 r0, .int .u32 r1, .int .u32 r2, .int .u32 r3, .int .u32 r4, .int .u32 r5, .int .u32 r6, .int .u32 r7, .int .u32 r8]] w (RStepPost K (stepR S root [r0, r1, r2, r3, r4, r5, r6, r7] r8) w) := by
  unfold stepR
  by_cases he : (fetchR S root r8 4).1 = 0
  · rw [if_neg (fun q => q he)]
    obtain ⟨o, a, b, c, hbs⟩ := four_of (fetchR_len he)
    have hr := fetchR_range (root := root) (va := r8) (n := 4) hm.ok
    rw [hbs] at hr
    have ho := hr o (by simp)
    have ha := hr a (by simp)
    have hb := hr b (by simp)
    have hc := hr c (by simp)
    rw [hbs]
    simp only [List.getD_cons_zero, List.getD_cons_succ]
    unfold workR
    by_cases h20 : 20 < o
    · rw [if_pos h20]
      exact rstep_2 root r0 r1 r2 r3 r4 r5 r6 r7 r8 w hm h8 o a b c he hbs ⟨h20, ho.2⟩
    · rw [if_neg h20]
      obtain ⟨o, rfl⟩ : ∃ n : Nat, o = n := ⟨o.toNat, by omega⟩
      by_cases hbad : (1 ≤ namedR o ∧ 7 < a) ∨ (2 ≤ namedR o ∧ 7 < b) ∨ (3 ≤ namedR o ∧ 7 < c)
      · rw [if_pos hbad]
        exact rstep_3 root r0 r1 r2 r3 r4 r5 r6 r7 r8 w hm h8 o a b c he hbs (by omega) hbad
      · rw [if_neg hbad]
        obtain ⟨a, rfl⟩ : ∃ n : Nat, a = n := ⟨a.toNat, by omega⟩
        obtain ⟨b, rfl⟩ : ∃ n : Nat, b = n := ⟨b.toNat, by omega⟩
        obtain ⟨c, rfl⟩ : ∃ n : Nat, c = n := ⟨c.toNat, by omega⟩
        have ho : o ≤ 20 := by omega
        have ha : a ≤ 255 := by omega
        have hb : b ≤ 255 := by omega
        have hc : c ≤ 255 := by omega
        rcases (show o ≤ 3 ∨ (4 ≤ o ∧ o ≤ 12) ∨ (o = 13 ∨ o = 14) ∨ (o = 15 ∨ o = 16) ∨ (o = 17 ∨ o = 18) ∨ (o = 19 ∨ o = 20) by omega) with q | q | q | q | q | q
        · exact rstep_4a root r0 r1 r2 r3 r4 r5 r6 r7 r8 w hm h8 o a b c he hbs ho ha hb hc hreg hbad q
        · exact rstep_4b root r0 r1 r2 r3 r4 r5 r6 r7 r8 w hm h8 o a b c he hbs ho ha hb hc hreg hbad q
        · exact rstep_4c root r0 r1 r2 r3 r4 r5 r6 r7 r8 w hm h8 o a b c he hbs ho ha hb hc hreg hbad q
        · exact rstep_4d root r0 r1 r2 r3 r4 r5 r6 r7 r8 w hm h8 o a b c he hbs ho ha hb hc hreg hbad q
        · exact rstep_4e root r0 r1 r2 r3 r4 r5 r6 r7 r8 w hm h8 o a b c he hbs ho ha hb hc hreg hbad q
        · exact rstep_4f root r0 r1 r2 r3 r4 r5 r6 r7 r8 w hm h8 o a b c he hbs ho ha hb hc hreg hbad q
  · rw [if_pos he]
    exact rstep_1 root r0 r1 r2 r3 r4 r5 r6 r7 r8 w hm h8 he

end Go.Proofs.YtlbebneblmgdcaaGreatDoor
