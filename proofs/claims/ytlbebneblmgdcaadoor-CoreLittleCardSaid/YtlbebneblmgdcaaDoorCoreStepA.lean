/- core.Step: one instruction, as one plain function. -/
import Derived.Test.YtlbebneblmgdcaaDoorCoreStep4
namespace Go.Proofs.YtlbebneblmgdcaaDoor
open Go.RowKit
set_option maxRecDepth 100000

theorem four_of {l : List Int} (h : (l.length : Int) = 4) : ∃ o a b c, l = [o, a, b, c] := by
  match l, h with
  | [o, a, b, c], _ => exact ⟨o, a, b, c, rfl⟩
  | [], h => simp at h
  | [_], h => simp at h
  | [_, _], h => simp at h
  | [_, _, _], h => simp at h
  | _ :: _ :: _ :: _ :: _ :: l, h => simp only [List.length_cons] at h; omega

theorem step_any {B F : Nat} {S : List Fr} (root r0 r1 r2 r3 r4 r5 r6 r7 r8 : Int) (w : World) (hm : PhM w B F S) (h8 : 0 ≤ r8 ∧ r8 ≤ 4294967295) (hreg : ∀ x ∈ [r0, r1, r2, r3, r4, r5, r6, r7], 0 ≤ x ∧ x ≤ 4294967295) :
    Calls Tryd.prog 6 #[.pointer (some ⟨B, 0, none⟩), .int .i64 root, .agg #[.int .u32 r0, .int .u32 r1, .int .u32 r2, .int .u32 r3, .int .u32 r4, .int .u32 r5, .int .u32 r6, .int .u32 r7, .int .u32 r8]] w (StepPost B F (stepR S root [r0, r1, r2, r3, r4, r5, r6, r7] r8) w) := by
  unfold stepR
  by_cases he : (fetchR S root r8 4).1 = 0
  · rw [if_neg (fun q => q he)]
    obtain ⟨o, a, b, c, hbs⟩ := four_of (fetchR_len he)
    have hr := fetchR_range (root := root) (va := r8) (n := 4) hm.ok
    rw [hbs] at hr
    have ho := hr o (by simp)
    have ha := hr a (by simp)
    have hb := hr b (by simp)
    have hc := hr c (by simp)
    rw [hbs]
    simp only [List.getD_cons_zero, List.getD_cons_succ]
    unfold workR
    by_cases h20 : 20 < o
    · rw [if_pos h20]
      exact step_2 root r0 r1 r2 r3 r4 r5 r6 r7 r8 w hm h8 o a b c he hbs ⟨h20, ho.2⟩
    · rw [if_neg h20]
      obtain ⟨o, rfl⟩ : ∃ n : Nat, o = n := ⟨o.toNat, by omega⟩
      by_cases hbad : (1 ≤ namedR o ∧ 7 < a) ∨ (2 ≤ namedR o ∧ 7 < b) ∨ (3 ≤ namedR o ∧ 7 < c)
      · rw [if_pos hbad]
        exact step_3 root r0 r1 r2 r3 r4 r5 r6 r7 r8 w hm h8 o a b c he hbs (by omega) hbad
      · rw [if_neg hbad]
        exact step_4 root r0 r1 r2 r3 r4 r5 r6 r7 r8 w hm h8 o a b c he hbs (by omega) ha hb hc hreg hbad
  · rw [if_pos he]
    exact step_1 root r0 r1 r2 r3 r4 r5 r6 r7 r8 w hm h8 he

end Go.Proofs.YtlbebneblmgdcaaDoor
