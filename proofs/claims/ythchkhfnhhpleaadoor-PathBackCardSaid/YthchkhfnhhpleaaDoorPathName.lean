/- path.may, path.Name; tenementref09.letter, tenementref09.Name: one answer. -/
import Derived.WalkKit
import Derived.Lib.Hide
import Derived.Lib.OthersKept
import Derived.Lib.DecodeN
import Derived.Test.YthchkhfnhhpleaaDoorProg
import Derived.Test.YthchkhfnhhpleaaDoorPathPure2
namespace Go.Proofs.YthchkhfnhhpleaaDoor
open Go.RowKit
set_option maxRecDepth 100000

def letR (n : Int) : Bool := decide ((97 ≤ n ∧ n ≤ 122) ∨ (65 ≤ n ∧ n ≤ 90) ∨ (48 ≤ n ∧ n ≤ 57) ∨ n = 45 ∨ n = 95 ∨ n = 46 ∨ n = 64)
theorem letR_N (n : Nat) : letR (n : Int) = letN n := by
  unfold letR letN
  exact decide_eq_decide.2 (by omega)

set_option maxHeartbeats 4000000 in
theorem may_any (c : Int) (w : World) : Calls Tryd.prog 30 #[.int .i32 c] w fun e w' => e = .returned (.bool (letR c)) ∧ w = w' := by
  have hcs : c ≤ 44 ∨ c = 45 ∨ c = 46 ∨ c = 47 ∨ (48 ≤ c ∧ c ≤ 57) ∨ (58 ≤ c ∧ c ≤ 63) ∨ c = 64 ∨ (65 ≤ c ∧ c ≤ 90) ∨ (91 ≤ c ∧ c ≤ 94) ∨ c = 95 ∨ c = 96 ∨ (97 ≤ c ∧ c ≤ 122) ∨ 123 ≤ c := by omega
  rcases hcs with h | rfl | rfl | rfl | h | h | rfl | h | h | rfl | rfl | h | h
  · have hl : letR c = false := decide_eq_false (by omega)
    rw [hl]
    have d0 : decide (97 ≤ c) = false := decide_eq_false (by omega)
    have d1 : decide (65 ≤ c) = false := decide_eq_false (by omega)
    have d2 : decide (48 ≤ c) = false := decide_eq_false (by omega)
    have d3 : decide (c ≤ 122) = true := decide_eq_true (by omega)
    have d4 : decide (c ≤ 90) = true := decide_eq_true (by omega)
    have d5 : decide (c ≤ 57) = true := decide_eq_true (by omega)
    have d6 : (c == 45) = false := beq_eq_false_iff_ne.2 (by omega)
    have d7 : (c == 95) = false := beq_eq_false_iff_ne.2 (by omega)
    have d8 : (c == 46) = false := beq_eq_false_iff_ne.2 (by omega)
    have d9 : (c == 64) = false := beq_eq_false_iff_ne.2 (by omega)
    clear h hl
    go_enter Tryd.func30, Tryd.ntmps30
    go_wp2
    go_ret
    exact ⟨rfl, rfl⟩
  · rw [show letR 45 = true from rfl]
    go_enter Tryd.func30, Tryd.ntmps30
    go_wp2
    go_ret
    exact ⟨rfl, rfl⟩
  · rw [show letR 46 = true from rfl]
    go_enter Tryd.func30, Tryd.ntmps30
    go_wp2
    go_ret
    exact ⟨rfl, rfl⟩
  · rw [show letR 47 = false from rfl]
    go_enter Tryd.func30, Tryd.ntmps30
    go_wp2
    go_ret
    exact ⟨rfl, rfl⟩
  · have hl : letR c = true := decide_eq_true (by omega)
    rw [hl]
    have d0 : decide (97 ≤ c) = false := decide_eq_false (by omega)
    have d1 : decide (65 ≤ c) = false := decide_eq_false (by omega)
    have d2 : decide (48 ≤ c) = true := decide_eq_true (by omega)
    have d3 : decide (c ≤ 122) = true := decide_eq_true (by omega)
    have d4 : decide (c ≤ 90) = true := decide_eq_true (by omega)
    have d5 : decide (c ≤ 57) = true := decide_eq_true (by omega)
    have d6 : (c == 45) = false := beq_eq_false_iff_ne.2 (by omega)
    have d7 : (c == 95) = false := beq_eq_false_iff_ne.2 (by omega)
    have d8 : (c == 46) = false := beq_eq_false_iff_ne.2 (by omega)
    have d9 : (c == 64) = false := beq_eq_false_iff_ne.2 (by omega)
    clear h hl
    go_enter Tryd.func30, Tryd.ntmps30
    go_wp2
    go_ret
    exact ⟨rfl, rfl⟩
  · have hl : letR c = false := decide_eq_false (by omega)
    rw [hl]
    have d0 : decide (97 ≤ c) = false := decide_eq_false (by omega)
    have d1 : decide (65 ≤ c) = false := decide_eq_false (by omega)
    have d2 : decide (48 ≤ c) = true := decide_eq_true (by omega)
    have d3 : decide (c ≤ 122) = true := decide_eq_true (by omega)
    have d4 : decide (c ≤ 90) = true := decide_eq_true (by omega)
    have d5 : decide (c ≤ 57) = false := decide_eq_false (by omega)
    have d6 : (c == 45) = false := beq_eq_false_iff_ne.2 (by omega)
    have d7 : (c == 95) = false := beq_eq_false_iff_ne.2 (by omega)
    have d8 : (c == 46) = false := beq_eq_false_iff_ne.2 (by omega)
    have d9 : (c == 64) = false := beq_eq_false_iff_ne.2 (by omega)
    clear h hl
    go_enter Tryd.func30, Tryd.ntmps30
    go_wp2
    go_ret
    exact ⟨rfl, rfl⟩
  · rw [show letR 64 = true from rfl]
    go_enter Tryd.func30, Tryd.ntmps30
    go_wp2
    go_ret
    exact ⟨rfl, rfl⟩
  · have hl : letR c = true := decide_eq_true (by omega)
    rw [hl]
    have d0 : decide (97 ≤ c) = false := decide_eq_false (by omega)
    have d1 : decide (65 ≤ c) = true := decide_eq_true (by omega)
    have d2 : decide (48 ≤ c) = true := decide_eq_true (by omega)
    have d3 : decide (c ≤ 122) = true := decide_eq_true (by omega)
    have d4 : decide (c ≤ 90) = true := decide_eq_true (by omega)
    have d5 : decide (c ≤ 57) = false := decide_eq_false (by omega)
    have d6 : (c == 45) = false := beq_eq_false_iff_ne.2 (by omega)
    have d7 : (c == 95) = false := beq_eq_false_iff_ne.2 (by omega)
    have d8 : (c == 46) = false := beq_eq_false_iff_ne.2 (by omega)
    have d9 : (c == 64) = false := beq_eq_false_iff_ne.2 (by omega)
    clear h hl
    go_enter Tryd.func30, Tryd.ntmps30
    go_wp2
    go_ret
    exact ⟨rfl, rfl⟩
  · have hl : letR c = false := decide_eq_false (by omega)
    rw [hl]
    have d0 : decide (97 ≤ c) = false := decide_eq_false (by omega)
    have d1 : decide (65 ≤ c) = true := decide_eq_true (by omega)
    have d2 : decide (48 ≤ c) = true := decide_eq_true (by omega)
    have d3 : decide (c ≤ 122) = true := decide_eq_true (by omega)
    have d4 : decide (c ≤ 90) = false := decide_eq_false (by omega)
    have d5 : decide (c ≤ 57) = false := decide_eq_false (by omega)
    have d6 : (c == 45) = false := beq_eq_false_iff_ne.2 (by omega)
    have d7 : (c == 95) = false := beq_eq_false_iff_ne.2 (by omega)
    have d8 : (c == 46) = false := beq_eq_false_iff_ne.2 (by omega)
    have d9 : (c == 64) = false := beq_eq_false_iff_ne.2 (by omega)
    clear h hl
    go_enter Tryd.func30, Tryd.ntmps30
    go_wp2
    go_ret
    exact ⟨rfl, rfl⟩
  · rw [show letR 95 = true from rfl]
    go_enter Tryd.func30, Tryd.ntmps30
    go_wp2
    go_ret
    exact ⟨rfl, rfl⟩
  · rw [show letR 96 = false from rfl]
    go_enter Tryd.func30, Tryd.ntmps30
    go_wp2
    go_ret
    exact ⟨rfl, rfl⟩
  · have hl : letR c = true := decide_eq_true (by omega)
    rw [hl]
    have d0 : decide (97 ≤ c) = true := decide_eq_true (by omega)
    have d1 : decide (65 ≤ c) = true := decide_eq_true (by omega)
    have d2 : decide (48 ≤ c) = true := decide_eq_true (by omega)
    have d3 : decide (c ≤ 122) = true := decide_eq_true (by omega)
    have d4 : decide (c ≤ 90) = false := decide_eq_false (by omega)
    have d5 : decide (c ≤ 57) = false := decide_eq_false (by omega)
    have d6 : (c == 45) = false := beq_eq_false_iff_ne.2 (by omega)
    have d7 : (c == 95) = false := beq_eq_false_iff_ne.2 (by omega)
    have d8 : (c == 46) = false := beq_eq_false_iff_ne.2 (by omega)
    have d9 : (c == 64) = false := beq_eq_false_iff_ne.2 (by omega)
    clear h hl
    go_enter Tryd.func30, Tryd.ntmps30
    go_wp2
    go_ret
    exact ⟨rfl, rfl⟩
  · have hl : letR c = false := decide_eq_false (by omega)
    rw [hl]
    have d0 : decide (97 ≤ c) = true := decide_eq_true (by omega)
    have d1 : decide (65 ≤ c) = true := decide_eq_true (by omega)
    have d2 : decide (48 ≤ c) = true := decide_eq_true (by omega)
    have d3 : decide (c ≤ 122) = false := decide_eq_false (by omega)
    have d4 : decide (c ≤ 90) = false := decide_eq_false (by omega)
    have d5 : decide (c ≤ 57) = false := decide_eq_false (by omega)
    have d6 : (c == 45) = false := beq_eq_false_iff_ne.2 (by omega)
    have d7 : (c == 95) = false := beq_eq_false_iff_ne.2 (by omega)
    have d8 : (c == 46) = false := beq_eq_false_iff_ne.2 (by omega)
    have d9 : (c == 64) = false := beq_eq_false_iff_ne.2 (by omega)
    clear h hl
    go_enter Tryd.func30, Tryd.ntmps30
    go_wp2
    go_ret
    exact ⟨rfl, rfl⟩

set_option maxHeartbeats 4000000 in
theorem letter_any (c : Int) (w : World) : Calls Tryd.prog 31 #[.int .u8 c] w fun e w' => e = .returned (.bool (letR c)) ∧ w = w' := by
  have hcs : c ≤ 44 ∨ c = 45 ∨ c = 46 ∨ c = 47 ∨ (48 ≤ c ∧ c ≤ 57) ∨ (58 ≤ c ∧ c ≤ 63) ∨ c = 64 ∨ (65 ≤ c ∧ c ≤ 90) ∨ (91 ≤ c ∧ c ≤ 94) ∨ c = 95 ∨ c = 96 ∨ (97 ≤ c ∧ c ≤ 122) ∨ 123 ≤ c := by omega
  rcases hcs with h | rfl | rfl | rfl | h | h | rfl | h | h | rfl | rfl | h | h
  · have hl : letR c = false := decide_eq_false (by omega)
    rw [hl]
    have d0 : decide (97 ≤ c) = false := decide_eq_false (by omega)
    have d1 : decide (65 ≤ c) = false := decide_eq_false (by omega)
    have d2 : decide (48 ≤ c) = false := decide_eq_false (by omega)
    have d3 : decide (c ≤ 122) = true := decide_eq_true (by omega)
    have d4 : decide (c ≤ 90) = true := decide_eq_true (by omega)
    have d5 : decide (c ≤ 57) = true := decide_eq_true (by omega)
    have d6 : (c == 45) = false := beq_eq_false_iff_ne.2 (by omega)
    have d7 : (c == 95) = false := beq_eq_false_iff_ne.2 (by omega)
    have d8 : (c == 46) = false := beq_eq_false_iff_ne.2 (by omega)
    have d9 : (c == 64) = false := beq_eq_false_iff_ne.2 (by omega)
    clear h hl
    go_enter Tryd.func31, Tryd.ntmps31
    go_wp2
    go_ret
    exact ⟨rfl, rfl⟩
  · rw [show letR 45 = true from rfl]
    go_enter Tryd.func31, Tryd.ntmps31
    go_wp2
    go_ret
    exact ⟨rfl, rfl⟩
  · rw [show letR 46 = true from rfl]
    go_enter Tryd.func31, Tryd.ntmps31
    go_wp2
    go_ret
    exact ⟨rfl, rfl⟩
  · rw [show letR 47 = false from rfl]
    go_enter Tryd.func31, Tryd.ntmps31
    go_wp2
    go_ret
    exact ⟨rfl, rfl⟩
  · have hl : letR c = true := decide_eq_true (by omega)
    rw [hl]
    have d0 : decide (97 ≤ c) = false := decide_eq_false (by omega)
    have d1 : decide (65 ≤ c) = false := decide_eq_false (by omega)
    have d2 : decide (48 ≤ c) = true := decide_eq_true (by omega)
    have d3 : decide (c ≤ 122) = true := decide_eq_true (by omega)
    have d4 : decide (c ≤ 90) = true := decide_eq_true (by omega)
    have d5 : decide (c ≤ 57) = true := decide_eq_true (by omega)
    have d6 : (c == 45) = false := beq_eq_false_iff_ne.2 (by omega)
    have d7 : (c == 95) = false := beq_eq_false_iff_ne.2 (by omega)
    have d8 : (c == 46) = false := beq_eq_false_iff_ne.2 (by omega)
    have d9 : (c == 64) = false := beq_eq_false_iff_ne.2 (by omega)
    clear h hl
    go_enter Tryd.func31, Tryd.ntmps31
    go_wp2
    go_ret
    exact ⟨rfl, rfl⟩
  · have hl : letR c = false := decide_eq_false (by omega)
    rw [hl]
    have d0 : decide (97 ≤ c) = false := decide_eq_false (by omega)
    have d1 : decide (65 ≤ c) = false := decide_eq_false (by omega)
    have d2 : decide (48 ≤ c) = true := decide_eq_true (by omega)
    have d3 : decide (c ≤ 122) = true := decide_eq_true (by omega)
    have d4 : decide (c ≤ 90) = true := decide_eq_true (by omega)
    have d5 : decide (c ≤ 57) = false := decide_eq_false (by omega)
    have d6 : (c == 45) = false := beq_eq_false_iff_ne.2 (by omega)
    have d7 : (c == 95) = false := beq_eq_false_iff_ne.2 (by omega)
    have d8 : (c == 46) = false := beq_eq_false_iff_ne.2 (by omega)
    have d9 : (c == 64) = false := beq_eq_false_iff_ne.2 (by omega)
    clear h hl
    go_enter Tryd.func31, Tryd.ntmps31
    go_wp2
    go_ret
    exact ⟨rfl, rfl⟩
  · rw [show letR 64 = true from rfl]
    go_enter Tryd.func31, Tryd.ntmps31
    go_wp2
    go_ret
    exact ⟨rfl, rfl⟩
  · have hl : letR c = true := decide_eq_true (by omega)
    rw [hl]
    have d0 : decide (97 ≤ c) = false := decide_eq_false (by omega)
    have d1 : decide (65 ≤ c) = true := decide_eq_true (by omega)
    have d2 : decide (48 ≤ c) = true := decide_eq_true (by omega)
    have d3 : decide (c ≤ 122) = true := decide_eq_true (by omega)
    have d4 : decide (c ≤ 90) = true := decide_eq_true (by omega)
    have d5 : decide (c ≤ 57) = false := decide_eq_false (by omega)
    have d6 : (c == 45) = false := beq_eq_false_iff_ne.2 (by omega)
    have d7 : (c == 95) = false := beq_eq_false_iff_ne.2 (by omega)
    have d8 : (c == 46) = false := beq_eq_false_iff_ne.2 (by omega)
    have d9 : (c == 64) = false := beq_eq_false_iff_ne.2 (by omega)
    clear h hl
    go_enter Tryd.func31, Tryd.ntmps31
    go_wp2
    go_ret
    exact ⟨rfl, rfl⟩
  · have hl : letR c = false := decide_eq_false (by omega)
    rw [hl]
    have d0 : decide (97 ≤ c) = false := decide_eq_false (by omega)
    have d1 : decide (65 ≤ c) = true := decide_eq_true (by omega)
    have d2 : decide (48 ≤ c) = true := decide_eq_true (by omega)
    have d3 : decide (c ≤ 122) = true := decide_eq_true (by omega)
    have d4 : decide (c ≤ 90) = false := decide_eq_false (by omega)
    have d5 : decide (c ≤ 57) = false := decide_eq_false (by omega)
    have d6 : (c == 45) = false := beq_eq_false_iff_ne.2 (by omega)
    have d7 : (c == 95) = false := beq_eq_false_iff_ne.2 (by omega)
    have d8 : (c == 46) = false := beq_eq_false_iff_ne.2 (by omega)
    have d9 : (c == 64) = false := beq_eq_false_iff_ne.2 (by omega)
    clear h hl
    go_enter Tryd.func31, Tryd.ntmps31
    go_wp2
    go_ret
    exact ⟨rfl, rfl⟩
  · rw [show letR 95 = true from rfl]
    go_enter Tryd.func31, Tryd.ntmps31
    go_wp2
    go_ret
    exact ⟨rfl, rfl⟩
  · rw [show letR 96 = false from rfl]
    go_enter Tryd.func31, Tryd.ntmps31
    go_wp2
    go_ret
    exact ⟨rfl, rfl⟩
  · have hl : letR c = true := decide_eq_true (by omega)
    rw [hl]
    have d0 : decide (97 ≤ c) = true := decide_eq_true (by omega)
    have d1 : decide (65 ≤ c) = true := decide_eq_true (by omega)
    have d2 : decide (48 ≤ c) = true := decide_eq_true (by omega)
    have d3 : decide (c ≤ 122) = true := decide_eq_true (by omega)
    have d4 : decide (c ≤ 90) = false := decide_eq_false (by omega)
    have d5 : decide (c ≤ 57) = false := decide_eq_false (by omega)
    have d6 : (c == 45) = false := beq_eq_false_iff_ne.2 (by omega)
    have d7 : (c == 95) = false := beq_eq_false_iff_ne.2 (by omega)
    have d8 : (c == 46) = false := beq_eq_false_iff_ne.2 (by omega)
    have d9 : (c == 64) = false := beq_eq_false_iff_ne.2 (by omega)
    clear h hl
    go_enter Tryd.func31, Tryd.ntmps31
    go_wp2
    go_ret
    exact ⟨rfl, rfl⟩
  · have hl : letR c = false := decide_eq_false (by omega)
    rw [hl]
    have d0 : decide (97 ≤ c) = true := decide_eq_true (by omega)
    have d1 : decide (65 ≤ c) = true := decide_eq_true (by omega)
    have d2 : decide (48 ≤ c) = true := decide_eq_true (by omega)
    have d3 : decide (c ≤ 122) = false := decide_eq_false (by omega)
    have d4 : decide (c ≤ 90) = false := decide_eq_false (by omega)
    have d5 : decide (c ≤ 57) = false := decide_eq_false (by omega)
    have d6 : (c == 45) = false := beq_eq_false_iff_ne.2 (by omega)
    have d7 : (c == 95) = false := beq_eq_false_iff_ne.2 (by omega)
    have d8 : (c == 46) = false := beq_eq_false_iff_ne.2 (by omega)
    have d9 : (c == 64) = false := beq_eq_false_iff_ne.2 (by omega)
    clear h hl
    go_enter Tryd.func31, Tryd.ntmps31
    go_wp2
    go_ret
    exact ⟨rfl, rfl⟩

end Go.Proofs.YthchkhfnhhpleaaDoor
