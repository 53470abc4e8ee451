/- tenementref04.Pack: what it answers, for every entry. -/
import Derived.Test.YthfkpbfapkpnfaaProg
import Derived.WalkKit
import Derived.OpenShut
namespace Go.Proofs.Ythfkpbfapkpnfaa.RefPack
open Go.RowKit

def packR (p w : Bool) (n : Int) : Int × Int :=
  if n < 0 then (0, 1) else if n ≥ 16777216 then (0, 1) else
  if p then (n * 256 + 1 + (if w then 2 else 0), 0) else if w then (0, 1) else if n = 0 then (0, 0) else (0, 1)

set_option maxHeartbeats 400000 in
theorem pack_neg (p b : Bool) (n : Int) (w : World) (h : n < 0) :
    Calls Try.prog 18 #[.agg #[.bool p, .bool b, .int .i64 n]] w fun e w' => e = .returned (.tuple #[.int .u32 0, .int .i64 1]) ∧ Below w.heap.size w w' := by
  have hd : decide (n < 0) = true := decide_eq_true h
  go_enter Try.func18, Try.ntmps18
  go_wp2
  go_ret2
  exact ⟨rfl, (Below.refl _ _).alloc (Nat.le_refl _) _⟩

set_option maxHeartbeats 400000 in
theorem pack_big (p b : Bool) (n : Int) (w : World) (h : 16777216 ≤ n) :
    Calls Try.prog 18 #[.agg #[.bool p, .bool b, .int .i64 n]] w fun e w' => e = .returned (.tuple #[.int .u32 0, .int .i64 1]) ∧ Below w.heap.size w w' := by
  have hd : decide (n < 0) = false := decide_eq_false (by omega)
  have hd2 : decide (16777216 ≤ n) = true := decide_eq_true h
  go_enter Try.func18, Try.ntmps18
  go_wp2
  go_ret2
  exact ⟨rfl, (Below.refl _ _).alloc (Nat.le_refl _) _⟩

set_option maxHeartbeats 400000 in
theorem pack_in (p b : Bool) (n : Int) (w : World) (h0 : 0 ≤ n) (h1 : n < 16777216) :
    Calls Try.prog 18 #[.agg #[.bool p, .bool b, .int .i64 n]] w fun e w' => e = .returned (.tuple #[.int .u32 (packR p b n).1, .int .i64 (packR p b n).2]) ∧ Below w.heap.size w w' := by
  have hd : decide (n < 0) = false := decide_eq_false (by omega)
  have hd2 : decide (16777216 ≤ n) = false := decide_eq_false (by omega)
  cases p <;> cases b
  · by_cases hz : n = 0
    · subst hz
      go_enter Try.func18, Try.ntmps18
      go_wp2
      go_ret2
      exact ⟨rfl, (Below.refl _ _).alloc (Nat.le_refl _) _⟩
    · have hz' : (n != 0) = true := bne_iff_ne.2 hz
      go_enter Try.func18, Try.ntmps18
      go_wp2
      go_ret2
      exact ⟨by simp [packR, hz], (Below.refl _ _).alloc (Nat.le_refl _) _⟩
  · go_enter Try.func18, Try.ntmps18
    go_wp2
    go_ret2
    exact ⟨by simp [packR], (Below.refl _ _).alloc (Nat.le_refl _) _⟩
  · go_enter Try.func18, Try.ntmps18
    go_wp2
    go_ret2
    exact ⟨by simp [packR, show ¬ n < 0 by omega, show ¬ 16777216 ≤ n by omega]; try omega, (Below.refl _ _).alloc (Nat.le_refl _) _⟩
  · go_enter Try.func18, Try.ntmps18
    go_wp2
    go_ret2
    exact ⟨by simp [packR, show ¬ n < 0 by omega, show ¬ 16777216 ≤ n by omega]; try omega, (Below.refl _ _).alloc (Nat.le_refl _) _⟩

theorem ref_pack (p b : Bool) (n : Int) (w : World) :
    Calls Try.prog 18 #[.agg #[.bool p, .bool b, .int .i64 n]] w fun e w' => e = .returned (.tuple #[.int .u32 (packR p b n).1, .int .i64 (packR p b n).2]) ∧ Below w.heap.size w w' := by
  by_cases h : n < 0
  · simpa [packR, h] using pack_neg p b n w h
  by_cases h2 : n ≥ 16777216
  · have := pack_big p b n w h2
    simpa [packR, h, h2] using this
  · exact pack_in p b n w (by omega) (by omega)
end Go.Proofs.Ythfkpbfapkpnfaa.RefPack
