/- Entries and addresses: the code's and the document's. -/
import Derived.Test.YtlaamkojkpamaaaPtePure
import Derived.Test.YtlaamkojkpamaaaBitFacts
import Derived.WalkKit
namespace Go.Proofs.Ytlaamkojkpamaaa
open Go.RowKit
set_option maxRecDepth 100000

def Ent.val (e : Ent) : Value := .agg #[.bool e.present, .bool e.write, .int .i64 e.mfn]

theorem unpack_any (n : Int) (w : World) (h0 : 0 ≤ n) (h1 : n ≤ 4294967295) :
    Calls Try.prog 99 #[.int .u32 n] w fun e w' => e = .returned (.tuple #[(unpackR n).1.val, .int .i64 (unpackR n).2]) ∧ Mod No w w' := by
  have a1 := BitFacts.and1 n h0 h1
  have a2 := BitFacts.and2 n h0 h1
  have a3 := BitFacts.and252 n h0 h1
  by_cases c1 : n % 2 = 0
  · have d1 : (n % 2 == 0) = true := beq_iff_eq.2 c1
    have e : unpackR n = (noEnt, 0) := by unfold unpackR; rw [if_pos c1]
    rw [e]
    clear a2 a3 e c1
    go_enter Try.func99, Try.ntmps99
    go_wp2
    refine bodyPost_ret (v := .tuple #[noEnt.val, .int .i64 0]) (by simp [results, Try.results99, go_sem, Ent.val, noEnt]) rfl ⟨rfl, ?_⟩
    exact (Mod.refl No w).alloc _
  · have d1 : (n % 2 == 0) = false := beq_eq_false_iff_ne.2 c1
    by_cases c2 : 3 < n % 256
    · have d2 : (Go.bits .and .u32 n 252 != 0) = true := by rw [bne_iff_ne]; intro q; have := a3.1 q; omega
      have e : unpackR n = (noEnt, 4) := by unfold unpackR; rw [if_neg c1, if_pos c2]
      rw [e]
      clear a2 a3 e c1
      go_enter Try.func99, Try.ntmps99
      go_wp2
      refine bodyPost_ret (v := .tuple #[noEnt.val, .int .i64 4]) (by simp [results, Try.results99, go_sem, Ent.val, noEnt]) rfl ⟨rfl, ?_⟩
      exact (Mod.refl No w).alloc _
    · have d2 : (Go.bits .and .u32 n 252 != 0) = false := by rw [bne_eq_false_iff_eq]; exact a3.2 (by omega)
      have e : unpackR n = (⟨true, n % 4 == 3, n / 256⟩, 0) := by unfold unpackR; rw [if_neg c1, if_neg c2]
      have b2 : (n / 2 % 2 * 2 != 0) = (n % 4 == 3) := by rw [Bool.eq_iff_iff, bne_iff_ne, beq_iff_eq]; omega
      rw [e]
      have HB := Lib.hid b2
      clear a3 e c1 b2
      go_enter Try.func99, Try.ntmps99
      go_wp2
      refine bodyPost_ret (v := .tuple #[.agg #[.bool true, .bool (n / 2 % 2 * 2 != 0), .int .i64 (n / 256)], .int .i64 0]) (by simp [results, Try.results99, go_sem]) rfl ⟨by rw [HB.out]; rfl, ?_⟩
      exact (Mod.refl No w).alloc _

theorem runpack_any (n : Int) (w : World) (h0 : 0 ≤ n) (h1 : n ≤ 4294967295) :
    Calls Try.prog 100 #[.int .u32 n] w fun e w' => e = .returned (.tuple #[(unpackR n).1.val, .int .i64 (unpackR n).2]) ∧ Mod No w w' := by
  by_cases c1 : n % 2 = 0
  · have d1 : (n % 2 == 0) = true := beq_iff_eq.2 c1
    have e : unpackR n = (noEnt, 0) := by unfold unpackR; rw [if_pos c1]
    rw [e]
    clear e c1
    go_enter Try.func100, Try.ntmps100
    go_wp2
    refine bodyPost_ret (v := .tuple #[noEnt.val, .int .i64 0]) (by simp [results, Try.results100, go_sem, Ent.val, noEnt]) rfl ⟨rfl, ?_⟩
    exact (Mod.refl No w).alloc _
  · have d1 : (n % 2 == 0) = false := beq_eq_false_iff_ne.2 c1
    by_cases c2 : 3 < n % 256
    · have d2 : decide (3 < n % 256) = true := decide_eq_true c2
      have e : unpackR n = (noEnt, 4) := by unfold unpackR; rw [if_neg c1, if_pos c2]
      rw [e]
      clear e c1
      go_enter Try.func100, Try.ntmps100
      go_wp2
      refine bodyPost_ret (v := .tuple #[noEnt.val, .int .i64 4]) (by simp [results, Try.results100, go_sem, Ent.val, noEnt]) rfl ⟨rfl, ?_⟩
      exact (Mod.refl No w).alloc _
    · have d2 : decide (3 < n % 256) = false := decide_eq_false c2
      have e : unpackR n = (⟨true, n % 4 == 3, n / 256⟩, 0) := by unfold unpackR; rw [if_neg c1, if_neg c2]
      rw [e]
      clear e c1
      go_enter Try.func100, Try.ntmps100
      go_wp2
      refine bodyPost_ret (v := .tuple #[.agg #[.bool true, .bool (n % 4 == 3), .int .i64 (n / 256)], .int .i64 0]) (by simp [results, Try.results100, go_sem]) rfl ⟨rfl, ?_⟩
      exact (Mod.refl No w).alloc _

theorem split_yes (n : Int) (w : World) (h0 : 0 ≤ n) (h1 : n < 1048576) :
    Calls Try.prog 73 #[.int .u32 n] w fun e w' => e = .returned (.tuple #[.int .i64 (n / 16384), .int .i64 (n / 256 % 64), .int .i64 (n % 256), .int .i64 0]) ∧ w = w' := by
  have a1 := BitFacts.and63 (n / 256) (by omega) (by omega)
  have a2 := BitFacts.and255 n h0 (by omega)
  have d1 : (n / 1048576 != 0) = false := by rw [bne_eq_false_iff_eq]; omega
  go_enter Try.func73, Try.ntmps73
  go_wp2
  exact bodyPost_ret (v := .tuple #[.int .i64 (n / 16384), .int .i64 (n / 256 % 64), .int .i64 (n % 256), .int .i64 0]) (by simp [results, Try.results73, go_sem]) rfl ⟨rfl, rfl⟩
theorem split_no (n : Int) (w : World) (h0 : 1048576 ≤ n) (h1 : n ≤ 4294967295) :
    Calls Try.prog 73 #[.int .u32 n] w fun e w' => e = .returned (.tuple #[.int .i64 0, .int .i64 0, .int .i64 0, .int .i64 1]) ∧ w = w' := by
  have d1 : (n / 1048576 != 0) = true := by rw [bne_iff_ne]; omega
  go_enter Try.func73, Try.ntmps73
  go_wp2
  exact bodyPost_ret (v := .tuple #[.int .i64 0, .int .i64 0, .int .i64 0, .int .i64 1]) (by simp [results, Try.results73, go_sem]) rfl ⟨rfl, rfl⟩
theorem rsplit_yes (n : Int) (w : World) (h0 : 0 ≤ n) (h1 : n < 1048576) :
    Calls Try.prog 75 #[.int .u32 n] w fun e w' => e = .returned (.tuple #[.int .i64 (n / 16384), .int .i64 (n / 256 % 64), .int .i64 (n % 256), .int .i64 0]) ∧ w = w' := by
  have d1 : decide (1048576 ≤ n) = false := decide_eq_false (by omega)
  go_enter Try.func75, Try.ntmps75
  go_wp2
  exact bodyPost_ret (v := .tuple #[.int .i64 (n / 16384), .int .i64 (n / 256 % 64), .int .i64 (n % 256), .int .i64 0]) (by simp [results, Try.results75, go_sem]) rfl ⟨rfl, rfl⟩
theorem rsplit_no (n : Int) (w : World) (h0 : 1048576 ≤ n) :
    Calls Try.prog 75 #[.int .u32 n] w fun e w' => e = .returned (.tuple #[.int .i64 0, .int .i64 0, .int .i64 0, .int .i64 1]) ∧ w = w' := by
  have d1 : decide (1048576 ≤ n) = true := decide_eq_true h0
  go_enter Try.func75, Try.ntmps75
  go_wp2
  exact bodyPost_ret (v := .tuple #[.int .i64 0, .int .i64 0, .int .i64 0, .int .i64 1]) (by simp [results, Try.results75, go_sem]) rfl ⟨rfl, rfl⟩

end Go.Proofs.Ytlaamkojkpamaaa
