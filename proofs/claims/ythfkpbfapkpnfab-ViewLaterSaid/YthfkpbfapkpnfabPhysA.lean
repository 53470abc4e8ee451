/- phys.Machine: Size, at, part, Read, Write. -/
import Derived.Test.YthfkpbfapkpnfabPhys
import Derived.Deep.OwnRows
namespace Go.Proofs.Ythfkpbfapkpnfab
open Go.RowKit

theorem size_made {B F : Nat} {S : List Fr} (w : World) (h : PhM w B F S) :
    Calls Try.prog 24 #[.pointer (some ⟨B, 0, none⟩)] w fun e w' => e = .returned (.int .i64 S.length) ∧ w = w' := by
  have h0 := h.made
  obtain ⟨c, _, h1⟩ := h.frames
  go_enter Try.func24, Try.ntmps24
  go_wp2_with (go_at_call 63; refine (none_made B _ h0).mono ?_; rintro e w' ⟨rfl, rfl⟩)
  go_ret
  exact ⟨rfl, rfl⟩

theorem size_none {p : Option Addr} (w : World) (h : NoM w p) :
    Calls Try.prog 24 #[.pointer p] w fun e w' => e = .returned (.int .i64 0) ∧ w = w' := by
  go_enter Try.func24, Try.ntmps24
  go_wp2_with (go_at_call 63; refine (none_none p _ h).mono ?_; rintro e w' ⟨rfl, rfl⟩)
  go_ret
  exact ⟨rfl, rfl⟩

theorem at_in {B F : Nat} {S : List Fr} (i : Int) (w : World) (h : PhM w B F S) (hi0 : 0 ≤ i) (hi1 : i < S.length) :
    Calls Try.prog 66 #[.pointer (some ⟨B, 0, none⟩), .int .i64 i] w fun e w' => e = .returned (.tuple #[.pointer (some ⟨F, i.toNat * 260, none⟩), .int .i64 0]) ∧ w = w' := by
  have h0 := h.made
  obtain ⟨c, _, h1⟩ := h.frames
  have d1 : decide (i < 0) = false := decide_eq_false (by omega)
  have d2 : decide ((S.length : Int) ≤ i) = false := decide_eq_false (by omega)
  go_enter Try.func66, Try.ntmps66
  go_wp2_with (go_at_call 63; refine (none_made B _ h0).mono ?_; rintro e w' ⟨rfl, rfl⟩)
  go_ret2
  exact ⟨rfl, rfl⟩

theorem at_out {B F : Nat} {S : List Fr} (i : Int) (w : World) (h : PhM w B F S) (hi : i < 0 ∨ (S.length : Int) ≤ i) :
    Calls Try.prog 66 #[.pointer (some ⟨B, 0, none⟩), .int .i64 i] w fun e w' => e = .returned (.tuple #[.pointer none, .int .i64 1]) ∧ w = w' := by
  have h0 := h.made
  obtain ⟨c, _, h1⟩ := h.frames
  by_cases hn : i < 0
  · have d1 : decide (i < 0) = true := decide_eq_true hn
    go_enter Try.func66, Try.ntmps66
    go_wp2_with (go_at_call 63; refine (none_made B _ h0).mono ?_; rintro e w' ⟨rfl, rfl⟩)
    go_ret2
    exact ⟨rfl, rfl⟩
  · have d1 : decide (i < 0) = false := decide_eq_false hn
    have d2 : decide ((S.length : Int) ≤ i) = true := decide_eq_true (by omega)
    go_enter Try.func66, Try.ntmps66
    go_wp2_with (go_at_call 63; refine (none_made B _ h0).mono ?_; rintro e w' ⟨rfl, rfl⟩)
    go_ret2
    exact ⟨rfl, rfl⟩

theorem at_none {p : Option Addr} (i : Int) (w : World) (h : NoM w p) :
    Calls Try.prog 66 #[.pointer p, .int .i64 i] w fun e w' => e = .returned (.tuple #[.pointer none, .int .i64 7]) ∧ w = w' := by
  go_enter Try.func66, Try.ntmps66
  go_wp2_with (go_at_call 63; refine (none_none p _ h).mono ?_; rintro e w' ⟨rfl, rfl⟩)
  go_ret2
  exact ⟨rfl, rfl⟩

/-- A part of a frame that there is. -/
def InP (S : List Fr) (i off n : Int) : Prop := (0 ≤ i ∧ i < S.length) ∧ 0 ≤ off ∧ 0 ≤ n ∧ off + n ≤ 256

theorem part_in {B F : Nat} {S : List Fr} (i off n : Int) (w : World) (h : PhM w B F S) (hp : InP S i off n) :
    Calls Try.prog 67 #[.pointer (some ⟨B, 0, none⟩), .int .i64 i, .int .i64 off, .int .i64 n] w fun e w' => e = .returned (.tuple #[.pointer (some ⟨F, i.toNat * 260, none⟩), .int .i64 0]) ∧ w = w' := by
  obtain ⟨⟨hi0, hi1⟩, ho, hn, hs⟩ := hp
  have d1 : decide (off < 0) = false := decide_eq_false (by omega)
  have d2 : decide (n < 0) = false := decide_eq_false (by omega)
  have d3 : decide (256 < off) = false := decide_eq_false (by omega)
  have d4 : decide (256 - off < n) = false := decide_eq_false (by omega)
  go_enter Try.func67, Try.ntmps67
  go_wp2_with (go_at_call 66; refine (at_in i _ h hi0 hi1).mono ?_; rintro e w' ⟨rfl, rfl⟩)
  go_ret2
  exact ⟨rfl, rfl⟩

theorem part_out {B F : Nat} {S : List Fr} (i off n : Int) (w : World) (h : PhM w B F S) (hp : ¬ InP S i off n) :
    Calls Try.prog 67 #[.pointer (some ⟨B, 0, none⟩), .int .i64 i, .int .i64 off, .int .i64 n] w fun e w' => (∃ p, e = .returned (.tuple #[.pointer p, .int .i64 1])) ∧ w = w' := by
  by_cases hi : i < 0 ∨ (S.length : Int) ≤ i
  · go_enter Try.func67, Try.ntmps67
    go_wp2_with (go_at_call 66; refine (at_out i _ h hi).mono ?_; rintro e w' ⟨rfl, rfl⟩)
    go_ret2
    exact ⟨⟨_, rfl⟩, rfl⟩
  have hi0 : 0 ≤ i := by omega
  have hi1 : i < S.length := by omega
  by_cases c1 : off < 0
  · have d1 : decide (off < 0) = true := decide_eq_true c1
    go_enter Try.func67, Try.ntmps67
    go_wp2_with (go_at_call 66; refine (at_in i _ h hi0 hi1).mono ?_; rintro e w' ⟨rfl, rfl⟩)
    go_ret2
    exact ⟨⟨_, rfl⟩, rfl⟩
  have d1 : decide (off < 0) = false := decide_eq_false c1
  by_cases c2 : n < 0
  · have d2 : decide (n < 0) = true := decide_eq_true c2
    go_enter Try.func67, Try.ntmps67
    go_wp2_with (go_at_call 66; refine (at_in i _ h hi0 hi1).mono ?_; rintro e w' ⟨rfl, rfl⟩)
    go_ret2
    exact ⟨⟨_, rfl⟩, rfl⟩
  have d2 : decide (n < 0) = false := decide_eq_false c2
  by_cases c3 : 256 < off
  · have d3 : decide (256 < off) = true := decide_eq_true c3
    go_enter Try.func67, Try.ntmps67
    go_wp2_with (go_at_call 66; refine (at_in i _ h hi0 hi1).mono ?_; rintro e w' ⟨rfl, rfl⟩)
    go_ret2
    exact ⟨⟨_, rfl⟩, rfl⟩
  have d3 : decide (256 < off) = false := decide_eq_false c3
  have d4 : decide (256 - off < n) = true := decide_eq_true (by unfold InP at hp; omega)
  go_enter Try.func67, Try.ntmps67
  go_wp2_with (go_at_call 66; refine (at_in i _ h hi0 hi1).mono ?_; rintro e w' ⟨rfl, rfl⟩)
  go_ret2
  exact ⟨⟨_, rfl⟩, rfl⟩

theorem part_none {p : Option Addr} (i off n : Int) (w : World) (h : NoM w p) :
    Calls Try.prog 67 #[.pointer p, .int .i64 i, .int .i64 off, .int .i64 n] w fun e w' => e = .returned (.tuple #[.pointer none, .int .i64 7]) ∧ w = w' := by
  go_enter Try.func67, Try.ntmps67
  go_wp2_with (go_at_call 66; refine (at_none i _ h).mono ?_; rintro e w' ⟨rfl, rfl⟩)
  go_ret2
  exact ⟨rfl, rfl⟩

end Go.Proofs.Ythfkpbfapkpnfab
