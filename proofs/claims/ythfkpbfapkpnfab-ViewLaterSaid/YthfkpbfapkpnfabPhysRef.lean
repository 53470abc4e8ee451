/- phys.Machine: kinds, Get, Put, rest, Free, Give. -/
import Derived.Test.YthfkpbfapkpnfabPhysRW
import Derived.Deep.QuietTactic
import Derived.BigQuiet
namespace Go.Proofs.Ythfkpbfapkpnfab
open Go.RowKit
set_option maxRecDepth 100000

theorem kinds_in {B F : Nat} {S : List Fr} (i k : Int) (w : World) (h : PhM w B F S) (hi0 : 0 ≤ i) (hi1 : i < S.length) (hk0 : 0 ≤ k) (hk1 : k ≤ 3) :
    Calls Try.prog 69 #[.pointer (some ⟨B, 0, none⟩), .int .i64 i, .int .i64 k] w fun e w' => e = .returned (.tuple #[.pointer (some ⟨F, i.toNat * 260, none⟩), .int .i64 0]) ∧ w = w' := by
  have d1 : decide (k < 0) = false := decide_eq_false (by omega)
  have d2 : decide (3 < k) = false := decide_eq_false (by omega)
  go_enter Try.func69, Try.ntmps69
  go_wp2_with (go_at_call 66; refine (at_in i _ h hi0 hi1).mono ?_; rintro e w' ⟨rfl, rfl⟩)
  go_ret2
  exact ⟨rfl, rfl⟩

theorem kinds_out {B F : Nat} {S : List Fr} (i k : Int) (w : World) (h : PhM w B F S) (hi : (i < 0 ∨ (S.length : Int) ≤ i) ∨ k < 0 ∨ 3 < k) :
    Calls Try.prog 69 #[.pointer (some ⟨B, 0, none⟩), .int .i64 i, .int .i64 k] w fun e w' => (∃ p, e = .returned (.tuple #[.pointer p, .int .i64 1])) ∧ w = w' := by
  by_cases hn : i < 0 ∨ (S.length : Int) ≤ i
  · go_enter Try.func69, Try.ntmps69
    go_wp2_with (go_at_call 66; refine (at_out i _ h hn).mono ?_; rintro e w' ⟨rfl, rfl⟩)
    go_ret2
    exact ⟨⟨_, rfl⟩, rfl⟩
  have hi0 : 0 ≤ i := by omega
  have hi1 : i < S.length := by omega
  by_cases c1 : k < 0
  · have d1 : decide (k < 0) = true := decide_eq_true c1
    go_enter Try.func69, Try.ntmps69
    go_wp2_with (go_at_call 66; refine (at_in i _ h hi0 hi1).mono ?_; rintro e w' ⟨rfl, rfl⟩)
    go_ret2
    exact ⟨⟨_, rfl⟩, rfl⟩
  · have d1 : decide (k < 0) = false := decide_eq_false c1
    have d2 : decide (3 < k) = true := decide_eq_true (by omega)
    go_enter Try.func69, Try.ntmps69
    go_wp2_with (go_at_call 66; refine (at_in i _ h hi0 hi1).mono ?_; rintro e w' ⟨rfl, rfl⟩)
    go_ret2
    exact ⟨⟨_, rfl⟩, rfl⟩

theorem kinds_none {p : Option Addr} (i k : Int) (w : World) (h : NoM w p) :
    Calls Try.prog 69 #[.pointer p, .int .i64 i, .int .i64 k] w fun e w' => e = .returned (.tuple #[.pointer none, .int .i64 7]) ∧ w = w' := by
  go_enter Try.func69, Try.ntmps69
  go_wp2_with (go_at_call 66; refine (at_none i _ h).mono ?_; rintro e w' ⟨rfl, rfl⟩)
  go_ret2
  exact ⟨rfl, rfl⟩

/-- Why a frame must stay as it is. -/
def Fr.rest (f : Fr) : Int := if f.owner = -1 then 11 else if f.total = 0 then 0 else 9

theorem rest_any {F k : Nat} (f : Fr) (w : World) (c0 : w.cell? ⟨F, k, none⟩ = some (.int .i64 f.owner)) (c3 : w.cell? ⟨F, k + 3, none⟩ = some (.int .i64 f.total)) :
    Calls Try.prog 68 #[.pointer (some ⟨F, k, none⟩)] w fun e w' => e = .returned (.int .i64 f.rest) ∧ w = w' := by
  unfold Fr.rest
  by_cases h1 : f.owner = -1
  · rw [if_pos h1]
    have d1 : (f.owner == -1) = true := beq_iff_eq.2 h1
    clear h1
    go_enter Try.func68, Try.ntmps68
    go_wp2
    go_ret
    exact ⟨rfl, rfl⟩
  rw [if_neg h1]
  have d1 : (f.owner == -1) = false := beq_eq_false_iff_ne.2 h1
  by_cases h2 : f.total = 0
  · rw [if_pos h2]
    have d2 : (f.total != 0) = false := by simp [h2]
    clear h2
    go_enter Try.func68, Try.ntmps68
    go_wp2
    go_ret
    exact ⟨rfl, rfl⟩
  · rw [if_neg h2]
    have d2 : (f.total != 0) = true := by simp [h2]
    go_enter Try.func68, Try.ntmps68
    go_wp2
    go_ret
    exact ⟨rfl, rfl⟩

def Fr.getErr (f : Fr) (owner kind : Int) : Int := if f.owner = -1 then 11 else if f.owner ≠ owner then 12 else if kind ≠ 0 ∧ f.type ≠ 0 ∧ f.type ≠ kind then 13 else 0
def Fr.got (f : Fr) (kind : Int) : Fr := if kind = 0 then { f with total := f.total + 1 } else { f with total := f.total + 1, type := kind, count := f.count + 1 }

theorem get_out {B F : Nat} {S : List Fr} (i o k : Int) (w : World) (h : PhM w B F S) (hi : (i < 0 ∨ (S.length : Int) ≤ i) ∨ k < 0 ∨ 3 < k) :
    Calls Try.prog 20 #[.pointer (some ⟨B, 0, none⟩), .int .i64 i, .int .i64 o, .int .i64 k] w fun e w' => e = .returned (.int .i64 1) ∧ w = w' := by
  go_enter Try.func20, Try.ntmps20
  go_wp2_with (go_at_call 69; refine (kinds_out i k _ h hi).mono ?_; rintro e w' ⟨⟨p, rfl⟩, rfl⟩)
  go_ret
  exact ⟨rfl, rfl⟩

theorem get_none {p : Option Addr} (i o k : Int) (w : World) (h : NoM w p) :
    Calls Try.prog 20 #[.pointer p, .int .i64 i, .int .i64 o, .int .i64 k] w fun e w' => e = .returned (.int .i64 7) ∧ w = w' := by
  go_enter Try.func20, Try.ntmps20
  go_wp2_with (go_at_call 69; refine (kinds_none i k _ h).mono ?_; rintro e w' ⟨rfl, rfl⟩)
  go_ret
  exact ⟨rfl, rfl⟩

set_option maxHeartbeats 400000 in
theorem get_err {B F : Nat} {S : List Fr} (i o k : Int) (f : Fr) (w : World) (h : PhM w B F S) (hi : 0 ≤ i) (hf : S[i.toNat]? = some f) (hk0 : 0 ≤ k) (hk1 : k ≤ 3) (he : f.getErr o k ≠ 0) :
    Calls Try.prog 20 #[.pointer (some ⟨B, 0, none⟩), .int .i64 i, .int .i64 o, .int .i64 k] w fun e w' => e = .returned (.int .i64 (f.getErr o k)) ∧ w = w' := by
  have hlt : i.toNat < S.length := (List.getElem?_eq_some_iff.1 hf).1
  have c0 : w.cell? ⟨F, i.toNat * 260, none⟩ = some (.int .i64 f.owner) := h.cell hf 0 (by omega)
  have c1 : w.cell? ⟨F, i.toNat * 260 + 1, none⟩ = some (.int .i64 f.type) := h.cell hf 1 (by omega)
  unfold Fr.getErr at he ⊢
  by_cases h1 : f.owner = -1
  · rw [if_pos h1]
    have d1 : (f.owner == -1) = true := beq_iff_eq.2 h1
    clear h1 he
    go_enter Try.func20, Try.ntmps20
    go_wp2_with (go_at_call 69; refine (kinds_in i k _ h hi (by omega) hk0 hk1).mono ?_; rintro e w' ⟨rfl, rfl⟩)
    go_ret
    exact ⟨rfl, rfl⟩
  rw [if_neg h1] at he ⊢
  have d1 : (f.owner == -1) = false := beq_eq_false_iff_ne.2 h1
  by_cases h2 : f.owner ≠ o
  · rw [if_pos h2]
    have d2 : (f.owner != o) = true := bne_iff_ne.2 h2
    clear he
    go_enter Try.func20, Try.ntmps20
    go_wp2_with (go_at_call 69; refine (kinds_in i k _ h hi (by omega) hk0 hk1).mono ?_; rintro e w' ⟨rfl, rfl⟩)
    go_ret
    exact ⟨rfl, rfl⟩
  rw [if_neg h2] at he ⊢
  have d2 : (f.owner != o) = false := by simpa using h2
  by_cases h3 : k ≠ 0 ∧ f.type ≠ 0 ∧ f.type ≠ k
  · rw [if_pos h3]
    have d3 : (k != 0) = true := bne_iff_ne.2 h3.1
    have d4 : (f.type != 0) = true := bne_iff_ne.2 h3.2.1
    have d5 : (f.type != k) = true := bne_iff_ne.2 h3.2.2
    clear he h3 h2 h1
    go_enter Try.func20, Try.ntmps20
    go_wp2_with (go_at_call 69; refine (kinds_in i k _ h hi (by omega) hk0 hk1).mono ?_; rintro e w' ⟨rfl, rfl⟩)
    go_ret
    exact ⟨rfl, rfl⟩
  · rw [if_neg h3] at he
    exact absurd rfl he

theorem getErr_zero {f : Fr} {o k : Int} (h : f.getErr o k = 0) : f.owner ≠ -1 ∧ f.owner = o ∧ (k = 0 ∨ f.type = 0 ∨ f.type = k) := by
  unfold Fr.getErr at h
  split at h
  · omega
  split at h
  · omega
  split at h
  · omega
  rename_i a b c
  refine ⟨a, by simpa using b, ?_⟩
  by_cases h1 : k = 0
  · exact .inl h1
  by_cases h2 : f.type = 0
  · exact .inr (.inl h2)
  by_cases h3 : f.type = k
  · exact .inr (.inr h3)
  · exact absurd ⟨h1, h2, h3⟩ c

set_option maxHeartbeats 800000 in
theorem get_ok {B F : Nat} {S : List Fr} (i o k : Int) (f : Fr) (w : World) (h : PhM w B F S) (hi : 0 ≤ i) (hf : S[i.toNat]? = some f) (hk0 : 0 ≤ k) (hk1 : k ≤ 3) (he : f.getErr o k = 0)
    (ht : 0 ≤ f.total ∧ f.total < 4611686018427387904) (hc : 0 ≤ f.count ∧ f.count < 4611686018427387904) :
    Calls Try.prog 20 #[.pointer (some ⟨B, 0, none⟩), .int .i64 i, .int .i64 o, .int .i64 k] w fun e w' =>
      e = .returned (.int .i64 0) ∧ Mod (One F) w w' ∧ PhM w' B F (S.set i.toNat (f.got k)) := by
  have hlt : i.toNat < S.length := (List.getElem?_eq_some_iff.1 hf).1
  have hfo := h.ok f (List.mem_of_getElem? hf)
  have c0 : w.cell? ⟨F, i.toNat * 260, none⟩ = some (.int .i64 f.owner) := h.cell hf 0 (by omega)
  have c1 : w.cell? ⟨F, i.toNat * 260 + 1, none⟩ = some (.int .i64 f.type) := h.cell hf 1 (by omega)
  have c2 : w.cell? ⟨F, i.toNat * 260 + 2, none⟩ = some (.int .i64 f.count) := h.cell hf 2 (by omega)
  have c3 : w.cell? ⟨F, i.toNat * 260 + 3, none⟩ = some (.int .i64 f.total) := h.cell hf 3 (by omega)
  have f1 := h.free (i.toNat * 260 + 1)
  have f2 := h.free (i.toNat * 260 + 2)
  have f3 := h.free (i.toNat * 260 + 3)
  obtain ⟨h1, h2, h3⟩ := getErr_zero he
  clear he
  have d1 : (f.owner == -1) = false := beq_eq_false_iff_ne.2 h1
  have d2 : (f.owner != o) = false := by simp [h2]
  clear h1 h2
  by_cases hk : k = 0
  · have d3 : (k != 0) = false := by simp [hk]
    have e : f.got k = { f with total := f.total + 1 } := by simp [Fr.got, hk]
    rw [e]
    clear hk h3 e
    go_enter Try.func20, Try.ntmps20
    go_wp2_with (go_at_call 69; refine (kinds_in i k _ h hi (by omega) hk0 hk1).mono ?_; rintro e w' ⟨rfl, rfl⟩)
    go_ret
    exact ⟨rfl, (Mod.refl _ _).set1 _ _, h.set (f' := { f with total := f.total + 1 }) hf hfo 3 (by omega) (v := .int .i64 (f.total + 1)) rfl⟩
  · have d3 : (k != 0) = true := bne_iff_ne.2 hk
    have e : f.got k = { f with total := f.total + 1, type := k, count := f.count + 1 } := by simp [Fr.got, hk]
    rw [e]
    clear e
    have fin : ∀ w2, w2 = ((w.setCell ⟨F, i.toNat * 260 + 3, none⟩ (.int .i64 (f.total + 1))).setCell ⟨F, i.toNat * 260 + 1, none⟩ (.int .i64 k)).setCell ⟨F, i.toNat * 260 + 2, none⟩ (.int .i64 (f.count + 1)) →
        Mod (One F) w w2 ∧ PhM w2 B F (S.set i.toNat { f with total := f.total + 1, type := k, count := f.count + 1 }) := by
      rintro w2 rfl
      refine ⟨(((Mod.refl (One F) w).set1 _ _).set1 _ _).set1 _ _, ?_⟩
      have s1 := h.set (f' := { f with total := f.total + 1 }) hf hfo 3 (by omega) (v := .int .i64 (f.total + 1)) rfl
      have s2 := s1.set (i := i.toNat) (f := { f with total := f.total + 1 }) (f' := { f with total := f.total + 1, type := k }) (by simp [hlt]) hfo 1 (by omega) (v := .int .i64 k) rfl
      have s3 := s2.set (i := i.toNat) (f := { f with total := f.total + 1, type := k }) (f' := { f with total := f.total + 1, type := k, count := f.count + 1 }) (by simp [hlt]) hfo 2 (by omega) (v := .int .i64 (f.count + 1)) rfl
      simpa using s3
    have FIN := Lib.hid fin; clear fin
    rcases h3 with h3 | h3 | h3
    · exact absurd h3 hk
    · have d4 : (f.type != 0) = false := by simp [h3]
      clear h3 hk
      go_enter Try.func20, Try.ntmps20
      go_wp2_with (go_at_call 69; refine (kinds_in i k _ h hi (by omega) hk0 hk1).mono ?_; rintro e w' ⟨rfl, rfl⟩)
      go_ret
      exact ⟨rfl, FIN.out _ rfl⟩
    · have d5 : (f.type != k) = false := by simp [h3]
      have d4 : (f.type != 0) = true := by rw [h3]; exact d3
      clear h3 hk
      go_enter Try.func20, Try.ntmps20
      go_wp2_with (go_at_call 69; refine (kinds_in i k _ h hi (by omega) hk0 hk1).mono ?_; rintro e w' ⟨rfl, rfl⟩)
      go_ret
      exact ⟨rfl, FIN.out _ rfl⟩

end Go.Proofs.Ythfkpbfapkpnfab
