/- phys.Machine: Put. -/
import Derived.Test.YthfkpbfapkpnfabPhysRef
import Derived.Deep.QuietTactic
import Derived.BigQuiet
namespace Go.Proofs.Ythfkpbfapkpnfab
open Go.RowKit
set_option maxRecDepth 100000

def Fr.putErr (f : Fr) (kind : Int) : Int := if kind = 0 then (if f.total = f.count then 14 else 0) else (if f.type = kind then 0 else 14)
def Fr.put (f : Fr) (kind : Int) : Fr :=
  let c := if kind = 0 then f.count else f.count - 1
  { f with total := f.total - 1, count := c, type := if c = 0 then 0 else f.type }

theorem put_out {B F : Nat} {S : List Fr} (i k : Int) (w : World) (h : PhM w B F S) (hi : (i < 0 ∨ (S.length : Int) ≤ i) ∨ k < 0 ∨ 3 < k) :
    Calls Try.prog 21 #[.pointer (some ⟨B, 0, none⟩), .int .i64 i, .int .i64 k] w fun e w' => e = .returned (.int .i64 1) ∧ w = w' := by
  go_enter Try.func21, Try.ntmps21
  go_wp2_with (go_at_call 69; refine (kinds_out i k _ h hi).mono ?_; rintro e w' ⟨⟨p, rfl⟩, rfl⟩)
  go_ret
  exact ⟨rfl, rfl⟩

theorem put_none {p : Option Addr} (i k : Int) (w : World) (h : NoM w p) :
    Calls Try.prog 21 #[.pointer p, .int .i64 i, .int .i64 k] w fun e w' => e = .returned (.int .i64 7) ∧ w = w' := by
  go_enter Try.func21, Try.ntmps21
  go_wp2_with (go_at_call 69; refine (kinds_none i k _ h).mono ?_; rintro e w' ⟨rfl, rfl⟩)
  go_ret
  exact ⟨rfl, rfl⟩

set_option maxHeartbeats 800000 in
theorem put_err {B F : Nat} {S : List Fr} (i k : Int) (f : Fr) (w : World) (h : PhM w B F S) (hi : 0 ≤ i) (hf : S[i.toNat]? = some f) (hk0 : 0 ≤ k) (hk1 : k ≤ 3) (he : f.putErr k ≠ 0) :
    Calls Try.prog 21 #[.pointer (some ⟨B, 0, none⟩), .int .i64 i, .int .i64 k] w fun e w' => e = .returned (.int .i64 14) ∧ Mod No w w' ∧ PhM w' B F S := by
  have hlt : i.toNat < S.length := (List.getElem?_eq_some_iff.1 hf).1
  have c1 : w.cell? ⟨F, i.toNat * 260 + 1, none⟩ = some (.int .i64 f.type) := h.cell hf 1 (by omega)
  have c2 : w.cell? ⟨F, i.toNat * 260 + 2, none⟩ = some (.int .i64 f.count) := h.cell hf 2 (by omega)
  have c3 : w.cell? ⟨F, i.toNat * 260 + 3, none⟩ = some (.int .i64 f.total) := h.cell hf 3 (by omega)
  unfold Fr.putErr at he
  by_cases hk : k = 0
  · rw [if_pos hk] at he
    have d3 : (k != 0) = false := by simp [hk]
    have d4 : (k == 0) = true := by simp [hk]
    have ht : f.total = f.count := by
      by_cases e : f.total = f.count
      · exact e
      · rw [if_neg e] at he; exact absurd rfl he
    have d5 : (f.total == f.count) = true := by simp [ht]
    clear he hk ht
    go_enter Try.func21, Try.ntmps21
    go_wp2_with (go_at_call 69; refine (kinds_in i k _ h hi (by omega) hk0 hk1).mono ?_; rintro e w' ⟨rfl, rfl⟩)
    go_quiet (fail)
    go_wp2
    go_ret
    exact ⟨rfl, (Mod.refl _ _).drewN _, h.kept ((Mod.refl No _).drewN _) (fun p => p) (fun p => p)⟩
  · rw [if_neg hk] at he
    have d3 : (k != 0) = true := bne_iff_ne.2 hk
    have d5 : (f.type != k) = true := by
      by_cases e : f.type = k
      · rw [if_pos e] at he; exact absurd rfl he
      · exact bne_iff_ne.2 e
    clear he hk
    go_enter Try.func21, Try.ntmps21
    go_wp2_with (go_at_call 69; refine (kinds_in i k _ h hi (by omega) hk0 hk1).mono ?_; rintro e w' ⟨rfl, rfl⟩)
    go_ret
    exact ⟨rfl, Mod.refl _ _, h⟩

theorem putErr_zero {f : Fr} {k : Int} (h : f.putErr k = 0) : if k = 0 then f.total ≠ f.count else f.type = k := by
  unfold Fr.putErr at h
  split <;> rename_i hk
  · rw [if_pos hk] at h; split at h
    · omega
    · assumption
  · rw [if_neg hk] at h; split at h
    · assumption
    · omega

set_option maxHeartbeats 1600000 in
theorem put_ok {B F : Nat} {S : List Fr} (i k : Int) (f : Fr) (w : World) (h : PhM w B F S) (hi : 0 ≤ i) (hf : S[i.toNat]? = some f) (hk0 : 0 ≤ k) (hk1 : k ≤ 3) (he : f.putErr k = 0)
    (ht : -4611686018427387904 ≤ f.total ∧ f.total < 4611686018427387904) (hc : -4611686018427387904 ≤ f.count ∧ f.count < 4611686018427387904) :
    Calls Try.prog 21 #[.pointer (some ⟨B, 0, none⟩), .int .i64 i, .int .i64 k] w fun e w' =>
      e = .returned (.int .i64 0) ∧ Mod (One F) w w' ∧ PhM w' B F (S.set i.toNat (f.put k)) := by
  have hlt : i.toNat < S.length := (List.getElem?_eq_some_iff.1 hf).1
  have hfo := h.ok f (List.mem_of_getElem? hf)
  have c1 : w.cell? ⟨F, i.toNat * 260 + 1, none⟩ = some (.int .i64 f.type) := h.cell hf 1 (by omega)
  have c2 : w.cell? ⟨F, i.toNat * 260 + 2, none⟩ = some (.int .i64 f.count) := h.cell hf 2 (by omega)
  have c3 : w.cell? ⟨F, i.toNat * 260 + 3, none⟩ = some (.int .i64 f.total) := h.cell hf 3 (by omega)
  have f1 := h.free (i.toNat * 260 + 1)
  have f2 := h.free (i.toNat * 260 + 2)
  have f3 := h.free (i.toNat * 260 + 3)
  have hz := putErr_zero he
  clear he
  by_cases hk : k = 0
  · rw [if_pos hk] at hz
    have d3 : (k != 0) = false := by simp [hk]
    have d4 : (k == 0) = true := by simp [hk]
    have d5 : (f.total == f.count) = false := beq_eq_false_iff_ne.2 hz
    by_cases hc0 : f.count = 0
    · have e : f.put k = { f with total := f.total - 1, type := 0 } := by simp [Fr.put, hk, hc0]
      have d6 : (f.count == 0) = true := by simp [hc0]
      rw [e]
      have fin : ∀ w2 n, w2 = ((w.setCell ⟨F, i.toNat * 260 + 3, none⟩ (.int .i64 (f.total - 1))).setCell ⟨F, i.toNat * 260 + 1, none⟩ (.int .i64 0)).drewN n →
          Mod (One F) w w2 ∧ PhM w2 B F (S.set i.toNat { f with total := f.total - 1, type := 0 }) := by
        rintro w2 n rfl
        refine ⟨(((Mod.refl (One F) w).set1 _ _).set1 _ _).drewN _, ?_⟩
        have s1 := h.set (f' := { f with total := f.total - 1 }) hf hfo 3 (by omega) (v := .int .i64 (f.total - 1)) rfl
        have s2 := s1.set (i := i.toNat) (f := { f with total := f.total - 1 }) (f' := { f with total := f.total - 1, type := 0 }) (by simp [hlt]) hfo 1 (by omega) (v := .int .i64 0) rfl
        simpa using s2.kept ((Mod.refl No _).drewN n) (fun p => p) (fun p => p)
      have FIN := Lib.hid fin; clear fin e hk hz hc0
      go_enter Try.func21, Try.ntmps21
      go_wp2_with (go_at_call 69; refine (kinds_in i k _ h hi (by omega) hk0 hk1).mono ?_; rintro e w' ⟨rfl, rfl⟩)
      go_quiet (fail)
      go_wp2
      go_ret
      exact ⟨rfl, FIN.out _ _ rfl⟩
    · have e : f.put k = { f with total := f.total - 1 } := by simp [Fr.put, hk, hc0]
      have d6 : (f.count == 0) = false := by simp [hc0]
      rw [e]
      have fin : ∀ w2 n, w2 = ((w.setCell ⟨F, i.toNat * 260 + 3, none⟩ (.int .i64 (f.total - 1)))).drewN n →
          Mod (One F) w w2 ∧ PhM w2 B F (S.set i.toNat { f with total := f.total - 1 }) := by
        rintro w2 n rfl
        refine ⟨((Mod.refl (One F) w).set1 _ _).drewN _, ?_⟩
        have s1 := h.set (f' := { f with total := f.total - 1 }) hf hfo 3 (by omega) (v := .int .i64 (f.total - 1)) rfl
        exact s1.kept ((Mod.refl No _).drewN n) (fun p => p) (fun p => p)
      have FIN := Lib.hid fin; clear fin e hk hz hc0
      go_enter Try.func21, Try.ntmps21
      go_wp2_with (go_at_call 69; refine (kinds_in i k _ h hi (by omega) hk0 hk1).mono ?_; rintro e w' ⟨rfl, rfl⟩)
      go_quiet (fail)
      go_wp2
      go_ret
      exact ⟨rfl, FIN.out _ _ rfl⟩
  · rw [if_neg hk] at hz
    have d3 : (k != 0) = true := bne_iff_ne.2 hk
    have d4 : (k == 0) = false := beq_eq_false_iff_ne.2 hk
    have d5 : (f.type != k) = false := by simp [hz]
    by_cases hc0 : f.count - 1 = 0
    · have e : f.put k = { f with total := f.total - 1, count := f.count - 1, type := 0 } := by simp [Fr.put, hk, hc0]
      have d6 : (f.count - 1 == 0) = true := by simp [hc0]
      rw [e]
      have fin : ∀ w2 n, w2 = (((w.setCell ⟨F, i.toNat * 260 + 3, none⟩ (.int .i64 (f.total - 1))).setCell ⟨F, i.toNat * 260 + 2, none⟩ (.int .i64 (f.count - 1))).setCell ⟨F, i.toNat * 260 + 1, none⟩ (.int .i64 0)).drewN n →
          Mod (One F) w w2 ∧ PhM w2 B F (S.set i.toNat { f with total := f.total - 1, count := f.count - 1, type := 0 }) := by
        rintro w2 n rfl
        refine ⟨((((Mod.refl (One F) w).set1 _ _).set1 _ _).set1 _ _).drewN _, ?_⟩
        have s1 := h.set (f' := { f with total := f.total - 1 }) hf hfo 3 (by omega) (v := .int .i64 (f.total - 1)) rfl
        have s2 := s1.set (i := i.toNat) (f := { f with total := f.total - 1 }) (f' := { f with total := f.total - 1, count := f.count - 1 }) (by simp [hlt]) hfo 2 (by omega) (v := .int .i64 (f.count - 1)) rfl
        have s3 := s2.set (i := i.toNat) (f := { f with total := f.total - 1, count := f.count - 1 }) (f' := { f with total := f.total - 1, count := f.count - 1, type := 0 }) (by simp [hlt]) hfo 1 (by omega) (v := .int .i64 0) rfl
        simpa using s3.kept ((Mod.refl No _).drewN n) (fun p => p) (fun p => p)
      have FIN := Lib.hid fin; clear fin e hk hz hc0
      go_enter Try.func21, Try.ntmps21
      go_wp2_with (go_at_call 69; refine (kinds_in i k _ h hi (by omega) hk0 hk1).mono ?_; rintro e w' ⟨rfl, rfl⟩)
      go_quiet (fail)
      go_wp2
      go_ret
      exact ⟨rfl, FIN.out _ _ rfl⟩
    · have e : f.put k = { f with total := f.total - 1, count := f.count - 1 } := by simp [Fr.put, hk, hc0]
      have d6 : (f.count - 1 == 0) = false := by simp [hc0]
      rw [e]
      have fin : ∀ w2 n, w2 = ((w.setCell ⟨F, i.toNat * 260 + 3, none⟩ (.int .i64 (f.total - 1))).setCell ⟨F, i.toNat * 260 + 2, none⟩ (.int .i64 (f.count - 1))).drewN n →
          Mod (One F) w w2 ∧ PhM w2 B F (S.set i.toNat { f with total := f.total - 1, count := f.count - 1 }) := by
        rintro w2 n rfl
        refine ⟨(((Mod.refl (One F) w).set1 _ _).set1 _ _).drewN _, ?_⟩
        have s1 := h.set (f' := { f with total := f.total - 1 }) hf hfo 3 (by omega) (v := .int .i64 (f.total - 1)) rfl
        have s2 := s1.set (i := i.toNat) (f := { f with total := f.total - 1 }) (f' := { f with total := f.total - 1, count := f.count - 1 }) (by simp [hlt]) hfo 2 (by omega) (v := .int .i64 (f.count - 1)) rfl
        simpa using s2.kept ((Mod.refl No _).drewN n) (fun p => p) (fun p => p)
      have FIN := Lib.hid fin; clear fin e hk hz hc0
      go_enter Try.func21, Try.ntmps21
      go_wp2_with (go_at_call 69; refine (kinds_in i k _ h hi (by omega) hk0 hk1).mono ?_; rintro e w' ⟨rfl, rfl⟩)
      go_quiet (fail)
      go_wp2
      go_ret
      exact ⟨rfl, FIN.out _ _ rfl⟩

end Go.Proofs.Ythfkpbfapkpnfab
