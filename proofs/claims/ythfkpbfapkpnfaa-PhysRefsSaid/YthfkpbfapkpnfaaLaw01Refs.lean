/- tenementlaw01.PhysRefs: the walk. -/
import Derived.Test.YthfkpbfapkpnfaaLaw01Clean
import Derived.Test.YthfkpbfapkpnfaaPhysOwned
import Derived.Deep.QuietTactic
import Derived.BigQuiet
import Derived.IntWalk
namespace Go.Proofs.Ythfkpbfapkpnfaa
open Go.RowKit
set_option maxRecDepth 100000

/-- References that were taken of frame f. -/
structure Tk (gb : List Int) (f : Fr) (tk : List Int) : Prop where
  owner : f.owner = 3
  bytes : f.bytes = gb
  total : f.total = (tk.length : Int)
  count : f.count = ((tk.filter (· != 0)).length : Int)
  kinds : ∀ k ∈ tk, (0 ≤ k ∧ k ≤ 3) ∧ (k ≠ 0 → f.type = k)
  none : (∀ k ∈ tk, k = 0) → f.type = 0

theorem tk_got {gb : List Int} {f : Fr} {tk : List Int} (h : Tk gb f tk) {k : Int} (h0 : 0 ≤ k) (h1 : k ≤ 3) (he : f.getErr 3 k = 0) : Tk gb (f.got k) (tk ++ [k]) := by
  obtain ⟨_, _, h3⟩ := getErr_zero he
  by_cases hk : k = 0
  · subst hk
    have e : f.got 0 = { f with total := f.total + 1 } := by simp [Fr.got]
    rw [e]
    refine ⟨h.owner, h.bytes, ?_, ?_, ?_, ?_⟩
    · show f.total + 1 = _; rw [h.total]; simp
    · show f.count = _; rw [h.count]; simp [List.filter_append]
    · intro j hj
      rcases List.mem_append.1 hj with hj | hj
      · exact h.kinds j hj
      · simp at hj; subst hj; exact ⟨by omega, fun q => absurd rfl q⟩
    · intro hz; exact h.none (fun j hj => hz j (List.mem_append_left _ hj))
  · have e : f.got k = { f with total := f.total + 1, type := k, count := f.count + 1 } := by simp [Fr.got, hk]
    rw [e]
    refine ⟨h.owner, h.bytes, ?_, ?_, ?_, ?_⟩
    · show f.total + 1 = _; rw [h.total]; simp
    · show f.count + 1 = _; rw [h.count]; simp [List.filter_append, hk]
    · intro j hj
      rcases List.mem_append.1 hj with hj | hj
      · refine ⟨(h.kinds j hj).1, fun q => ?_⟩
        have h4 := (h.kinds j hj).2 q
        show k = j
        omega
      · simp at hj; subst hj; exact ⟨⟨h0, h1⟩, fun _ => rfl⟩
    · intro hz; exact absurd (hz k (by simp)) hk

theorem tk_put {gb : List Int} {f : Fr} {tk : List Int} {k : Int} (h : Tk gb f (k :: tk)) : f.putErr k = 0 ∧ Tk gb (f.put k) tk := by
  have hk := h.kinds k (by simp)
  have hle : (tk.filter (· != 0)).length ≤ tk.length := List.length_filter_le _ _
  have ht := h.total
  have hc := h.count
  simp only [List.length_cons] at ht
  have hin : ∀ j ∈ tk, (0 ≤ j ∧ j ≤ 3) ∧ (j ≠ 0 → f.type = j) := fun j hj => h.kinds j (List.mem_cons_of_mem _ hj)
  have hpos : ∀ j ∈ tk, j ≠ 0 → 0 < (tk.filter (· != 0)).length := by
    intro j hj hn
    exact List.length_pos_of_mem (List.mem_filter.2 ⟨hj, by simpa using hn⟩)
  have hzero : (∀ j ∈ tk, j = 0) → (tk.filter (· != 0)).length = 0 := by
    intro hz
    rw [List.length_eq_zero_iff, List.filter_eq_nil_iff]
    intro j hj; simp [hz j hj]
  by_cases hz : k = 0
  · subst hz
    have hc' : f.count = ((tk.filter (· != 0)).length : Int) := by rw [hc]; simp
    refine ⟨?_, ?_⟩
    · unfold Fr.putErr; rw [if_pos rfl, if_neg]; omega
    · have e : f.put 0 = { f with total := f.total - 1, type := if f.count = 0 then 0 else f.type } := by simp [Fr.put]
      rw [e]
      refine ⟨h.owner, h.bytes, ?_, hc', ?_, ?_⟩
      · show f.total - 1 = _; omega
      · intro j hj
        refine ⟨(hin j hj).1, fun q => ?_⟩
        have := hpos j hj q
        show (if f.count = 0 then 0 else f.type) = j
        rw [if_neg (show ¬ f.count = 0 by omega)]
        exact (hin j hj).2 q
      · intro hz
        have := hzero hz
        show (if f.count = 0 then 0 else f.type) = 0
        rw [if_pos (show f.count = 0 by omega)]
  · have hc' : f.count = ((tk.filter (· != 0)).length : Int) + 1 := by rw [hc]; simp [hz]
    refine ⟨?_, ?_⟩
    · unfold Fr.putErr; rw [if_neg hz, if_pos (hk.2 hz)]
    · have e : f.put k = { f with total := f.total - 1, count := f.count - 1, type := if f.count - 1 = 0 then 0 else f.type } := by simp [Fr.put, hz]
      rw [e]
      refine ⟨h.owner, h.bytes, ?_, ?_, ?_, ?_⟩
      · show f.total - 1 = _; omega
      · show f.count - 1 = _; omega
      · intro j hj
        refine ⟨(hin j hj).1, fun q => ?_⟩
        have := hpos j hj q
        show (if f.count - 1 = 0 then 0 else f.type) = j
        rw [if_neg (show ¬ f.count - 1 = 0 by omega)]
        exact (hin j hj).2 q
      · intro hz
        have := hzero hz
        show (if f.count - 1 = 0 then 0 else f.type) = 0
        rw [if_pos (show f.count - 1 = 0 by omega)]

def refFr (gb : List Int) : Fr := ⟨3, 0, 0, 0, gb⟩
theorem tk_start (gb : List Int) : Tk gb (refFr gb) [] := ⟨rfl, rfl, rfl, rfl, by simp, fun _ => rfl⟩
theorem tk_end {gb : List Int} {f : Fr} (h : Tk gb f []) : f = refFr gb := by
  obtain ⟨o, t, c, n, b⟩ := f
  have h1 := h.owner; have h2 := h.bytes; have h3 := h.total; have h4 := h.count; have h5 := h.none (by simp)
  simp at h1 h2 h3 h4 h5
  subst h1 h2 h3 h4 h5; rfl

/-- A write into frame 0 of one, whether it fits or not. -/
theorem write_try {B F : Nat} (p : Option Addr) (n c : Nat) (bs : List Int) (gb : List Int) (w : World) (h : PhM w B F [refFr gb]) (hl : bs.length = n) (hs : Src w p bs) :
    Calls Try.prog 28 #[.pointer (some ⟨B, 0, none⟩), .int .i64 0, .int .i64 0, .slice p n c] w fun e w' =>
      ∃ r gb', e = .returned (.int .i64 r) ∧ Mod (One F) w w' ∧ PhM w' B F [refFr gb'] := by
  by_cases hi : InP [refFr gb] 0 0 n
  · refine (write_in 0 0 p n c bs (refFr gb) w h hl hi rfl (show (3 : Int) ≠ -1 by decide) hs).mono ?_
    rintro e w' ⟨rfl, hm, hP⟩
    exact ⟨0, _, rfl, hm, hP⟩
  · refine (write_out 0 0 p n c w h hi).mono ?_
    rintro e w' ⟨rfl, rfl⟩
    exact ⟨1, gb, rfl, Mod.refl _ _, h⟩

end Go.Proofs.Ythfkpbfapkpnfaa
