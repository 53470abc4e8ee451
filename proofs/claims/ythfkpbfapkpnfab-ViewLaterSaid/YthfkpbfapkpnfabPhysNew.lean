/- phys.New. -/
import Derived.Test.YthfkpbfapkpnfabPhysFree
namespace Go.Proofs.Ythfkpbfapkpnfab
open Go.RowKit
set_option maxRecDepth 100000

def zeroFr : Fr := ⟨0, 0, 0, 0, List.replicate 256 0⟩
theorem zeroFr_ok : zeroFr.ok := ⟨by simp [zeroFr], fun b hb => by simp [zeroFr] at hb; omega⟩
theorem okS_replicate (n : Nat) {f : Fr} (h : f.ok) : okS (List.replicate n f) := fun g hg => by simp at hg; rw [hg.2]; exact h

theorem made_frames (n : Nat) : madeCells zeroFr.cells.toArray (n * 260) = (allCells (List.replicate n zeroFr)).toArray := by
  have hz : zeroFr.cells.toArray.size = 260 := by simp [Fr.len zeroFr_ok]
  have hl := allCells_len (okS_replicate n zeroFr_ok)
  rw [List.length_replicate] at hl
  apply Array.ext
  · rw [size_madeCells, List.size_toArray, hl]
  · intro j h1 h2
    rw [size_madeCells] at h1
    have hg := allCells_get (okS_replicate n zeroFr_ok) (j / 260) (j % 260) zeroFr (by rw [List.getElem?_replicate, if_pos (show j / 260 < n by omega)]) (by omega)
    rw [show j / 260 * 260 + j % 260 = j by omega] at hg
    have h3 : j < (allCells (List.replicate n zeroFr)).length := by rw [hl]; exact h1
    rw [List.getElem?_eq_getElem h3] at hg
    have h4 : j % 260 < zeroFr.cells.length := by rw [Fr.len zeroFr_ok]; omega
    rw [List.getElem?_eq_getElem h4] at hg
    simp only [madeCells, Array.getElem_map, Array.getElem_range, hz, List.getElem_toArray]
    rw [Option.some.inj hg]
    simp [h4]

theorem Try.infoFrame : (Try.prog.info? 122).map (fun i => (i.zero, i.size, i.bytes)) = some (some (.agg zeroFr.cells.toArray), 260, 288) := by kernel_rfl

theorem make_frames (n : Nat) (hn : n ≤ 256) (w : World) :
    (Instr.makeSlice 23 (.int .i64 (n : Int)) (.int .i64 (n : Int))).run Try.prog w = .ok (.slice (some ⟨w.heap.size, 0, none⟩) n n) (w.alloc (.cells (allCells (List.replicate n zeroFr)).toArray 122)) := by
  obtain ⟨i, hi, hz0, hz1, hz2⟩ := info_parts Try.infoFrame
  have hr := run_make (P := Try.prog) w 23 122 i _ Try.underlying23 hi hz0 .i64 .i64 n n (by omega) (by omega) (by rw [hz2]; omega) (by omega)
  rw [hz1] at hr
  simp only [Int.toNat_natCast, Value.cells] at hr
  rw [made_frames] at hr
  exact hr

theorem new_out (n : Int) (w : World) (h : n < 1 ∨ 256 < n) :
    Calls Try.prog 27 #[.int .i64 n] w fun e w' => e = .returned (.tuple #[.pointer none, .int .i64 1]) ∧ w = w' := by
  by_cases c : n < 1
  · have d1 : decide (n < 1) = true := decide_eq_true c
    go_enter Try.func27, Try.ntmps27
    go_wp2
    go_ret2
    exact ⟨rfl, rfl⟩
  · have d1 : decide (n < 1) = false := decide_eq_false c
    have d2 : decide (256 < n) = true := decide_eq_true (by omega)
    go_enter Try.func27, Try.ntmps27
    go_wp2
    go_ret2
    exact ⟨rfl, rfl⟩

/-- k frames free, the others as they were made. -/
def newS (n k : Nat) : List Fr := List.replicate k freeFr ++ List.replicate (n - k) zeroFr
theorem newS_len (n k : Nat) (h : k ≤ n) : (newS n k).length = n := by simp [newS]; omega
theorem newS_get (n k : Nat) (h : k < n) : (newS n k)[k]? = some zeroFr := by
  unfold newS
  rw [List.getElem?_append_right (by simp), List.length_replicate, Nat.sub_self, List.getElem?_replicate, if_pos (by omega)]
theorem newS_set (n k : Nat) (h : k < n) : (newS n k).set k freeFr = newS n (k + 1) := by
  unfold newS
  rw [List.set_append_right _ _ (by simp), List.length_replicate, Nat.sub_self]
  obtain ⟨m, hm⟩ : ∃ m, n - k = m + 1 := ⟨n - k - 1, by omega⟩
  rw [hm, show n - (k + 1) = m by omega, List.replicate_succ (n := m), List.replicate_succ' (n := k), List.set_cons_zero, List.append_assoc]
  rfl
theorem newS_ok (n k : Nat) : okS (newS n k) := by
  intro g hg
  simp only [newS, List.mem_append] at hg
  rcases hg with hg | hg
  · exact okS_replicate _ freeFr_ok g hg
  · exact okS_replicate _ zeroFr_ok g hg

set_option maxHeartbeats 800000 in
theorem new_in (n : Nat) (w : World) (h0 : 1 ≤ n) (h1 : n ≤ 256) :
    Calls Try.prog 27 #[.int .i64 (n : Int)] w fun e w' => ∃ B F, e = .returned (.tuple #[.pointer (some ⟨B, 0, none⟩), .int .i64 0]) ∧ w.heap.size ≤ B ∧ w.heap.size ≤ F ∧ Mod No w w' ∧ PhM w' B F (List.replicate n freeFr) := by
  have d1 : decide ((n : Int) < 1) = false := decide_eq_false (by omega)
  have d2 : decide ((256 : Int) < n) = false := decide_eq_false (by omega)
  have hmk := make_frames n h1
  go_enter Try.func27, Try.ntmps27
  go_wp2
  go_loopw [21] (fun v wr => ∃ k : Nat, k ≤ n ∧ v = .int .i64 k ∧ Mod No w wr ∧ PhM wr (w.heap.size + 1) w.heap.size (newS n k)) (fun v _ => n - (intOf v).toNat)
  case atStart =>
    refine ⟨0, Nat.zero_le _, rfl, ((Mod.refl No w).alloc _).alloc _, ⟨newS_ok n 0, by rw [newS_len n 0 (by omega)]; exact ⟨h0, h1⟩, ⟨n, by rw [newS_len n 0 (by omega)]; exact Nat.le_refl _, ?_⟩, ⟨[], ?_⟩⟩⟩
    · rw [newS_len n 0 (by omega), heap_alloc2_new]
    · rw [heap_alloc2_old]; simp [newS]
  case round =>
    obtain ⟨k, hk, rfl, hm, hP⟩ := hrel
    by_cases hlt : k < n
    · obtain ⟨c, hc, hfr⟩ := hP.frames
      rw [newS_len n k hk] at hfr
      have hfz := hP.free (k * 260)
      have hcl : wr.cell? ⟨w.heap.size, k * 260, none⟩ = some (.int .i64 0) := hP.cell (newS_get n k hlt) 0 (by omega)
      have hs := hP.set (newS_get n k hlt) freeFr_ok 0 (by omega) (v := .int .i64 (-1)) rfl
      rw [newS_set n k hlt] at hs
      have HS := Lib.hid hs; clear hs
      go_wp2
      go_roundw
      case rel => exact ⟨k + 1, by omega, by go_num, hm.setCell (p := ⟨w.heap.size, k * 260, none⟩) (fun h => absurd h (by simp)) _, HS.out⟩
      case measure => simp [intOf]; omega
    · obtain rfl : k = n := by omega
      go_wp2
      go_ret2
      refine ⟨w.heap.size + 1, w.heap.size, rfl, by omega, by omega, hm, ?_⟩
      simpa [newS] using hP

end Go.Proofs.Ythfkpbfapkpnfab
