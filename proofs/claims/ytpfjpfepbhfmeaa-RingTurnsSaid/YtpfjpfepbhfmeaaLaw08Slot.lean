/- tenementlaw08.slot; a page's bytes. -/
import Derived.Test.YtpfjpfepbhfmeaaLaw08Begin
namespace Go.Proofs.Ytpfjpfepbhfmeaa
open Go.RowKit
set_option maxRecDepth 100000

def slotB (n : Nat) (id : Int) : List Int := (List.range n).map fun (j : Nat) => (id + (j : Int)) % 256
theorem slotB_len (n : Nat) (id : Int) : (slotB n id).length = n := by simp [slotB]
theorem slotB_at {n : Nat} {id : Int} {j : Nat} (h : j < n) : (slotB n id)[j]? = some ((id + (j : Int)) % 256) := by
  unfold slotB
  rw [List.getElem?_map, List.getElem?_range h]; rfl
theorem slotB_range (n : Nat) (id : Int) : ∀ x ∈ slotB n id, 0 ≤ x ∧ x ≤ 255 := by
  intro x hx
  obtain ⟨j, _, rfl⟩ := List.mem_map.1 hx
  omega

def fillTo (W : List Int) (i : Nat) : List Int := W.take i ++ List.replicate (W.length - i) 0
theorem fillTo_zero (W : List Int) : fillTo W 0 = List.replicate W.length 0 := by simp [fillTo]
theorem fillTo_all (W : List Int) : fillTo W W.length = W := by simp [fillTo]
theorem fillTo_len {W : List Int} {i : Nat} (h : i ≤ W.length) : (fillTo W i).length = W.length := by simp [fillTo]; omega
theorem fillTo_set {W : List Int} {i : Nat} {x : Int} (hx : W[i]? = some x) : (fillTo W i).set i x = fillTo W (i + 1) := by
  have hi := (List.getElem?_eq_some_iff.1 hx).1
  unfold fillTo
  have hl : (W.take i).length = i := by simp; omega
  rw [List.set_append_right _ _ (by omega), hl, Nat.sub_self, show W.length - i = (W.length - (i + 1)) + 1 by omega, List.replicate_succ, List.set_cons_zero, List.take_add_one, hx]
  simp

theorem make_any (n : Nat) (hn : n ≤ 4096) (w : World) : (Instr.makeSlice 31 (.int .i64 (n : Int)) (.int .i64 (n : Int))).run Try.prog w = .ok (.slice (some ⟨w.heap.size, 0, none⟩) n n) (w.alloc (.cells ((List.replicate n (0 : Int)).map (Value.int .u8)).toArray 5)) := by
  have h := run_make_row' (P := Try.prog) 31 5 (.int .u8 0) 1 Try.underlying31 Try.infoU8 rfl .i64 .i64 n (by omega) (by omega) w
  rw [made_one] at h
  rw [List.map_replicate]
  exact h

theorem ownsSet {w : World} {g : Nat} {W : List Int} (h : w.heap[g]? = some (.cells (W.map (Value.int .u8)).toArray 5 (0, 0))) (j : Nat) (x : Int) : (w.setCell ⟨g, j, none⟩ (.int .u8 x)).heap[g]? = some (.cells ((W.set j x).map (Value.int .u8)).toArray 5 (0, 0)) := by
  have := row_set h j (.int .u8 x)
  rwa [← List.map_set] at this

set_option maxHeartbeats 2000000 in
theorem slot8_in (n : Nat) (hn : n ≤ 16) (id : Int) (w : World) :
    Calls Try.prog 51 #[.int .i64 (n : Int), .int .u8 id] w fun e w' => e = .returned (.slice (some ⟨w.heap.size, 0, none⟩) n n) ∧ Mod No w w' ∧ w.heap.size < w'.heap.size ∧ w'.heap[w.heap.size]? = some (.cells ((slotB n id).map (Value.int .u8)).toArray 5 (0, 0)) := by
  have hmk := make_any n (by omega) w
  have HZ0 : Hid ((w.alloc (.cells ((List.replicate n (0 : Int)).map (Value.int .u8)).toArray 5)).heap[w.heap.size]? = some (.cells ((fillTo (slotB n id) 0).map (Value.int .u8)).toArray 5 (0, 0))) := by rw [fillTo_zero, slotB_len]; exact heap_alloc_new w _
  have HM0 : Hid (Mod No w (w.alloc (.cells ((List.replicate n (0 : Int)).map (Value.int .u8)).toArray 5))) := (Mod.refl No w).alloc _
  generalize (List.replicate n (0 : Int)).map (Value.int .u8) = zs at hmk HZ0 HM0
  go_enter Try.func51, Try.ntmps51
  go_wp2_with fail
  go_loopw [6] (fun v wr => ∃ j : Nat, j ≤ n ∧ v = .int .i64 j ∧ Mod No w wr ∧ wr.heap[w.heap.size]? = some (.cells ((fillTo (slotB n id) j).map (Value.int .u8)).toArray 5 (0, 0))) (fun v _ => n - (intOf v).toNat)
  case atStart => exact ⟨0, Nat.zero_le _, rfl, HM0.out, HZ0.out⟩
  case round =>
    clear HZ0 HM0 hmk
    obtain ⟨j, hj, rfl, hm, hrow⟩ := hrel
    by_cases hlt : j < n
    · have hlt' : (j : Int) < n := by omega
      have hx : (slotB n id)[j]? = some ((id + (j : Int)) % 256) := slotB_at hlt
      obtain ⟨x0, hx0⟩ : ∃ x0, wr.cell? ⟨w.heap.size, j, none⟩ = some x0 := ⟨_, by rw [row_cell hrow]; exact List.getElem?_eq_getElem (by rw [List.length_map, fillTo_len (by rw [slotB_len]; exact hj), slotB_len]; exact hlt)⟩
      have hfz := row_free hrow j
      have h3 := ownsSet hrow j ((id + (j : Int)) % 256)
      rw [fillTo_set hx] at h3
      have H3 := Lib.hid h3
      have HM := Lib.hid hm
      have hwu : IntKind.u8.wrap (id + (j : Int)) = (id + (j : Int)) % 256 := rfl
      obtain ⟨y, hy⟩ : ∃ y, y = (id + (j : Int)) % 256 := ⟨_, rfl⟩
      rw [← hy] at H3 hwu
      clear hx h3 hrow hm hy
      go_wp2_with fail
      go_roundw
      case rel => exact ⟨j + 1, by omega, by go_num, HM.out.setCell (p := ⟨w.heap.size, j, none⟩) (fun q => absurd q (Nat.lt_irrefl _)) _, H3.out⟩
      case measure => simp [intOf]; omega
    · obtain rfl : j = n := by omega
      have h4 := hrow
      rw [show fillTo (slotB j id) j = slotB j id by have := fillTo_all (slotB j id); rwa [slotB_len] at this] at h4
      go_wp2
      go_ret
      exact ⟨rfl, hm, lt_of_blk h4, h4⟩

/-- A page of the hypervisor's two frames. -/
def pgF (g : List Int) : List Fr := [{ ownFr with bytes := g }, ownFr]
theorem wr_pg {g : List Int} {off : Int} {bs : List Int} (h0 : 0 ≤ off) (h : off + bs.length ≤ 256) : wrR (pgF g) 0 off bs = pgF (splice g off.toNat bs) ∧ wrE (pgF g) 0 off bs.length = 0 := by
  have := wrR_in (S := pgF g) (i := 0) (off := off) (bs := bs) (f := { ownFr with bytes := g }) ⟨by simp [pgF], h0, by omega, h⟩ rfl (by simp [ownFr])
  exact ⟨this.1, this.2⟩
theorem pageS_pg (bs : List Int) : pageS bs = pgF (splice ownFr.bytes 0 (bs.take 256)) := pageS_eq bs

end Go.Proofs.Ytpfjpfepbhfmeaa
