/- The document's small functions of layer 19. (Printed by wip/gen_ref19.py.) -/
import Derived.Test.YtlbebneblmgdcaaGreatDoorCoreAny
namespace Go.Proofs.YtlbebneblmgdcaaGreatDoor
open Go.RowKit
set_option maxRecDepth 100000

theorem rfault_any (n : Int) (w : World) : Calls Tryz.prog 30 #[.int .i64 n] w fun e w' => e = .returned (.agg #[.int .i64 3, .int .u32 0, .int .u32 0, .int .u32 0, .int .u32 0, .int .u32 0, .int .u32 0, .int .i64 n]) ∧ Mod No w w' := by
  go_enter Tryz.func30, Tryz.ntmps30
  go_wp2
  exact bodyPost_ret (v := .agg #[.int .i64 3, .int .u32 0, .int .u32 0, .int .u32 0, .int .u32 0, .int .u32 0, .int .u32 0, .int .i64 n]) (by simp [results, Tryz.results30, go_sem]) rfl ⟨rfl, (Mod.refl No w).alloc _⟩

theorem rfour_any (x : Int) (w : World) (h : 0 ≤ x ∧ x ≤ 4294967295) : Calls Tryz.prog 68 #[.int .u32 x] w fun e w' => e = .returned (.slice (some ⟨w.heap.size, 0, none⟩) 4 4) ∧ Mod No w w' ∧ w'.heap[w.heap.size]? = some (.cells ((fourR x).map (Value.int .u8)).toArray 5 (0, 0)) ∧ w'.heap.size = w.heap.size + 1 := by
  obtain ⟨h0, h1⟩ := h
  go_enter Tryz.func68, Tryz.ntmps68
  go_wp2
  go_ret
  exact ⟨rfl, (Mod.refl No w).alloc _, heap_alloc_new w _, World.size_alloc _ _⟩

theorem rnamed_0 (w : World) : Calls Tryz.prog 31 #[.int .u8 0] w fun e w' => e = .returned (.int .i64 0) ∧ w = w' := by
  go_enter Tryz.func31, Tryz.ntmps31
  go_wp2
  go_ret
  exact ⟨rfl, rfl⟩
theorem rnamed_1 (w : World) : Calls Tryz.prog 31 #[.int .u8 1] w fun e w' => e = .returned (.int .i64 1) ∧ w = w' := by
  go_enter Tryz.func31, Tryz.ntmps31
  go_wp2
  go_ret
  exact ⟨rfl, rfl⟩
theorem rnamed_2 (w : World) : Calls Tryz.prog 31 #[.int .u8 2] w fun e w' => e = .returned (.int .i64 1) ∧ w = w' := by
  go_enter Tryz.func31, Tryz.ntmps31
  go_wp2
  go_ret
  exact ⟨rfl, rfl⟩
theorem rnamed_3 (w : World) : Calls Tryz.prog 31 #[.int .u8 3] w fun e w' => e = .returned (.int .i64 2) ∧ w = w' := by
  go_enter Tryz.func31, Tryz.ntmps31
  go_wp2
  go_ret
  exact ⟨rfl, rfl⟩
theorem rnamed_4 (w : World) : Calls Tryz.prog 31 #[.int .u8 4] w fun e w' => e = .returned (.int .i64 3) ∧ w = w' := by
  go_enter Tryz.func31, Tryz.ntmps31
  go_wp2
  go_ret
  exact ⟨rfl, rfl⟩
theorem rnamed_5 (w : World) : Calls Tryz.prog 31 #[.int .u8 5] w fun e w' => e = .returned (.int .i64 3) ∧ w = w' := by
  go_enter Tryz.func31, Tryz.ntmps31
  go_wp2
  go_ret
  exact ⟨rfl, rfl⟩
theorem rnamed_6 (w : World) : Calls Tryz.prog 31 #[.int .u8 6] w fun e w' => e = .returned (.int .i64 3) ∧ w = w' := by
  go_enter Tryz.func31, Tryz.ntmps31
  go_wp2
  go_ret
  exact ⟨rfl, rfl⟩
theorem rnamed_7 (w : World) : Calls Tryz.prog 31 #[.int .u8 7] w fun e w' => e = .returned (.int .i64 3) ∧ w = w' := by
  go_enter Tryz.func31, Tryz.ntmps31
  go_wp2
  go_ret
  exact ⟨rfl, rfl⟩
theorem rnamed_8 (w : World) : Calls Tryz.prog 31 #[.int .u8 8] w fun e w' => e = .returned (.int .i64 3) ∧ w = w' := by
  go_enter Tryz.func31, Tryz.ntmps31
  go_wp2
  go_ret
  exact ⟨rfl, rfl⟩
theorem rnamed_9 (w : World) : Calls Tryz.prog 31 #[.int .u8 9] w fun e w' => e = .returned (.int .i64 3) ∧ w = w' := by
  go_enter Tryz.func31, Tryz.ntmps31
  go_wp2
  go_ret
  exact ⟨rfl, rfl⟩
theorem rnamed_10 (w : World) : Calls Tryz.prog 31 #[.int .u8 10] w fun e w' => e = .returned (.int .i64 3) ∧ w = w' := by
  go_enter Tryz.func31, Tryz.ntmps31
  go_wp2
  go_ret
  exact ⟨rfl, rfl⟩
theorem rnamed_11 (w : World) : Calls Tryz.prog 31 #[.int .u8 11] w fun e w' => e = .returned (.int .i64 3) ∧ w = w' := by
  go_enter Tryz.func31, Tryz.ntmps31
  go_wp2
  go_ret
  exact ⟨rfl, rfl⟩
theorem rnamed_12 (w : World) : Calls Tryz.prog 31 #[.int .u8 12] w fun e w' => e = .returned (.int .i64 3) ∧ w = w' := by
  go_enter Tryz.func31, Tryz.ntmps31
  go_wp2
  go_ret
  exact ⟨rfl, rfl⟩
theorem rnamed_13 (w : World) : Calls Tryz.prog 31 #[.int .u8 13] w fun e w' => e = .returned (.int .i64 2) ∧ w = w' := by
  go_enter Tryz.func31, Tryz.ntmps31
  go_wp2
  go_ret
  exact ⟨rfl, rfl⟩
theorem rnamed_14 (w : World) : Calls Tryz.prog 31 #[.int .u8 14] w fun e w' => e = .returned (.int .i64 2) ∧ w = w' := by
  go_enter Tryz.func31, Tryz.ntmps31
  go_wp2
  go_ret
  exact ⟨rfl, rfl⟩
theorem rnamed_15 (w : World) : Calls Tryz.prog 31 #[.int .u8 15] w fun e w' => e = .returned (.int .i64 2) ∧ w = w' := by
  go_enter Tryz.func31, Tryz.ntmps31
  go_wp2
  go_ret
  exact ⟨rfl, rfl⟩
theorem rnamed_16 (w : World) : Calls Tryz.prog 31 #[.int .u8 16] w fun e w' => e = .returned (.int .i64 2) ∧ w = w' := by
  go_enter Tryz.func31, Tryz.ntmps31
  go_wp2
  go_ret
  exact ⟨rfl, rfl⟩
theorem rnamed_17 (w : World) : Calls Tryz.prog 31 #[.int .u8 17] w fun e w' => e = .returned (.int .i64 1) ∧ w = w' := by
  go_enter Tryz.func31, Tryz.ntmps31
  go_wp2
  go_ret
  exact ⟨rfl, rfl⟩
theorem rnamed_18 (w : World) : Calls Tryz.prog 31 #[.int .u8 18] w fun e w' => e = .returned (.int .i64 1) ∧ w = w' := by
  go_enter Tryz.func31, Tryz.ntmps31
  go_wp2
  go_ret
  exact ⟨rfl, rfl⟩
theorem rnamed_19 (w : World) : Calls Tryz.prog 31 #[.int .u8 19] w fun e w' => e = .returned (.int .i64 1) ∧ w = w' := by
  go_enter Tryz.func31, Tryz.ntmps31
  go_wp2
  go_ret
  exact ⟨rfl, rfl⟩
theorem rnamed_20 (w : World) : Calls Tryz.prog 31 #[.int .u8 20] w fun e w' => e = .returned (.int .i64 0) ∧ w = w' := by
  go_enter Tryz.func31, Tryz.ntmps31
  go_wp2
  go_ret
  exact ⟨rfl, rfl⟩
theorem rnamed_any (o : Int) (w : World) (ho : 0 ≤ o ∧ o ≤ 20) : Calls Tryz.prog 31 #[.int .u8 o] w fun e w' => e = .returned (.int .i64 (namedR o)) ∧ w = w' := by
  have hcases : o = 0 ∨ o = 1 ∨ o = 2 ∨ o = 3 ∨ o = 4 ∨ o = 5 ∨ o = 6 ∨ o = 7 ∨ o = 8 ∨ o = 9 ∨ o = 10 ∨ o = 11 ∨ o = 12 ∨ o = 13 ∨ o = 14 ∨ o = 15 ∨ o = 16 ∨ o = 17 ∨ o = 18 ∨ o = 19 ∨ o = 20 := by omega
  rcases hcases with rfl | rfl | rfl | rfl | rfl | rfl | rfl | rfl | rfl | rfl | rfl | rfl | rfl | rfl | rfl | rfl | rfl | rfl | rfl | rfl | rfl
  · exact rnamed_0 w
  · exact rnamed_1 w
  · exact rnamed_2 w
  · exact rnamed_3 w
  · exact rnamed_4 w
  · exact rnamed_5 w
  · exact rnamed_6 w
  · exact rnamed_7 w
  · exact rnamed_8 w
  · exact rnamed_9 w
  · exact rnamed_10 w
  · exact rnamed_11 w
  · exact rnamed_12 w
  · exact rnamed_13 w
  · exact rnamed_14 w
  · exact rnamed_15 w
  · exact rnamed_16 w
  · exact rnamed_17 w
  · exact rnamed_18 w
  · exact rnamed_19 w
  · exact rnamed_20 w
theorem rplain_4 (x y : Int) (w : World) (hx : 0 ≤ x ∧ x ≤ 4294967295) (hy : 0 ≤ y ∧ y ≤ 4294967295) : Calls Tryz.prog 32 #[.int .u8 4, .int .u32 x, .int .u32 y] w fun e w' => e = .returned (.int .u32 ((x + y) % 4294967296)) ∧ w = w' := by
  obtain ⟨x0, x1⟩ := hx
  obtain ⟨y0, y1⟩ := hy
  go_enter Tryz.func32, Tryz.ntmps32
  go_wp2
  go_ret
  exact ⟨rfl, rfl⟩
theorem rplain_5 (x y : Int) (w : World) (hx : 0 ≤ x ∧ x ≤ 4294967295) (hy : 0 ≤ y ∧ y ≤ 4294967295) : Calls Tryz.prog 32 #[.int .u8 5, .int .u32 x, .int .u32 y] w fun e w' => e = .returned (.int .u32 ((x - y) % 4294967296)) ∧ w = w' := by
  obtain ⟨x0, x1⟩ := hx
  obtain ⟨y0, y1⟩ := hy
  go_enter Tryz.func32, Tryz.ntmps32
  go_wp2
  go_ret
  exact ⟨rfl, rfl⟩
theorem rplain_6 (x y : Int) (w : World) (hx : 0 ≤ x ∧ x ≤ 4294967295) (hy : 0 ≤ y ∧ y ≤ 4294967295) : Calls Tryz.prog 32 #[.int .u8 6, .int .u32 x, .int .u32 y] w fun e w' => e = .returned (.int .u32 (x * y % 4294967296)) ∧ w = w' := by
  obtain ⟨x0, x1⟩ := hx
  obtain ⟨y0, y1⟩ := hy
  go_enter Tryz.func32, Tryz.ntmps32
  go_wp2
  go_ret
  exact ⟨rfl, rfl⟩
theorem rplain_7 (x y : Int) (w : World) (hx : 0 ≤ x ∧ x ≤ 4294967295) (hy : 0 ≤ y ∧ y ≤ 4294967295) : Calls Tryz.prog 32 #[.int .u8 7, .int .u32 x, .int .u32 y] w fun e w' => e = .returned (.int .u32 (bits .and .u32 x y)) ∧ w = w' := by
  obtain ⟨x0, x1⟩ := hx
  obtain ⟨y0, y1⟩ := hy
  go_enter Tryz.func32, Tryz.ntmps32
  go_wp2
  go_ret
  exact ⟨rfl, rfl⟩
theorem rplain_8 (x y : Int) (w : World) (hx : 0 ≤ x ∧ x ≤ 4294967295) (hy : 0 ≤ y ∧ y ≤ 4294967295) : Calls Tryz.prog 32 #[.int .u8 8, .int .u32 x, .int .u32 y] w fun e w' => e = .returned (.int .u32 (bits .or .u32 x y)) ∧ w = w' := by
  obtain ⟨x0, x1⟩ := hx
  obtain ⟨y0, y1⟩ := hy
  go_enter Tryz.func32, Tryz.ntmps32
  go_wp2
  go_ret
  exact ⟨rfl, rfl⟩
theorem rplain_9 (x y : Int) (w : World) (hx : 0 ≤ x ∧ x ≤ 4294967295) (hy : 0 ≤ y ∧ y ≤ 4294967295) : Calls Tryz.prog 32 #[.int .u8 9, .int .u32 x, .int .u32 y] w fun e w' => e = .returned (.int .u32 (bits .xor .u32 x y)) ∧ w = w' := by
  obtain ⟨x0, x1⟩ := hx
  obtain ⟨y0, y1⟩ := hy
  go_enter Tryz.func32, Tryz.ntmps32
  go_wp2
  go_ret
  exact ⟨rfl, rfl⟩
theorem rplain_10 (x y : Int) (w : World) (hx : 0 ≤ x ∧ x ≤ 4294967295) (hy : 0 ≤ y ∧ y ≤ 4294967295) : Calls Tryz.prog 32 #[.int .u8 10, .int .u32 x, .int .u32 y] w fun e w' => e = .returned (.int .u32 (x * 2 ^ (y % 32).toNat % 4294967296)) ∧ w = w' := by
  obtain ⟨x0, x1⟩ := hx
  obtain ⟨y0, y1⟩ := hy
  have hs : (y % 32).toNat < 32 := by omega
  have hs0 : 0 ≤ y % 32 := by omega
  go_enter Tryz.func32, Tryz.ntmps32
  go_wp2
  go_ret
  exact ⟨rfl, rfl⟩
theorem rplain_11 (x y : Int) (w : World) (hx : 0 ≤ x ∧ x ≤ 4294967295) (hy : 0 ≤ y ∧ y ≤ 4294967295) : Calls Tryz.prog 32 #[.int .u8 11, .int .u32 x, .int .u32 y] w fun e w' => e = .returned (.int .u32 (x / 2 ^ (y % 32).toNat)) ∧ w = w' := by
  obtain ⟨x0, x1⟩ := hx
  obtain ⟨y0, y1⟩ := hy
  have hs : (y % 32).toNat < 32 := by omega
  have hs0 : 0 ≤ y % 32 := by omega
  go_enter Tryz.func32, Tryz.ntmps32
  go_wp2
  go_ret
  exact ⟨rfl, rfl⟩
theorem rplain_12y (x y : Int) (w : World) (h : x < y) : Calls Tryz.prog 32 #[.int .u8 12, .int .u32 x, .int .u32 y] w fun e w' => e = .returned (.int .u32 1) ∧ w = w' := by
  have d : decide (x < y) = true := decide_eq_true h
  go_enter Tryz.func32, Tryz.ntmps32
  go_wp2
  go_ret
  exact ⟨rfl, rfl⟩
theorem rplain_12n (x y : Int) (w : World) (h : ¬ x < y) : Calls Tryz.prog 32 #[.int .u8 12, .int .u32 x, .int .u32 y] w fun e w' => e = .returned (.int .u32 0) ∧ w = w' := by
  have d : decide (x < y) = false := decide_eq_false h
  go_enter Tryz.func32, Tryz.ntmps32
  go_wp2
  go_ret
  exact ⟨rfl, rfl⟩
theorem rplain_any (o x y : Int) (w : World) (ho : 4 ≤ o ∧ o ≤ 12) (hx : 0 ≤ x ∧ x ≤ 4294967295) (hy : 0 ≤ y ∧ y ≤ 4294967295) : Calls Tryz.prog 32 #[.int .u8 o, .int .u32 x, .int .u32 y] w fun e w' => e = .returned (.int .u32 (opR o x y)) ∧ w = w' := by
  have hcases : o = 4 ∨ o = 5 ∨ o = 6 ∨ o = 7 ∨ o = 8 ∨ o = 9 ∨ o = 10 ∨ o = 11 ∨ o = 12 := by omega
  rcases hcases with rfl | rfl | rfl | rfl | rfl | rfl | rfl | rfl | rfl
  · exact rplain_4 x y w hx hy
  · exact rplain_5 x y w hx hy
  · exact rplain_6 x y w hx hy
  · exact rplain_7 x y w hx hy
  · exact rplain_8 x y w hx hy
  · exact rplain_9 x y w hx hy
  · exact rplain_10 x y w hx hy
  · exact rplain_11 x y w hx hy
  · have e : opR 12 x y = if x < y then 1 else 0 := rfl
    rw [e]
    by_cases h : x < y
    · rw [if_pos h]; exact rplain_12y x y w h
    · rw [if_neg h]; exact rplain_12n x y w h

theorem pow_le3 {L : Nat} (h : L ≤ 3) : (256 : Int) ^ L ≤ 16777216 := by
  rcases (show L = 0 ∨ L = 1 ∨ L = 2 ∨ L = 3 by omega) with rfl | rfl | rfl | rfl <;> decide
set_option maxHeartbeats 4000000 in
theorem rnumber_any (q : Option Addr) (bs : List Int) (c : Nat) (w : World) (hb : Byt w q bs c) (hl : bs.length ≤ 4) : Calls Tryz.prog 66 #[.slice q bs.length c] w fun e w' => e = .returned (.int .u32 (numR bs)) ∧ w = w' := by
  have HB := Lib.hid hb
  clear hb
  go_enter Tryz.func66, Tryz.ntmps66
  go_wp2_with fail
  go_loopw [3, 4] (fun nv iv wr => ∃ (j : Nat), j ≤ bs.length ∧ iv = .int .i64 ((j : Int) - 1) ∧ nv = .int .u32 (numR (bs.drop j)) ∧ wr = w) (fun _ iv _ => (intOf iv + 1).toNat)
  case atStart => exact ⟨bs.length, Nat.le_refl _, by go_num, by simp [numR], rfl⟩
  case round =>
    obtain ⟨j, hj, rfl, rfl, rfl⟩ := hrel
    rcases (show j = 0 ∨ ∃ i, j = i + 1 from by cases j with | zero => exact .inl rfl | succ i => exact .inr ⟨i, rfl⟩) with rfl | ⟨i, rfl⟩
    · rw [show ((0 : Nat) : Int) - 1 = -1 by rfl]
      go_wp2_with fail
      go_ret
      exact ⟨rfl, rfl⟩
    · rw [show ((i + 1 : Nat) : Int) - 1 = (i : Int) by omega]
      have hi : i < bs.length := by omega
      have hi' : (i : Int) < (bs.length : Int) := by omega
      have hi0 : (0 : Int) ≤ (i : Int) := by omega
      obtain ⟨y, hy⟩ : ∃ y, bs[i]? = some y := ⟨_, List.getElem?_eq_getElem hi⟩
      obtain ⟨g, off, rfl, hg, hcell⟩ := HB.out.at_ (by omega)
      have yr := HB.out.range y (List.mem_of_getElem? hy)
      have yc := hcell i y hy
      have hd : numR (bs.drop i) = y + 256 * numR (bs.drop (i + 1)) := by
        rw [List.drop_eq_getElem_cons hi, numR]
        rw [List.getElem?_eq_getElem hi] at hy
        rw [Option.some.inj hy]
      have hr := numR_range (bs.drop (i + 1)) (fun x hx => HB.out.range x (List.mem_of_mem_drop hx))
      have hl3 : (bs.drop (i + 1)).length ≤ 3 := by rw [List.length_drop]; omega
      have hp3 := pow_le3 hl3
      generalize numR (bs.drop (i + 1)) = s at hd hr ⊢
      have hs0 := hr.1
      have hs1 : s < 16777216 := by omega
      obtain ⟨y0, y1⟩ := yr
      have hfin : s * 256 + y = numR (bs.drop i) := by omega
      have HF := Lib.hid hfin
      clear hcell hy hd hr hp3 hl3 hfin hg
      go_wp2
      go_roundw
      case rel => exact ⟨i, by omega, by go_num, by rw [← HF.out], (by first | rfl | trivial)⟩
      case measure => simp [intOf]

end Go.Proofs.YtlbebneblmgdcaaGreatDoor
