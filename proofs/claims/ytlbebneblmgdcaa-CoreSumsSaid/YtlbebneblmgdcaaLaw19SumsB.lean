/- CoreSums, operator by operator: the walk. (Printed by wip/gen_sums.py.) -/
import Derived.Test.YtlbebneblmgdcaaLaw19Sums
namespace Go.Proofs.Ytlbebneblmgdcaa
open Go.RowKit
set_option maxRecDepth 100000

set_option maxHeartbeats 8000000 in
theorem sums_3 (m x y z : Nat) (op a b c : Int) (hm : m = 3) (em : op.tmod 9 = m) (ex : a.tmod 8 = x) (ey : b.tmod 8 = y) (ez : c.tmod 8 = z) (hx : x < 8) (hy : y < 8) (hz : z < 8)
    (r0 r1 r2 r3 r4 r5 r6 r7 r8 : Int) (hreg : ∀ x ∈ [r0, r1, r2, r3, r4, r5, r6, r7], 0 ≤ x ∧ x ≤ 4294967295) (w : World) :
    Calls Try.prog 3 #[.int .u8 op, .int .u8 a, .int .u8 b, .int .u8 c, .agg #[.int .u32 r0, .int .u32 r1, .int .u32 r2, .int .u32 r3, .int .u32 r4, .int .u32 r5, .int .u32 r6, .int .u32 r7, .int .u32 r8]] w fun e w' => e = .returned (.bool true) ∧ Mod No w w' := by
  subst hm
  go_enter Try.func3, Try.ntmps3
  have hw : (w.alloc (.cells #[.int .u32 r0, .int .u32 r1, .int .u32 r2, .int .u32 r3, .int .u32 r4, .int .u32 r5, .int .u32 r6, .int .u32 r7, .int .u32 r8] 25)).heap[w.heap.size]? = _ := heap_alloc_new w _
  have kx : (x : Int) < 8 := by omega
  have ky : (y : Int) < 8 := by omega
  have kz : (z : Int) < 8 := by omega
  go_wp2_with fail
  have h0 : (((w.alloc (.cells #[.int .u32 r0, .int .u32 r1, .int .u32 r2, .int .u32 r3, .int .u32 r4, .int .u32 r5, .int .u32 r6, .int .u32 r7, .int .u32 0] 25)).alloc (.cells #[.int .u8 7, .int .u8 x, .int .u8 y, .int .u8 z] 5)).alloc (.cells #[.int .i64 2, .int .i64 0, .slice (some ⟨w.heap.size + 1, 0, none⟩) 4 4] 32)).heap[w.heap.size]? = some (.cells ([.int .u32 r0, .int .u32 r1, .int .u32 r2, .int .u32 r3, .int .u32 r4, .int .u32 r5, .int .u32 r6, .int .u32 r7, .int .u32 0] : List Value).toArray 25 (0, 0)) := blk_alloc (blk_alloc (heap_alloc_new w _) _) _
  have h1 : (((w.alloc (.cells #[.int .u32 r0, .int .u32 r1, .int .u32 r2, .int .u32 r3, .int .u32 r4, .int .u32 r5, .int .u32 r6, .int .u32 r7, .int .u32 0] 25)).alloc (.cells #[.int .u8 7, .int .u8 x, .int .u8 y, .int .u8 z] 5)).alloc (.cells #[.int .i64 2, .int .i64 0, .slice (some ⟨w.heap.size + 1, 0, none⟩) 4 4] 32)).heap[w.heap.size + 1]? = some (.cells ([.int .u8 7, .int .u8 x, .int .u8 y, .int .u8 z] : List Value).toArray 5 (0, 0)) := by
    have := blk_alloc (heap_alloc_new (w.alloc (.cells #[.int .u32 r0, .int .u32 r1, .int .u32 r2, .int .u32 r3, .int .u32 r4, .int .u32 r5, .int .u32 r6, .int .u32 r7, .int .u32 0] 25)) (.cells #[.int .u8 7, .int .u8 x, .int .u8 y, .int .u8 z] 5)) (.cells #[.int .i64 2, .int .i64 0, .slice (some ⟨w.heap.size + 1, 0, none⟩) 4 4] 32)
    rwa [World.size_alloc] at this
  have h2 : (((w.alloc (.cells #[.int .u32 r0, .int .u32 r1, .int .u32 r2, .int .u32 r3, .int .u32 r4, .int .u32 r5, .int .u32 r6, .int .u32 r7, .int .u32 0] 25)).alloc (.cells #[.int .u8 7, .int .u8 x, .int .u8 y, .int .u8 z] 5)).alloc (.cells #[.int .i64 2, .int .i64 0, .slice (some ⟨w.heap.size + 1, 0, none⟩) 4 4] 32)).heap[w.heap.size + 1 + 1]? = some (.cells ([.int .i64 2, .int .i64 0, .slice (some ⟨w.heap.size + 1, 0, none⟩) 4 4] : List Value).toArray 32 (0, 0)) := by
    have := heap_alloc_new ((w.alloc (.cells #[.int .u32 r0, .int .u32 r1, .int .u32 r2, .int .u32 r3, .int .u32 r4, .int .u32 r5, .int .u32 r6, .int .u32 r7, .int .u32 0] 25)).alloc (.cells #[.int .u8 7, .int .u8 x, .int .u8 y, .int .u8 z] 5)) (.cells #[.int .i64 2, .int .i64 0, .slice (some ⟨w.heap.size + 1, 0, none⟩) 4 4] 32)
    rwa [World.size_alloc, World.size_alloc] at this
  have hm0 : Mod No w (((w.alloc (.cells #[.int .u32 r0, .int .u32 r1, .int .u32 r2, .int .u32 r3, .int .u32 r4, .int .u32 r5, .int .u32 r6, .int .u32 r7, .int .u32 0] 25)).alloc (.cells #[.int .u8 7, .int .u8 x, .int .u8 y, .int .u8 z] 5)).alloc (.cells #[.int .i64 2, .int .i64 0, .slice (some ⟨w.heap.size + 1, 0, none⟩) 4 4] 32)) := by repeat (first | exact Mod.refl _ _ | apply Mod.alloc)
  have hb1 : w.heap.size ≤ w.heap.size + 1 := by omega
  generalize (((w.alloc (.cells #[.int .u32 r0, .int .u32 r1, .int .u32 r2, .int .u32 r3, .int .u32 r4, .int .u32 r5, .int .u32 r6, .int .u32 r7, .int .u32 0] 25)).alloc (.cells #[.int .u8 7, .int .u8 x, .int .u8 y, .int .u8 z] 5)).alloc (.cells #[.int .i64 2, .int .i64 0, .slice (some ⟨w.heap.size + 1, 0, none⟩) 4 4] 32)) = w1 at h0 h1 h2 hm0 ⊢
  generalize w.heap.size + 1 + 1 = g2 at h2 ⊢
  generalize w.heap.size + 1 = g1 at h1 h2 ⊢
  have hb0 : w.heap.size ≤ w.heap.size := Nat.le_refl _
  generalize hbe : w.heap.size = b0 at h0 hb0 ⊢
  have hks : KPutS w1 (some ⟨g2, 0, none⟩) [⟨2, 0, some ⟨g1, 0, none⟩, [((7 : Nat) : Int), x, y, z], 4⟩] := one_puts (bs := [((7 : Nat) : Int), x, y, z]) h1 h2 (by omega) (by omega) (fun v hv => by
    simp only [List.mem_cons, List.not_mem_nil, or_false] at hv
    rcases hv with rfl | rfl | rfl | rfl <;> omega) (by simp)
  refine (begin19_in (some ⟨g2, 0, none⟩) _ 1 w1 hks (by simp) (fun q => by cases q)).mono ?_
  rintro e w4 ⟨B, F, K, rfl, hrd⟩
  have hst := sums_step (some ⟨g1, 0, none⟩) 4 7 x y z (by omega) hx hy hz [r0, r1, r2, r3, r4, r5, r6, r7]
  have HP4 := hrd.two.p
  have h04 := hrd.mod.blk h0 (fun q => q)
  have HM4 := Lib.hid (hm0.trans hrd.mod)
  have hF4 := hrd.F
  have hmz := hm0.size
  clear hrd hks h1 h2 hm0 hw
  generalize begS [⟨2, 0, some ⟨g1, 0, none⟩, [((7 : Nat) : Int), x, y, z], 4⟩] = S at hst HP4
  have hstep := step_any 0 r0 r1 r2 r3 r4 r5 r6 r7 0 w4 HP4 (by omega) hreg
  rw [hst] at hstep
  have hp : w4.cell? ⟨b0, y, none⟩ = some (.int .u32 ([r0, r1, r2, r3, r4, r5, r6, r7].getD y 0)) := by
    rw [row_cell h04]
    rcases (show y = 0 ∨ y = 1 ∨ y = 2 ∨ y = 3 ∨ y = 4 ∨ y = 5 ∨ y = 6 ∨ y = 7 by omega) with rfl | rfl | rfl | rfl | rfl | rfl | rfl | rfl <;> rfl
  have hq : w4.cell? ⟨b0, z, none⟩ = some (.int .u32 ([r0, r1, r2, r3, r4, r5, r6, r7].getD z 0)) := by
    rw [row_cell h04]
    rcases (show z = 0 ∨ z = 1 ∨ z = 2 ∨ z = 3 ∨ z = 4 ∨ z = 5 ∨ z = 6 ∨ z = 7 by omega) with rfl | rfl | rfl | rfl | rfl | rfl | rfl | rfl <;> rfl
  have hpr := hreg _ (regs_mem (R := [r0, r1, r2, r3, r4, r5, r6, r7]) rfl hy)
  have hqr := hreg _ (regs_mem (R := [r0, r1, r2, r3, r4, r5, r6, r7]) rfl hz)
  generalize [r0, r1, r2, r3, r4, r5, r6, r7].getD y 0 = p at hp hpr hstep hst
  generalize [r0, r1, r2, r3, r4, r5, r6, r7].getD z 0 = q at hq hqr hstep hst
  obtain ⟨p0, p1⟩ := hpr
  obtain ⟨q0, q1⟩ := hqr
  have ev : opR ((7 : Nat) : Int) p q = bits .and .u32 p q := by rfl
  rw [ev] at hstep
  obtain ⟨s0, s1, s2, s3, s4, s5, s6, s7, hs⟩ := list8 (l := [r0, r1, r2, r3, r4, r5, r6, r7].set x (bits .and .u32 p q)) (by simp)
  rw [hs] at hstep
  have HSS := Lib.hid hs
  have HST := Lib.hid hstep
  have H04 := Lib.hid h04
  have c0 := row_cell h04 0
  have c1 := row_cell h04 1
  have c2 := row_cell h04 2
  have c3 := row_cell h04 3
  have c4 := row_cell h04 4
  have c5 := row_cell h04 5
  have c6 := row_cell h04 6
  have c7 := row_cell h04 7
  have c8 := row_cell h04 8
  simp only [List.getElem?_cons_zero, List.getElem?_cons_succ] at c0 c1 c2 c3 c4 c5 c6 c7 c8
  have kb0 : b0 < w1.heap.size := lt_of_blk h0
  have HBF : Hid (b0 ≠ F) := fun q => by omega
  have HBW : Hid (w.heap.size ≤ b0) := hbe ▸ Nat.le_refl _
  have HFW : Hid (w.heap.size ≤ F) := Nat.le_trans hmz hF4
  clear hs ev hstep hst h04 HP4 h0 kb0 hF4 hbe hb0 hb1 hreg hmz
  go_wp2_with fail
  refine HST.out.mono ?_
  rintro e w5 ⟨rfl, hm5, _⟩
  have H05 := Lib.hid (hm5.blk H04.out HBF.out)
  have HM5 := Lib.hid hm5
  clear c0 c1 c2 c3 c4 c5 c6 c7 c8 hp hq hm5
  dsimp only [cpuV, goesS, Stp.L, stopL]
  go_upto_region 32 with (fail)
  have h6 : ((w5.alloc (.cells #[.int .u32 s0, .int .u32 s1, .int .u32 s2, .int .u32 s3, .int .u32 s4, .int .u32 s5, .int .u32 s6, .int .u32 s7, .int .u32 4] 25)).alloc (.cells #[.int .i64 0, .int .u32 0, .int .u32 0, .int .u32 0, .int .u32 0, .int .u32 0, .int .u32 0, .int .i64 0] 37)).heap[b0]? = _ := blk_alloc (blk_alloc H05.out _) _
  have h7 : ((w5.alloc (.cells #[.int .u32 s0, .int .u32 s1, .int .u32 s2, .int .u32 s3, .int .u32 s4, .int .u32 s5, .int .u32 s6, .int .u32 s7, .int .u32 4] 25)).alloc (.cells #[.int .i64 0, .int .u32 0, .int .u32 0, .int .u32 0, .int .u32 0, .int .u32 0, .int .u32 0, .int .i64 0] 37)).heap[w5.heap.size]? = some (.cells ([.int .u32 s0, .int .u32 s1, .int .u32 s2, .int .u32 s3, .int .u32 s4, .int .u32 s5, .int .u32 s6, .int .u32 s7, .int .u32 4] : List Value).toArray 25 (0, 0)) := blk_alloc (heap_alloc_new w5 _) _
  have h8 : ((w5.alloc (.cells #[.int .u32 s0, .int .u32 s1, .int .u32 s2, .int .u32 s3, .int .u32 s4, .int .u32 s5, .int .u32 s6, .int .u32 s7, .int .u32 4] 25)).alloc (.cells #[.int .i64 0, .int .u32 0, .int .u32 0, .int .u32 0, .int .u32 0, .int .u32 0, .int .u32 0, .int .i64 0] 37)).heap[w5.heap.size + 1]? = some (.cells ([.int .i64 0, .int .u32 0, .int .u32 0, .int .u32 0, .int .u32 0, .int .u32 0, .int .u32 0, .int .i64 0] : List Value).toArray 37 (0, 0)) := by
    have := heap_alloc_new (w5.alloc (.cells #[.int .u32 s0, .int .u32 s1, .int .u32 s2, .int .u32 s3, .int .u32 s4, .int .u32 s5, .int .u32 s6, .int .u32 s7, .int .u32 4] 25)) (.cells #[.int .i64 0, .int .u32 0, .int .u32 0, .int .u32 0, .int .u32 0, .int .u32 0, .int .u32 0, .int .i64 0] 37)
    rwa [World.size_alloc] at this
  have hm6 : Mod No w5 ((w5.alloc (.cells #[.int .u32 s0, .int .u32 s1, .int .u32 s2, .int .u32 s3, .int .u32 s4, .int .u32 s5, .int .u32 s6, .int .u32 s7, .int .u32 4] 25)).alloc (.cells #[.int .i64 0, .int .u32 0, .int .u32 0, .int .u32 0, .int .u32 0, .int .u32 0, .int .u32 0, .int .i64 0] 37)) := ((Mod.refl No w5).alloc _).alloc _
  have kb : b0 < w5.heap.size := lt_of_blk H05.out
  have kn7 : w5.heap.size ≠ b0 := by omega
  have kn8 : w5.heap.size + 1 ≠ b0 := by omega
  generalize ((w5.alloc (.cells #[.int .u32 s0, .int .u32 s1, .int .u32 s2, .int .u32 s3, .int .u32 s4, .int .u32 s5, .int .u32 s6, .int .u32 s7, .int .u32 4] 25)).alloc (.cells #[.int .i64 0, .int .u32 0, .int .u32 0, .int .u32 0, .int .u32 0, .int .u32 0, .int .u32 0, .int .i64 0] 37)) = w6 at h6 h7 h8 hm6 ⊢
  generalize w5.heap.size + 1 = b8 at h8 kn8 ⊢
  generalize w5.heap.size = b7 at h7 kn7 ⊢
  have HH6 := Lib.hid h6
  have HH7 := Lib.hid h7
  have HH8 := Lib.hid h8
  have HM6 := Lib.hid hm6
  have cx : ∃ v, w6.cell? ⟨b0, x, none⟩ = some v := by
    rw [row_cell h6]
    rcases (show x = 0 ∨ x = 1 ∨ x = 2 ∨ x = 3 ∨ x = 4 ∨ x = 5 ∨ x = 6 ∨ x = 7 by omega) with rfl | rfl | rfl | rfl | rfl | rfl | rfl | rfl <;> exact ⟨_, rfl⟩
  obtain ⟨vx, cx⟩ := cx
  have c8 : w6.cell? ⟨b0, 8, none⟩ = some (.int .u32 0) := row_cell h6 8
  have fx : w6.frozen? ⟨b0, x, none⟩ = false := row_free h6 x
  have f8 : w6.frozen? ⟨b0, 8, none⟩ = false := row_free h6 8
  have kb6 : b0 < w6.heap.size := lt_of_blk h6
  have kx8 : x ≠ 8 := by omega
  clear h6 h7 h8 hm6 kb
  go_upto_region 34 with (fail)
  have g6 : ((w6.setCell ⟨b0, x, none⟩ (.int .u32 (bits .and .u32 p q))).setCell ⟨b0, 8, none⟩ (.int .u32 4)).heap[b0]? = some (.cells ([.int .u32 s0, .int .u32 s1, .int .u32 s2, .int .u32 s3, .int .u32 s4, .int .u32 s5, .int .u32 s6, .int .u32 s7, .int .u32 4] : List Value).toArray 25 (0, 0)) := by
    have h := row_set (row_set HH6.out x (.int .u32 (bits .and .u32 p q))) 8 (.int .u32 4)
    rw [set_cells8 hx HSS.out] at h
    exact h
  have g7 : ((w6.setCell ⟨b0, x, none⟩ (.int .u32 (bits .and .u32 p q))).setCell ⟨b0, 8, none⟩ (.int .u32 4)).heap[b7]? = _ := blk_setCell (blk_setCell HH7.out kn7 _) kn7 _
  have g8 : ((w6.setCell ⟨b0, x, none⟩ (.int .u32 (bits .and .u32 p q))).setCell ⟨b0, 8, none⟩ (.int .u32 4)).heap[b8]? = _ := blk_setCell (blk_setCell HH8.out kn8 _) kn8 _
  have HME : Hid (Mod No w ((w6.setCell ⟨b0, x, none⟩ (.int .u32 (bits .and .u32 p q))).setCell ⟨b0, 8, none⟩ (.int .u32 4))) := Lib.hid ((((HM4.out.step HM5.out (fun i hi q => by have := HFW.out; have : i = F := q; omega)).trans HM6.out).new HBW.out x _).new HBW.out 8 _)
  generalize ((w6.setCell ⟨b0, x, none⟩ (.int .u32 (bits .and .u32 p q))).setCell ⟨b0, 8, none⟩ (.int .u32 4)) = w7 at g6 g7 g8 HME ⊢
  have a0 := row_cell g6 0
  have a1 := row_cell g6 1
  have a2 := row_cell g6 2
  have a3 := row_cell g6 3
  have a4 := row_cell g6 4
  have a5 := row_cell g6 5
  have a6 := row_cell g6 6
  have a7 := row_cell g6 7
  have a8 := row_cell g6 8
  have d0 := row_cell g7 0
  have d1 := row_cell g7 1
  have d2 := row_cell g7 2
  have d3 := row_cell g7 3
  have d4 := row_cell g7 4
  have d5 := row_cell g7 5
  have d6 := row_cell g7 6
  have d7 := row_cell g7 7
  have d8 := row_cell g7 8
  have e0 := row_cell g8 0
  have e1 := row_cell g8 1
  have e2 := row_cell g8 2
  have e3 := row_cell g8 3
  have e4 := row_cell g8 4
  have e5 := row_cell g8 5
  have e6 := row_cell g8 6
  have e7 := row_cell g8 7
  simp only [List.getElem?_cons_zero, List.getElem?_cons_succ] at a0 a1 a2 a3 a4 a5 a6 a7 a8 d0 d1 d2 d3 d4 d5 d6 d7 d8 e0 e1 e2 e3 e4 e5 e6 e7
  have he2 : ∀ w, (Op.equalIn 9999 23 (.agg #[.int .u32 s0, .int .u32 s1, .int .u32 s2, .int .u32 s3, .int .u32 s4, .int .u32 s5, .int .u32 s6, .int .u32 s7]) (.agg #[.int .u32 s0, .int .u32 s1, .int .u32 s2, .int .u32 s3, .int .u32 s4, .int .u32 s5, .int .u32 s6, .int .u32 s7])).run Try.prog w = .ok true w := fun w => eq8 9997 s0 s1 s2 s3 s4 s5 s6 s7 w
  have he3 : ∀ w, (Op.equalIn 9999 34 (.agg #[.int .u32 0, .int .u32 0, .int .u32 0, .int .u32 0, .int .u32 0]) (.agg #[.int .u32 0, .int .u32 0, .int .u32 0, .int .u32 0, .int .u32 0])).run Try.prog w = .ok true w := fun w => eq5 9997 0 0 0 0 0 w
  clear g6 g7 g8 cx c8 fx f8 kb6 kx8 HSS HH6 HH7 HH8
  go_wp2
  go_ret
  exact ⟨rfl, HME.out⟩


set_option maxHeartbeats 8000000 in
theorem sums_4 (m x y z : Nat) (op a b c : Int) (hm : m = 4) (em : op.tmod 9 = m) (ex : a.tmod 8 = x) (ey : b.tmod 8 = y) (ez : c.tmod 8 = z) (hx : x < 8) (hy : y < 8) (hz : z < 8)
    (r0 r1 r2 r3 r4 r5 r6 r7 r8 : Int) (hreg : ∀ x ∈ [r0, r1, r2, r3, r4, r5, r6, r7], 0 ≤ x ∧ x ≤ 4294967295) (w : World) :
    Calls Try.prog 3 #[.int .u8 op, .int .u8 a, .int .u8 b, .int .u8 c, .agg #[.int .u32 r0, .int .u32 r1, .int .u32 r2, .int .u32 r3, .int .u32 r4, .int .u32 r5, .int .u32 r6, .int .u32 r7, .int .u32 r8]] w fun e w' => e = .returned (.bool true) ∧ Mod No w w' := by
  subst hm
  go_enter Try.func3, Try.ntmps3
  have hw : (w.alloc (.cells #[.int .u32 r0, .int .u32 r1, .int .u32 r2, .int .u32 r3, .int .u32 r4, .int .u32 r5, .int .u32 r6, .int .u32 r7, .int .u32 r8] 25)).heap[w.heap.size]? = _ := heap_alloc_new w _
  have kx : (x : Int) < 8 := by omega
  have ky : (y : Int) < 8 := by omega
  have kz : (z : Int) < 8 := by omega
  go_wp2_with fail
  have h0 : (((w.alloc (.cells #[.int .u32 r0, .int .u32 r1, .int .u32 r2, .int .u32 r3, .int .u32 r4, .int .u32 r5, .int .u32 r6, .int .u32 r7, .int .u32 0] 25)).alloc (.cells #[.int .u8 8, .int .u8 x, .int .u8 y, .int .u8 z] 5)).alloc (.cells #[.int .i64 2, .int .i64 0, .slice (some ⟨w.heap.size + 1, 0, none⟩) 4 4] 32)).heap[w.heap.size]? = some (.cells ([.int .u32 r0, .int .u32 r1, .int .u32 r2, .int .u32 r3, .int .u32 r4, .int .u32 r5, .int .u32 r6, .int .u32 r7, .int .u32 0] : List Value).toArray 25 (0, 0)) := blk_alloc (blk_alloc (heap_alloc_new w _) _) _
  have h1 : (((w.alloc (.cells #[.int .u32 r0, .int .u32 r1, .int .u32 r2, .int .u32 r3, .int .u32 r4, .int .u32 r5, .int .u32 r6, .int .u32 r7, .int .u32 0] 25)).alloc (.cells #[.int .u8 8, .int .u8 x, .int .u8 y, .int .u8 z] 5)).alloc (.cells #[.int .i64 2, .int .i64 0, .slice (some ⟨w.heap.size + 1, 0, none⟩) 4 4] 32)).heap[w.heap.size + 1]? = some (.cells ([.int .u8 8, .int .u8 x, .int .u8 y, .int .u8 z] : List Value).toArray 5 (0, 0)) := by
    have := blk_alloc (heap_alloc_new (w.alloc (.cells #[.int .u32 r0, .int .u32 r1, .int .u32 r2, .int .u32 r3, .int .u32 r4, .int .u32 r5, .int .u32 r6, .int .u32 r7, .int .u32 0] 25)) (.cells #[.int .u8 8, .int .u8 x, .int .u8 y, .int .u8 z] 5)) (.cells #[.int .i64 2, .int .i64 0, .slice (some ⟨w.heap.size + 1, 0, none⟩) 4 4] 32)
    rwa [World.size_alloc] at this
  have h2 : (((w.alloc (.cells #[.int .u32 r0, .int .u32 r1, .int .u32 r2, .int .u32 r3, .int .u32 r4, .int .u32 r5, .int .u32 r6, .int .u32 r7, .int .u32 0] 25)).alloc (.cells #[.int .u8 8, .int .u8 x, .int .u8 y, .int .u8 z] 5)).alloc (.cells #[.int .i64 2, .int .i64 0, .slice (some ⟨w.heap.size + 1, 0, none⟩) 4 4] 32)).heap[w.heap.size + 1 + 1]? = some (.cells ([.int .i64 2, .int .i64 0, .slice (some ⟨w.heap.size + 1, 0, none⟩) 4 4] : List Value).toArray 32 (0, 0)) := by
    have := heap_alloc_new ((w.alloc (.cells #[.int .u32 r0, .int .u32 r1, .int .u32 r2, .int .u32 r3, .int .u32 r4, .int .u32 r5, .int .u32 r6, .int .u32 r7, .int .u32 0] 25)).alloc (.cells #[.int .u8 8, .int .u8 x, .int .u8 y, .int .u8 z] 5)) (.cells #[.int .i64 2, .int .i64 0, .slice (some ⟨w.heap.size + 1, 0, none⟩) 4 4] 32)
    rwa [World.size_alloc, World.size_alloc] at this
  have hm0 : Mod No w (((w.alloc (.cells #[.int .u32 r0, .int .u32 r1, .int .u32 r2, .int .u32 r3, .int .u32 r4, .int .u32 r5, .int .u32 r6, .int .u32 r7, .int .u32 0] 25)).alloc (.cells #[.int .u8 8, .int .u8 x, .int .u8 y, .int .u8 z] 5)).alloc (.cells #[.int .i64 2, .int .i64 0, .slice (some ⟨w.heap.size + 1, 0, none⟩) 4 4] 32)) := by repeat (first | exact Mod.refl _ _ | apply Mod.alloc)
  have hb1 : w.heap.size ≤ w.heap.size + 1 := by omega
  generalize (((w.alloc (.cells #[.int .u32 r0, .int .u32 r1, .int .u32 r2, .int .u32 r3, .int .u32 r4, .int .u32 r5, .int .u32 r6, .int .u32 r7, .int .u32 0] 25)).alloc (.cells #[.int .u8 8, .int .u8 x, .int .u8 y, .int .u8 z] 5)).alloc (.cells #[.int .i64 2, .int .i64 0, .slice (some ⟨w.heap.size + 1, 0, none⟩) 4 4] 32)) = w1 at h0 h1 h2 hm0 ⊢
  generalize w.heap.size + 1 + 1 = g2 at h2 ⊢
  generalize w.heap.size + 1 = g1 at h1 h2 ⊢
  have hb0 : w.heap.size ≤ w.heap.size := Nat.le_refl _
  generalize hbe : w.heap.size = b0 at h0 hb0 ⊢
  have hks : KPutS w1 (some ⟨g2, 0, none⟩) [⟨2, 0, some ⟨g1, 0, none⟩, [((8 : Nat) : Int), x, y, z], 4⟩] := one_puts (bs := [((8 : Nat) : Int), x, y, z]) h1 h2 (by omega) (by omega) (fun v hv => by
    simp only [List.mem_cons, List.not_mem_nil, or_false] at hv
    rcases hv with rfl | rfl | rfl | rfl <;> omega) (by simp)
  refine (begin19_in (some ⟨g2, 0, none⟩) _ 1 w1 hks (by simp) (fun q => by cases q)).mono ?_
  rintro e w4 ⟨B, F, K, rfl, hrd⟩
  have hst := sums_step (some ⟨g1, 0, none⟩) 4 8 x y z (by omega) hx hy hz [r0, r1, r2, r3, r4, r5, r6, r7]
  have HP4 := hrd.two.p
  have h04 := hrd.mod.blk h0 (fun q => q)
  have HM4 := Lib.hid (hm0.trans hrd.mod)
  have hF4 := hrd.F
  have hmz := hm0.size
  clear hrd hks h1 h2 hm0 hw
  generalize begS [⟨2, 0, some ⟨g1, 0, none⟩, [((8 : Nat) : Int), x, y, z], 4⟩] = S at hst HP4
  have hstep := step_any 0 r0 r1 r2 r3 r4 r5 r6 r7 0 w4 HP4 (by omega) hreg
  rw [hst] at hstep
  have hp : w4.cell? ⟨b0, y, none⟩ = some (.int .u32 ([r0, r1, r2, r3, r4, r5, r6, r7].getD y 0)) := by
    rw [row_cell h04]
    rcases (show y = 0 ∨ y = 1 ∨ y = 2 ∨ y = 3 ∨ y = 4 ∨ y = 5 ∨ y = 6 ∨ y = 7 by omega) with rfl | rfl | rfl | rfl | rfl | rfl | rfl | rfl <;> rfl
  have hq : w4.cell? ⟨b0, z, none⟩ = some (.int .u32 ([r0, r1, r2, r3, r4, r5, r6, r7].getD z 0)) := by
    rw [row_cell h04]
    rcases (show z = 0 ∨ z = 1 ∨ z = 2 ∨ z = 3 ∨ z = 4 ∨ z = 5 ∨ z = 6 ∨ z = 7 by omega) with rfl | rfl | rfl | rfl | rfl | rfl | rfl | rfl <;> rfl
  have hpr := hreg _ (regs_mem (R := [r0, r1, r2, r3, r4, r5, r6, r7]) rfl hy)
  have hqr := hreg _ (regs_mem (R := [r0, r1, r2, r3, r4, r5, r6, r7]) rfl hz)
  generalize [r0, r1, r2, r3, r4, r5, r6, r7].getD y 0 = p at hp hpr hstep hst
  generalize [r0, r1, r2, r3, r4, r5, r6, r7].getD z 0 = q at hq hqr hstep hst
  obtain ⟨p0, p1⟩ := hpr
  obtain ⟨q0, q1⟩ := hqr
  have ev : opR ((8 : Nat) : Int) p q = bits .or .u32 p q := by rfl
  rw [ev] at hstep
  obtain ⟨s0, s1, s2, s3, s4, s5, s6, s7, hs⟩ := list8 (l := [r0, r1, r2, r3, r4, r5, r6, r7].set x (bits .or .u32 p q)) (by simp)
  rw [hs] at hstep
  have HSS := Lib.hid hs
  have HST := Lib.hid hstep
  have H04 := Lib.hid h04
  have c0 := row_cell h04 0
  have c1 := row_cell h04 1
  have c2 := row_cell h04 2
  have c3 := row_cell h04 3
  have c4 := row_cell h04 4
  have c5 := row_cell h04 5
  have c6 := row_cell h04 6
  have c7 := row_cell h04 7
  have c8 := row_cell h04 8
  simp only [List.getElem?_cons_zero, List.getElem?_cons_succ] at c0 c1 c2 c3 c4 c5 c6 c7 c8
  have kb0 : b0 < w1.heap.size := lt_of_blk h0
  have HBF : Hid (b0 ≠ F) := fun q => by omega
  have HBW : Hid (w.heap.size ≤ b0) := hbe ▸ Nat.le_refl _
  have HFW : Hid (w.heap.size ≤ F) := Nat.le_trans hmz hF4
  clear hs ev hstep hst h04 HP4 h0 kb0 hF4 hbe hb0 hb1 hreg hmz
  go_wp2_with fail
  refine HST.out.mono ?_
  rintro e w5 ⟨rfl, hm5, _⟩
  have H05 := Lib.hid (hm5.blk H04.out HBF.out)
  have HM5 := Lib.hid hm5
  clear c0 c1 c2 c3 c4 c5 c6 c7 c8 hp hq hm5
  dsimp only [cpuV, goesS, Stp.L, stopL]
  go_upto_region 32 with (fail)
  have h6 : ((w5.alloc (.cells #[.int .u32 s0, .int .u32 s1, .int .u32 s2, .int .u32 s3, .int .u32 s4, .int .u32 s5, .int .u32 s6, .int .u32 s7, .int .u32 4] 25)).alloc (.cells #[.int .i64 0, .int .u32 0, .int .u32 0, .int .u32 0, .int .u32 0, .int .u32 0, .int .u32 0, .int .i64 0] 37)).heap[b0]? = _ := blk_alloc (blk_alloc H05.out _) _
  have h7 : ((w5.alloc (.cells #[.int .u32 s0, .int .u32 s1, .int .u32 s2, .int .u32 s3, .int .u32 s4, .int .u32 s5, .int .u32 s6, .int .u32 s7, .int .u32 4] 25)).alloc (.cells #[.int .i64 0, .int .u32 0, .int .u32 0, .int .u32 0, .int .u32 0, .int .u32 0, .int .u32 0, .int .i64 0] 37)).heap[w5.heap.size]? = some (.cells ([.int .u32 s0, .int .u32 s1, .int .u32 s2, .int .u32 s3, .int .u32 s4, .int .u32 s5, .int .u32 s6, .int .u32 s7, .int .u32 4] : List Value).toArray 25 (0, 0)) := blk_alloc (heap_alloc_new w5 _) _
  have h8 : ((w5.alloc (.cells #[.int .u32 s0, .int .u32 s1, .int .u32 s2, .int .u32 s3, .int .u32 s4, .int .u32 s5, .int .u32 s6, .int .u32 s7, .int .u32 4] 25)).alloc (.cells #[.int .i64 0, .int .u32 0, .int .u32 0, .int .u32 0, .int .u32 0, .int .u32 0, .int .u32 0, .int .i64 0] 37)).heap[w5.heap.size + 1]? = some (.cells ([.int .i64 0, .int .u32 0, .int .u32 0, .int .u32 0, .int .u32 0, .int .u32 0, .int .u32 0, .int .i64 0] : List Value).toArray 37 (0, 0)) := by
    have := heap_alloc_new (w5.alloc (.cells #[.int .u32 s0, .int .u32 s1, .int .u32 s2, .int .u32 s3, .int .u32 s4, .int .u32 s5, .int .u32 s6, .int .u32 s7, .int .u32 4] 25)) (.cells #[.int .i64 0, .int .u32 0, .int .u32 0, .int .u32 0, .int .u32 0, .int .u32 0, .int .u32 0, .int .i64 0] 37)
    rwa [World.size_alloc] at this
  have hm6 : Mod No w5 ((w5.alloc (.cells #[.int .u32 s0, .int .u32 s1, .int .u32 s2, .int .u32 s3, .int .u32 s4, .int .u32 s5, .int .u32 s6, .int .u32 s7, .int .u32 4] 25)).alloc (.cells #[.int .i64 0, .int .u32 0, .int .u32 0, .int .u32 0, .int .u32 0, .int .u32 0, .int .u32 0, .int .i64 0] 37)) := ((Mod.refl No w5).alloc _).alloc _
  have kb : b0 < w5.heap.size := lt_of_blk H05.out
  have kn7 : w5.heap.size ≠ b0 := by omega
  have kn8 : w5.heap.size + 1 ≠ b0 := by omega
  generalize ((w5.alloc (.cells #[.int .u32 s0, .int .u32 s1, .int .u32 s2, .int .u32 s3, .int .u32 s4, .int .u32 s5, .int .u32 s6, .int .u32 s7, .int .u32 4] 25)).alloc (.cells #[.int .i64 0, .int .u32 0, .int .u32 0, .int .u32 0, .int .u32 0, .int .u32 0, .int .u32 0, .int .i64 0] 37)) = w6 at h6 h7 h8 hm6 ⊢
  generalize w5.heap.size + 1 = b8 at h8 kn8 ⊢
  generalize w5.heap.size = b7 at h7 kn7 ⊢
  have HH6 := Lib.hid h6
  have HH7 := Lib.hid h7
  have HH8 := Lib.hid h8
  have HM6 := Lib.hid hm6
  have cx : ∃ v, w6.cell? ⟨b0, x, none⟩ = some v := by
    rw [row_cell h6]
    rcases (show x = 0 ∨ x = 1 ∨ x = 2 ∨ x = 3 ∨ x = 4 ∨ x = 5 ∨ x = 6 ∨ x = 7 by omega) with rfl | rfl | rfl | rfl | rfl | rfl | rfl | rfl <;> exact ⟨_, rfl⟩
  obtain ⟨vx, cx⟩ := cx
  have c8 : w6.cell? ⟨b0, 8, none⟩ = some (.int .u32 0) := row_cell h6 8
  have fx : w6.frozen? ⟨b0, x, none⟩ = false := row_free h6 x
  have f8 : w6.frozen? ⟨b0, 8, none⟩ = false := row_free h6 8
  have kb6 : b0 < w6.heap.size := lt_of_blk h6
  have kx8 : x ≠ 8 := by omega
  clear h6 h7 h8 hm6 kb
  go_upto_region 34 with (fail)
  have g6 : ((w6.setCell ⟨b0, x, none⟩ (.int .u32 (bits .or .u32 p q))).setCell ⟨b0, 8, none⟩ (.int .u32 4)).heap[b0]? = some (.cells ([.int .u32 s0, .int .u32 s1, .int .u32 s2, .int .u32 s3, .int .u32 s4, .int .u32 s5, .int .u32 s6, .int .u32 s7, .int .u32 4] : List Value).toArray 25 (0, 0)) := by
    have h := row_set (row_set HH6.out x (.int .u32 (bits .or .u32 p q))) 8 (.int .u32 4)
    rw [set_cells8 hx HSS.out] at h
    exact h
  have g7 : ((w6.setCell ⟨b0, x, none⟩ (.int .u32 (bits .or .u32 p q))).setCell ⟨b0, 8, none⟩ (.int .u32 4)).heap[b7]? = _ := blk_setCell (blk_setCell HH7.out kn7 _) kn7 _
  have g8 : ((w6.setCell ⟨b0, x, none⟩ (.int .u32 (bits .or .u32 p q))).setCell ⟨b0, 8, none⟩ (.int .u32 4)).heap[b8]? = _ := blk_setCell (blk_setCell HH8.out kn8 _) kn8 _
  have HME : Hid (Mod No w ((w6.setCell ⟨b0, x, none⟩ (.int .u32 (bits .or .u32 p q))).setCell ⟨b0, 8, none⟩ (.int .u32 4))) := Lib.hid ((((HM4.out.step HM5.out (fun i hi q => by have := HFW.out; have : i = F := q; omega)).trans HM6.out).new HBW.out x _).new HBW.out 8 _)
  generalize ((w6.setCell ⟨b0, x, none⟩ (.int .u32 (bits .or .u32 p q))).setCell ⟨b0, 8, none⟩ (.int .u32 4)) = w7 at g6 g7 g8 HME ⊢
  have a0 := row_cell g6 0
  have a1 := row_cell g6 1
  have a2 := row_cell g6 2
  have a3 := row_cell g6 3
  have a4 := row_cell g6 4
  have a5 := row_cell g6 5
  have a6 := row_cell g6 6
  have a7 := row_cell g6 7
  have a8 := row_cell g6 8
  have d0 := row_cell g7 0
  have d1 := row_cell g7 1
  have d2 := row_cell g7 2
  have d3 := row_cell g7 3
  have d4 := row_cell g7 4
  have d5 := row_cell g7 5
  have d6 := row_cell g7 6
  have d7 := row_cell g7 7
  have d8 := row_cell g7 8
  have e0 := row_cell g8 0
  have e1 := row_cell g8 1
  have e2 := row_cell g8 2
  have e3 := row_cell g8 3
  have e4 := row_cell g8 4
  have e5 := row_cell g8 5
  have e6 := row_cell g8 6
  have e7 := row_cell g8 7
  simp only [List.getElem?_cons_zero, List.getElem?_cons_succ] at a0 a1 a2 a3 a4 a5 a6 a7 a8 d0 d1 d2 d3 d4 d5 d6 d7 d8 e0 e1 e2 e3 e4 e5 e6 e7
  have he2 : ∀ w, (Op.equalIn 9999 23 (.agg #[.int .u32 s0, .int .u32 s1, .int .u32 s2, .int .u32 s3, .int .u32 s4, .int .u32 s5, .int .u32 s6, .int .u32 s7]) (.agg #[.int .u32 s0, .int .u32 s1, .int .u32 s2, .int .u32 s3, .int .u32 s4, .int .u32 s5, .int .u32 s6, .int .u32 s7])).run Try.prog w = .ok true w := fun w => eq8 9997 s0 s1 s2 s3 s4 s5 s6 s7 w
  have he3 : ∀ w, (Op.equalIn 9999 34 (.agg #[.int .u32 0, .int .u32 0, .int .u32 0, .int .u32 0, .int .u32 0]) (.agg #[.int .u32 0, .int .u32 0, .int .u32 0, .int .u32 0, .int .u32 0])).run Try.prog w = .ok true w := fun w => eq5 9997 0 0 0 0 0 w
  clear g6 g7 g8 cx c8 fx f8 kb6 kx8 HSS HH6 HH7 HH8
  go_wp2
  go_ret
  exact ⟨rfl, HME.out⟩


set_option maxHeartbeats 8000000 in
theorem sums_5 (m x y z : Nat) (op a b c : Int) (hm : m = 5) (em : op.tmod 9 = m) (ex : a.tmod 8 = x) (ey : b.tmod 8 = y) (ez : c.tmod 8 = z) (hx : x < 8) (hy : y < 8) (hz : z < 8)
    (r0 r1 r2 r3 r4 r5 r6 r7 r8 : Int) (hreg : ∀ x ∈ [r0, r1, r2, r3, r4, r5, r6, r7], 0 ≤ x ∧ x ≤ 4294967295) (w : World) :
    Calls Try.prog 3 #[.int .u8 op, .int .u8 a, .int .u8 b, .int .u8 c, .agg #[.int .u32 r0, .int .u32 r1, .int .u32 r2, .int .u32 r3, .int .u32 r4, .int .u32 r5, .int .u32 r6, .int .u32 r7, .int .u32 r8]] w fun e w' => e = .returned (.bool true) ∧ Mod No w w' := by
  subst hm
  go_enter Try.func3, Try.ntmps3
  have hw : (w.alloc (.cells #[.int .u32 r0, .int .u32 r1, .int .u32 r2, .int .u32 r3, .int .u32 r4, .int .u32 r5, .int .u32 r6, .int .u32 r7, .int .u32 r8] 25)).heap[w.heap.size]? = _ := heap_alloc_new w _
  have kx : (x : Int) < 8 := by omega
  have ky : (y : Int) < 8 := by omega
  have kz : (z : Int) < 8 := by omega
  go_wp2_with fail
  have h0 : (((w.alloc (.cells #[.int .u32 r0, .int .u32 r1, .int .u32 r2, .int .u32 r3, .int .u32 r4, .int .u32 r5, .int .u32 r6, .int .u32 r7, .int .u32 0] 25)).alloc (.cells #[.int .u8 9, .int .u8 x, .int .u8 y, .int .u8 z] 5)).alloc (.cells #[.int .i64 2, .int .i64 0, .slice (some ⟨w.heap.size + 1, 0, none⟩) 4 4] 32)).heap[w.heap.size]? = some (.cells ([.int .u32 r0, .int .u32 r1, .int .u32 r2, .int .u32 r3, .int .u32 r4, .int .u32 r5, .int .u32 r6, .int .u32 r7, .int .u32 0] : List Value).toArray 25 (0, 0)) := blk_alloc (blk_alloc (heap_alloc_new w _) _) _
  have h1 : (((w.alloc (.cells #[.int .u32 r0, .int .u32 r1, .int .u32 r2, .int .u32 r3, .int .u32 r4, .int .u32 r5, .int .u32 r6, .int .u32 r7, .int .u32 0] 25)).alloc (.cells #[.int .u8 9, .int .u8 x, .int .u8 y, .int .u8 z] 5)).alloc (.cells #[.int .i64 2, .int .i64 0, .slice (some ⟨w.heap.size + 1, 0, none⟩) 4 4] 32)).heap[w.heap.size + 1]? = some (.cells ([.int .u8 9, .int .u8 x, .int .u8 y, .int .u8 z] : List Value).toArray 5 (0, 0)) := by
    have := blk_alloc (heap_alloc_new (w.alloc (.cells #[.int .u32 r0, .int .u32 r1, .int .u32 r2, .int .u32 r3, .int .u32 r4, .int .u32 r5, .int .u32 r6, .int .u32 r7, .int .u32 0] 25)) (.cells #[.int .u8 9, .int .u8 x, .int .u8 y, .int .u8 z] 5)) (.cells #[.int .i64 2, .int .i64 0, .slice (some ⟨w.heap.size + 1, 0, none⟩) 4 4] 32)
    rwa [World.size_alloc] at this
  have h2 : (((w.alloc (.cells #[.int .u32 r0, .int .u32 r1, .int .u32 r2, .int .u32 r3, .int .u32 r4, .int .u32 r5, .int .u32 r6, .int .u32 r7, .int .u32 0] 25)).alloc (.cells #[.int .u8 9, .int .u8 x, .int .u8 y, .int .u8 z] 5)).alloc (.cells #[.int .i64 2, .int .i64 0, .slice (some ⟨w.heap.size + 1, 0, none⟩) 4 4] 32)).heap[w.heap.size + 1 + 1]? = some (.cells ([.int .i64 2, .int .i64 0, .slice (some ⟨w.heap.size + 1, 0, none⟩) 4 4] : List Value).toArray 32 (0, 0)) := by
    have := heap_alloc_new ((w.alloc (.cells #[.int .u32 r0, .int .u32 r1, .int .u32 r2, .int .u32 r3, .int .u32 r4, .int .u32 r5, .int .u32 r6, .int .u32 r7, .int .u32 0] 25)).alloc (.cells #[.int .u8 9, .int .u8 x, .int .u8 y, .int .u8 z] 5)) (.cells #[.int .i64 2, .int .i64 0, .slice (some ⟨w.heap.size + 1, 0, none⟩) 4 4] 32)
    rwa [World.size_alloc, World.size_alloc] at this
  have hm0 : Mod No w (((w.alloc (.cells #[.int .u32 r0, .int .u32 r1, .int .u32 r2, .int .u32 r3, .int .u32 r4, .int .u32 r5, .int .u32 r6, .int .u32 r7, .int .u32 0] 25)).alloc (.cells #[.int .u8 9, .int .u8 x, .int .u8 y, .int .u8 z] 5)).alloc (.cells #[.int .i64 2, .int .i64 0, .slice (some ⟨w.heap.size + 1, 0, none⟩) 4 4] 32)) := by repeat (first | exact Mod.refl _ _ | apply Mod.alloc)
  have hb1 : w.heap.size ≤ w.heap.size + 1 := by omega
  generalize (((w.alloc (.cells #[.int .u32 r0, .int .u32 r1, .int .u32 r2, .int .u32 r3, .int .u32 r4, .int .u32 r5, .int .u32 r6, .int .u32 r7, .int .u32 0] 25)).alloc (.cells #[.int .u8 9, .int .u8 x, .int .u8 y, .int .u8 z] 5)).alloc (.cells #[.int .i64 2, .int .i64 0, .slice (some ⟨w.heap.size + 1, 0, none⟩) 4 4] 32)) = w1 at h0 h1 h2 hm0 ⊢
  generalize w.heap.size + 1 + 1 = g2 at h2 ⊢
  generalize w.heap.size + 1 = g1 at h1 h2 ⊢
  have hb0 : w.heap.size ≤ w.heap.size := Nat.le_refl _
  generalize hbe : w.heap.size = b0 at h0 hb0 ⊢
  have hks : KPutS w1 (some ⟨g2, 0, none⟩) [⟨2, 0, some ⟨g1, 0, none⟩, [((9 : Nat) : Int), x, y, z], 4⟩] := one_puts (bs := [((9 : Nat) : Int), x, y, z]) h1 h2 (by omega) (by omega) (fun v hv => by
    simp only [List.mem_cons, List.not_mem_nil, or_false] at hv
    rcases hv with rfl | rfl | rfl | rfl <;> omega) (by simp)
  refine (begin19_in (some ⟨g2, 0, none⟩) _ 1 w1 hks (by simp) (fun q => by cases q)).mono ?_
  rintro e w4 ⟨B, F, K, rfl, hrd⟩
  have hst := sums_step (some ⟨g1, 0, none⟩) 4 9 x y z (by omega) hx hy hz [r0, r1, r2, r3, r4, r5, r6, r7]
  have HP4 := hrd.two.p
  have h04 := hrd.mod.blk h0 (fun q => q)
  have HM4 := Lib.hid (hm0.trans hrd.mod)
  have hF4 := hrd.F
  have hmz := hm0.size
  clear hrd hks h1 h2 hm0 hw
  generalize begS [⟨2, 0, some ⟨g1, 0, none⟩, [((9 : Nat) : Int), x, y, z], 4⟩] = S at hst HP4
  have hstep := step_any 0 r0 r1 r2 r3 r4 r5 r6 r7 0 w4 HP4 (by omega) hreg
  rw [hst] at hstep
  have hp : w4.cell? ⟨b0, y, none⟩ = some (.int .u32 ([r0, r1, r2, r3, r4, r5, r6, r7].getD y 0)) := by
    rw [row_cell h04]
    rcases (show y = 0 ∨ y = 1 ∨ y = 2 ∨ y = 3 ∨ y = 4 ∨ y = 5 ∨ y = 6 ∨ y = 7 by omega) with rfl | rfl | rfl | rfl | rfl | rfl | rfl | rfl <;> rfl
  have hq : w4.cell? ⟨b0, z, none⟩ = some (.int .u32 ([r0, r1, r2, r3, r4, r5, r6, r7].getD z 0)) := by
    rw [row_cell h04]
    rcases (show z = 0 ∨ z = 1 ∨ z = 2 ∨ z = 3 ∨ z = 4 ∨ z = 5 ∨ z = 6 ∨ z = 7 by omega) with rfl | rfl | rfl | rfl | rfl | rfl | rfl | rfl <;> rfl
  have hpr := hreg _ (regs_mem (R := [r0, r1, r2, r3, r4, r5, r6, r7]) rfl hy)
  have hqr := hreg _ (regs_mem (R := [r0, r1, r2, r3, r4, r5, r6, r7]) rfl hz)
  generalize [r0, r1, r2, r3, r4, r5, r6, r7].getD y 0 = p at hp hpr hstep hst
  generalize [r0, r1, r2, r3, r4, r5, r6, r7].getD z 0 = q at hq hqr hstep hst
  obtain ⟨p0, p1⟩ := hpr
  obtain ⟨q0, q1⟩ := hqr
  have ev : opR ((9 : Nat) : Int) p q = bits .xor .u32 p q := by rfl
  rw [ev] at hstep
  obtain ⟨s0, s1, s2, s3, s4, s5, s6, s7, hs⟩ := list8 (l := [r0, r1, r2, r3, r4, r5, r6, r7].set x (bits .xor .u32 p q)) (by simp)
  rw [hs] at hstep
  have HSS := Lib.hid hs
  have HST := Lib.hid hstep
  have H04 := Lib.hid h04
  have c0 := row_cell h04 0
  have c1 := row_cell h04 1
  have c2 := row_cell h04 2
  have c3 := row_cell h04 3
  have c4 := row_cell h04 4
  have c5 := row_cell h04 5
  have c6 := row_cell h04 6
  have c7 := row_cell h04 7
  have c8 := row_cell h04 8
  simp only [List.getElem?_cons_zero, List.getElem?_cons_succ] at c0 c1 c2 c3 c4 c5 c6 c7 c8
  have kb0 : b0 < w1.heap.size := lt_of_blk h0
  have HBF : Hid (b0 ≠ F) := fun q => by omega
  have HBW : Hid (w.heap.size ≤ b0) := hbe ▸ Nat.le_refl _
  have HFW : Hid (w.heap.size ≤ F) := Nat.le_trans hmz hF4
  clear hs ev hstep hst h04 HP4 h0 kb0 hF4 hbe hb0 hb1 hreg hmz
  go_wp2_with fail
  refine HST.out.mono ?_
  rintro e w5 ⟨rfl, hm5, _⟩
  have H05 := Lib.hid (hm5.blk H04.out HBF.out)
  have HM5 := Lib.hid hm5
  clear c0 c1 c2 c3 c4 c5 c6 c7 c8 hp hq hm5
  dsimp only [cpuV, goesS, Stp.L, stopL]
  go_upto_region 32 with (fail)
  have h6 : ((w5.alloc (.cells #[.int .u32 s0, .int .u32 s1, .int .u32 s2, .int .u32 s3, .int .u32 s4, .int .u32 s5, .int .u32 s6, .int .u32 s7, .int .u32 4] 25)).alloc (.cells #[.int .i64 0, .int .u32 0, .int .u32 0, .int .u32 0, .int .u32 0, .int .u32 0, .int .u32 0, .int .i64 0] 37)).heap[b0]? = _ := blk_alloc (blk_alloc H05.out _) _
  have h7 : ((w5.alloc (.cells #[.int .u32 s0, .int .u32 s1, .int .u32 s2, .int .u32 s3, .int .u32 s4, .int .u32 s5, .int .u32 s6, .int .u32 s7, .int .u32 4] 25)).alloc (.cells #[.int .i64 0, .int .u32 0, .int .u32 0, .int .u32 0, .int .u32 0, .int .u32 0, .int .u32 0, .int .i64 0] 37)).heap[w5.heap.size]? = some (.cells ([.int .u32 s0, .int .u32 s1, .int .u32 s2, .int .u32 s3, .int .u32 s4, .int .u32 s5, .int .u32 s6, .int .u32 s7, .int .u32 4] : List Value).toArray 25 (0, 0)) := blk_alloc (heap_alloc_new w5 _) _
  have h8 : ((w5.alloc (.cells #[.int .u32 s0, .int .u32 s1, .int .u32 s2, .int .u32 s3, .int .u32 s4, .int .u32 s5, .int .u32 s6, .int .u32 s7, .int .u32 4] 25)).alloc (.cells #[.int .i64 0, .int .u32 0, .int .u32 0, .int .u32 0, .int .u32 0, .int .u32 0, .int .u32 0, .int .i64 0] 37)).heap[w5.heap.size + 1]? = some (.cells ([.int .i64 0, .int .u32 0, .int .u32 0, .int .u32 0, .int .u32 0, .int .u32 0, .int .u32 0, .int .i64 0] : List Value).toArray 37 (0, 0)) := by
    have := heap_alloc_new (w5.alloc (.cells #[.int .u32 s0, .int .u32 s1, .int .u32 s2, .int .u32 s3, .int .u32 s4, .int .u32 s5, .int .u32 s6, .int .u32 s7, .int .u32 4] 25)) (.cells #[.int .i64 0, .int .u32 0, .int .u32 0, .int .u32 0, .int .u32 0, .int .u32 0, .int .u32 0, .int .i64 0] 37)
    rwa [World.size_alloc] at this
  have hm6 : Mod No w5 ((w5.alloc (.cells #[.int .u32 s0, .int .u32 s1, .int .u32 s2, .int .u32 s3, .int .u32 s4, .int .u32 s5, .int .u32 s6, .int .u32 s7, .int .u32 4] 25)).alloc (.cells #[.int .i64 0, .int .u32 0, .int .u32 0, .int .u32 0, .int .u32 0, .int .u32 0, .int .u32 0, .int .i64 0] 37)) := ((Mod.refl No w5).alloc _).alloc _
  have kb : b0 < w5.heap.size := lt_of_blk H05.out
  have kn7 : w5.heap.size ≠ b0 := by omega
  have kn8 : w5.heap.size + 1 ≠ b0 := by omega
  generalize ((w5.alloc (.cells #[.int .u32 s0, .int .u32 s1, .int .u32 s2, .int .u32 s3, .int .u32 s4, .int .u32 s5, .int .u32 s6, .int .u32 s7, .int .u32 4] 25)).alloc (.cells #[.int .i64 0, .int .u32 0, .int .u32 0, .int .u32 0, .int .u32 0, .int .u32 0, .int .u32 0, .int .i64 0] 37)) = w6 at h6 h7 h8 hm6 ⊢
  generalize w5.heap.size + 1 = b8 at h8 kn8 ⊢
  generalize w5.heap.size = b7 at h7 kn7 ⊢
  have HH6 := Lib.hid h6
  have HH7 := Lib.hid h7
  have HH8 := Lib.hid h8
  have HM6 := Lib.hid hm6
  have cx : ∃ v, w6.cell? ⟨b0, x, none⟩ = some v := by
    rw [row_cell h6]
    rcases (show x = 0 ∨ x = 1 ∨ x = 2 ∨ x = 3 ∨ x = 4 ∨ x = 5 ∨ x = 6 ∨ x = 7 by omega) with rfl | rfl | rfl | rfl | rfl | rfl | rfl | rfl <;> exact ⟨_, rfl⟩
  obtain ⟨vx, cx⟩ := cx
  have c8 : w6.cell? ⟨b0, 8, none⟩ = some (.int .u32 0) := row_cell h6 8
  have fx : w6.frozen? ⟨b0, x, none⟩ = false := row_free h6 x
  have f8 : w6.frozen? ⟨b0, 8, none⟩ = false := row_free h6 8
  have kb6 : b0 < w6.heap.size := lt_of_blk h6
  have kx8 : x ≠ 8 := by omega
  clear h6 h7 h8 hm6 kb
  go_upto_region 34 with (fail)
  have g6 : ((w6.setCell ⟨b0, x, none⟩ (.int .u32 (bits .xor .u32 p q))).setCell ⟨b0, 8, none⟩ (.int .u32 4)).heap[b0]? = some (.cells ([.int .u32 s0, .int .u32 s1, .int .u32 s2, .int .u32 s3, .int .u32 s4, .int .u32 s5, .int .u32 s6, .int .u32 s7, .int .u32 4] : List Value).toArray 25 (0, 0)) := by
    have h := row_set (row_set HH6.out x (.int .u32 (bits .xor .u32 p q))) 8 (.int .u32 4)
    rw [set_cells8 hx HSS.out] at h
    exact h
  have g7 : ((w6.setCell ⟨b0, x, none⟩ (.int .u32 (bits .xor .u32 p q))).setCell ⟨b0, 8, none⟩ (.int .u32 4)).heap[b7]? = _ := blk_setCell (blk_setCell HH7.out kn7 _) kn7 _
  have g8 : ((w6.setCell ⟨b0, x, none⟩ (.int .u32 (bits .xor .u32 p q))).setCell ⟨b0, 8, none⟩ (.int .u32 4)).heap[b8]? = _ := blk_setCell (blk_setCell HH8.out kn8 _) kn8 _
  have HME : Hid (Mod No w ((w6.setCell ⟨b0, x, none⟩ (.int .u32 (bits .xor .u32 p q))).setCell ⟨b0, 8, none⟩ (.int .u32 4))) := Lib.hid ((((HM4.out.step HM5.out (fun i hi q => by have := HFW.out; have : i = F := q; omega)).trans HM6.out).new HBW.out x _).new HBW.out 8 _)
  generalize ((w6.setCell ⟨b0, x, none⟩ (.int .u32 (bits .xor .u32 p q))).setCell ⟨b0, 8, none⟩ (.int .u32 4)) = w7 at g6 g7 g8 HME ⊢
  have a0 := row_cell g6 0
  have a1 := row_cell g6 1
  have a2 := row_cell g6 2
  have a3 := row_cell g6 3
  have a4 := row_cell g6 4
  have a5 := row_cell g6 5
  have a6 := row_cell g6 6
  have a7 := row_cell g6 7
  have a8 := row_cell g6 8
  have d0 := row_cell g7 0
  have d1 := row_cell g7 1
  have d2 := row_cell g7 2
  have d3 := row_cell g7 3
  have d4 := row_cell g7 4
  have d5 := row_cell g7 5
  have d6 := row_cell g7 6
  have d7 := row_cell g7 7
  have d8 := row_cell g7 8
  have e0 := row_cell g8 0
  have e1 := row_cell g8 1
  have e2 := row_cell g8 2
  have e3 := row_cell g8 3
  have e4 := row_cell g8 4
  have e5 := row_cell g8 5
  have e6 := row_cell g8 6
  have e7 := row_cell g8 7
  simp only [List.getElem?_cons_zero, List.getElem?_cons_succ] at a0 a1 a2 a3 a4 a5 a6 a7 a8 d0 d1 d2 d3 d4 d5 d6 d7 d8 e0 e1 e2 e3 e4 e5 e6 e7
  have he2 : ∀ w, (Op.equalIn 9999 23 (.agg #[.int .u32 s0, .int .u32 s1, .int .u32 s2, .int .u32 s3, .int .u32 s4, .int .u32 s5, .int .u32 s6, .int .u32 s7]) (.agg #[.int .u32 s0, .int .u32 s1, .int .u32 s2, .int .u32 s3, .int .u32 s4, .int .u32 s5, .int .u32 s6, .int .u32 s7])).run Try.prog w = .ok true w := fun w => eq8 9997 s0 s1 s2 s3 s4 s5 s6 s7 w
  have he3 : ∀ w, (Op.equalIn 9999 34 (.agg #[.int .u32 0, .int .u32 0, .int .u32 0, .int .u32 0, .int .u32 0]) (.agg #[.int .u32 0, .int .u32 0, .int .u32 0, .int .u32 0, .int .u32 0])).run Try.prog w = .ok true w := fun w => eq5 9997 0 0 0 0 0 w
  clear g6 g7 g8 cx c8 fx f8 kb6 kx8 HSS HH6 HH7 HH8
  go_wp2
  go_ret
  exact ⟨rfl, HME.out⟩


end Go.Proofs.Ytlbebneblmgdcaa
