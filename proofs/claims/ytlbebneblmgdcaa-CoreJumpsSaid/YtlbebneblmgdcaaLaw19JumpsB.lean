/- CoreJumps, way by way: the walk. (Printed by wip/gen_jumps.py.) -/
import Derived.Test.YtlbebneblmgdcaaLaw19Jumps
namespace Go.Proofs.Ytlbebneblmgdcaa
open Go.RowKit
set_option maxRecDepth 100000

set_option maxHeartbeats 8000000 in
theorem jumps_fzm (x : Nat) (a k n nb nc : Int) (ex : a.tmod 8 = x) (hx : x < 8) (hk : -32768 ≤ k ∧ k ≤ 32767) (hn : n = k % 65536) (hnb : nb = n % 256) (hnc : nc = n / 256) (hs : 12 + 4 * k < 0)
    (r0 r1 r2 r3 r4 r5 r6 r7 r8 : Int) (hz : [r0, r1, r2, r3, r4, r5, r6, r7].getD x 0 = 0) (hreg : ∀ x ∈ [r0, r1, r2, r3, r4, r5, r6, r7], 0 ≤ x ∧ x ≤ 4294967295) (w : World) :
    Calls Try.prog 4 #[.bool false, .int .u8 a, .int .i16 k, .agg #[.int .u32 r0, .int .u32 r1, .int .u32 r2, .int .u32 r3, .int .u32 r4, .int .u32 r5, .int .u32 r6, .int .u32 r7, .int .u32 r8]] w fun e w' => e = .returned (.bool true) ∧ Mod No w w' := by
  have hst := fun (q : Option Addr) (c : Nat) => jumps_step false q c x n k hx hk hn [r0, r1, r2, r3, r4, r5, r6, r7]
  rw [← hnb, ← hnc] at hst
  have kx : (x : Int) < 8 := by omega
  have hw16 : IntKind.u16.wrap k = n := by rw [hn]; simp [IntKind.wrap, IntKind.bits, IntKind.signed]
  have hb0 : n.tmod 256 = nb := by rw [hnb, Int.tmod_eq_emod_of_nonneg (by omega)]
  have hc0 : n.tdiv 256 = nc := by rw [hnc, Int.tdiv_eq_ediv_of_nonneg (by omega)]
  have hbw : IntKind.u8.wrap nb = nb := IntWalk.u8_in _ (by omega)
  have hcw : IntKind.u8.wrap nc = nc := IntWalk.u8_in _ (by omega)
  have hc16 : IntKind.u16.wrap nc = nc := IntWalk.u16_in _ (by omega)
  have hc256 : nc % 256 = nc := by omega
  have hw1 : IntKind.i64.wrap (4 * k) = 4 * k := IntWalk.i64_in _ (by omega)
  have hw2 : IntKind.i64.wrap (12 + 4 * k) = 12 + 4 * k := IntWalk.i64_in _ (by omega)
  have hw3 : IntKind.i64.wrap k = k := IntWalk.i64_in _ (by omega)
  have hw4 : wrap64 (12 + 4 * k + 1048576) = 12 + 4 * k + 1048576 := wrap64_in _ (by omega)
  have hm32 : (12 + 4 * k + 1048576) % 4294967296 = 12 + 4 * k + 1048576 := by omega
  have htm : (12 + 4 * k).tmod 1048576 = 12 + 4 * k := tmod_small _ (by omega)
  have HNR : Hid ((0 ≤ nb ∧ nb ≤ 255) ∧ (0 ≤ nc ∧ nc ≤ 255)) := ⟨by omega, by omega⟩
  have HK := Lib.hid hk
  clear hn hnb hnc hk
  go_enter Try.func4, Try.ntmps4
  go_wp2_with fail
  have h0 : (((w.alloc (.cells #[.int .u32 r0, .int .u32 r1, .int .u32 r2, .int .u32 r3, .int .u32 r4, .int .u32 r5, .int .u32 r6, .int .u32 r7, .int .u32 8] 25)).alloc (.cells #[.int .u8 18, .int .u8 x, .int .u8 nb, .int .u8 nc] 5)).alloc (.cells #[.int .i64 2, .int .i64 8, .slice (some ⟨w.heap.size + 1, 0, none⟩) 4 4] 32)).heap[w.heap.size]? = some (.cells ([.int .u32 r0, .int .u32 r1, .int .u32 r2, .int .u32 r3, .int .u32 r4, .int .u32 r5, .int .u32 r6, .int .u32 r7, .int .u32 8] : List Value).toArray 25 (0, 0)) := blk_alloc (blk_alloc (heap_alloc_new w _) _) _
  have h1 : (((w.alloc (.cells #[.int .u32 r0, .int .u32 r1, .int .u32 r2, .int .u32 r3, .int .u32 r4, .int .u32 r5, .int .u32 r6, .int .u32 r7, .int .u32 8] 25)).alloc (.cells #[.int .u8 18, .int .u8 x, .int .u8 nb, .int .u8 nc] 5)).alloc (.cells #[.int .i64 2, .int .i64 8, .slice (some ⟨w.heap.size + 1, 0, none⟩) 4 4] 32)).heap[w.heap.size + 1]? = some (.cells (([((18 : Nat) : Int), x, nb, nc].map (Value.int .u8))).toArray 5 (0, 0)) := by
    have := blk_alloc (heap_alloc_new (w.alloc (.cells #[.int .u32 r0, .int .u32 r1, .int .u32 r2, .int .u32 r3, .int .u32 r4, .int .u32 r5, .int .u32 r6, .int .u32 r7, .int .u32 8] 25)) (.cells #[.int .u8 18, .int .u8 x, .int .u8 nb, .int .u8 nc] 5)) (.cells #[.int .i64 2, .int .i64 8, .slice (some ⟨w.heap.size + 1, 0, none⟩) 4 4] 32)
    rwa [World.size_alloc] at this
  have h2 : (((w.alloc (.cells #[.int .u32 r0, .int .u32 r1, .int .u32 r2, .int .u32 r3, .int .u32 r4, .int .u32 r5, .int .u32 r6, .int .u32 r7, .int .u32 8] 25)).alloc (.cells #[.int .u8 18, .int .u8 x, .int .u8 nb, .int .u8 nc] 5)).alloc (.cells #[.int .i64 2, .int .i64 8, .slice (some ⟨w.heap.size + 1, 0, none⟩) 4 4] 32)).heap[w.heap.size + 1 + 1]? = some (.cells ([.int .i64 2, .int .i64 8, .slice (some ⟨w.heap.size + 1, 0, none⟩) 4 4] : List Value).toArray 32 (0, 0)) := by
    have := heap_alloc_new ((w.alloc (.cells #[.int .u32 r0, .int .u32 r1, .int .u32 r2, .int .u32 r3, .int .u32 r4, .int .u32 r5, .int .u32 r6, .int .u32 r7, .int .u32 8] 25)).alloc (.cells #[.int .u8 18, .int .u8 x, .int .u8 nb, .int .u8 nc] 5)) (.cells #[.int .i64 2, .int .i64 8, .slice (some ⟨w.heap.size + 1, 0, none⟩) 4 4] 32)
    rwa [World.size_alloc, World.size_alloc] at this
  have hm0 : Mod No w (((w.alloc (.cells #[.int .u32 r0, .int .u32 r1, .int .u32 r2, .int .u32 r3, .int .u32 r4, .int .u32 r5, .int .u32 r6, .int .u32 r7, .int .u32 8] 25)).alloc (.cells #[.int .u8 18, .int .u8 x, .int .u8 nb, .int .u8 nc] 5)).alloc (.cells #[.int .i64 2, .int .i64 8, .slice (some ⟨w.heap.size + 1, 0, none⟩) 4 4] 32)) := by repeat (first | exact Mod.refl _ _ | apply Mod.alloc)
  generalize (((w.alloc (.cells #[.int .u32 r0, .int .u32 r1, .int .u32 r2, .int .u32 r3, .int .u32 r4, .int .u32 r5, .int .u32 r6, .int .u32 r7, .int .u32 8] 25)).alloc (.cells #[.int .u8 18, .int .u8 x, .int .u8 nb, .int .u8 nc] 5)).alloc (.cells #[.int .i64 2, .int .i64 8, .slice (some ⟨w.heap.size + 1, 0, none⟩) 4 4] 32)) = w1 at h0 h1 h2 hm0 ⊢
  generalize w.heap.size + 1 + 1 = g2 at h2 ⊢
  generalize w.heap.size + 1 = g1 at h1 h2 ⊢
  generalize hbe : w.heap.size = b0 at h0 ⊢
  have hks : KPutS w1 (some ⟨g2, 0, none⟩) [⟨2, 8, some ⟨g1, 0, none⟩, [((18 : Nat) : Int), x, nb, nc], 4⟩] := one_puts (bs := [((18 : Nat) : Int), x, nb, nc]) h1 h2 (by omega) (by omega) (fun v hv => by
    have h3 := HNR.out
    simp only [List.mem_cons, List.not_mem_nil, or_false] at hv
    rcases hv with rfl | rfl | rfl | rfl <;> omega) (by simp)
  refine (begin19_in (some ⟨g2, 0, none⟩) _ 1 w1 hks (by simp) (fun q => by cases q)).mono ?_
  rintro e w4 ⟨B, F, K, rfl, hrd⟩
  have hst2 : stepR (begS [⟨2, 8, some ⟨g1, 0, none⟩, [((18 : Nat) : Int), x, nb, nc], 4⟩]) 0 [r0, r1, r2, r3, r4, r5, r6, r7] 8 = ⟨[r0, r1, r2, r3, r4, r5, r6, r7], (12 + 4 * k + 1048576), goesS, begS [⟨2, 8, some ⟨g1, 0, none⟩, [((18 : Nat) : Int), x, nb, nc], 4⟩]⟩ := by
    have := hst (some ⟨g1, 0, none⟩) 4
    have hkk := HK.out
    rw [show (if ([r0, r1, r2, r3, r4, r5, r6, r7].getD x 0 != 0) = false then (12 + 4 * k) % 1048576 else 12) = (12 + 4 * k + 1048576) from by
      rw [if_pos (by simpa using hz)]; omega] at this
    exact this
  have HP4 := hrd.two.p
  have h04 := hrd.mod.blk h0 (fun q => q)
  have HM4 := Lib.hid (hm0.trans hrd.mod)
  have hF4 := hrd.F
  have hmz := hm0.size
  clear hrd hks h1 h2 hm0 hst
  generalize begS [⟨2, 8, some ⟨g1, 0, none⟩, [((18 : Nat) : Int), x, nb, nc], 4⟩] = S at hst2 HP4
  have hstep : ∀ w', Mod No w4 w' → Calls Try.prog 6 #[.pointer (some ⟨B, 0, none⟩), .int .i64 0, .agg #[.int .u32 r0, .int .u32 r1, .int .u32 r2, .int .u32 r3, .int .u32 r4, .int .u32 r5, .int .u32 r6, .int .u32 r7, .int .u32 8]] w' (StepPost B F ⟨[r0, r1, r2, r3, r4, r5, r6, r7], (12 + 4 * k + 1048576), goesS, S⟩ w') := fun w' hm' => by
    have := step_any 0 r0 r1 r2 r3 r4 r5 r6 r7 8 w' (HP4.kept hm' (fun q => q) (fun q => q)) (by omega) hreg
    rwa [hst2] at this
  have hp : w4.cell? ⟨b0, x, none⟩ = some (.int .u32 ([r0, r1, r2, r3, r4, r5, r6, r7].getD x 0)) := by
    rw [row_cell h04]
    rcases (show x = 0 ∨ x = 1 ∨ x = 2 ∨ x = 3 ∨ x = 4 ∨ x = 5 ∨ x = 6 ∨ x = 7 by omega) with rfl | rfl | rfl | rfl | rfl | rfl | rfl | rfl <;> rfl
  generalize [r0, r1, r2, r3, r4, r5, r6, r7].getD x 0 = p at hp hz
  have dz : (p != 0) = false := by rw [hz]; rfl
  have HST := Lib.hid hstep
  have H04 := Lib.hid h04
  have c0 := row_cell h04 0
  have c1 := row_cell h04 1
  have c2 := row_cell h04 2
  have c3 := row_cell h04 3
  have c4 := row_cell h04 4
  have c5 := row_cell h04 5
  have c6 := row_cell h04 6
  have c7 := row_cell h04 7
  have c8 := row_cell h04 8
  simp only [List.getElem?_cons_zero, List.getElem?_cons_succ] at c0 c1 c2 c3 c4 c5 c6 c7 c8
  have kb0 : b0 < w1.heap.size := lt_of_blk h0
  have kb4 : b0 < w4.heap.size := lt_of_blk h04
  have kn4 : b0 ≠ w4.heap.size := by omega
  have HBF : Hid (b0 ≠ F) := fun q => by omega
  have HBW : Hid (w.heap.size ≤ b0) := hbe ▸ Nat.le_refl _
  have HFW : Hid (w.heap.size ≤ F) := Nat.le_trans hmz hF4
  have HF4 : Hid (F < w4.heap.size) := HP4.ltF
  clear hstep hst2 h04 HP4 h0 kb0 hF4 hbe hreg hmz hz
  go_upto_region 17 with (fail)
  have h5 : (w4.alloc (.cells #[.int .u32 r0, .int .u32 r1, .int .u32 r2, .int .u32 r3, .int .u32 r4, .int .u32 r5, .int .u32 r6, .int .u32 r7, .int .u32 (12 + 4 * k + 1048576)] 25)).heap[w4.heap.size]? = some (.cells ([.int .u32 r0, .int .u32 r1, .int .u32 r2, .int .u32 r3, .int .u32 r4, .int .u32 r5, .int .u32 r6, .int .u32 r7, .int .u32 (12 + 4 * k + 1048576)] : List Value).toArray 25 (0, 0)) := heap_alloc_new w4 _
  have h05 : (w4.alloc (.cells #[.int .u32 r0, .int .u32 r1, .int .u32 r2, .int .u32 r3, .int .u32 r4, .int .u32 r5, .int .u32 r6, .int .u32 r7, .int .u32 (12 + 4 * k + 1048576)] 25)).heap[b0]? = _ := blk_alloc H04.out _
  have hm5 : Mod No w4 (w4.alloc (.cells #[.int .u32 r0, .int .u32 r1, .int .u32 r2, .int .u32 r3, .int .u32 r4, .int .u32 r5, .int .u32 r6, .int .u32 r7, .int .u32 (12 + 4 * k + 1048576)] 25)) := (Mod.refl No w4).alloc _
  have hbF : w4.heap.size ≠ F := by have := HF4.out; omega
  generalize w4.alloc (.cells #[.int .u32 r0, .int .u32 r1, .int .u32 r2, .int .u32 r3, .int .u32 r4, .int .u32 r5, .int .u32 r6, .int .u32 r7, .int .u32 (12 + 4 * k + 1048576)] 25) = w5 at h5 h05 hm5 ⊢
  generalize w4.heap.size = b5 at h5 hbF kn4 kb4 ⊢
  have H5 := Lib.hid h5
  have HM5 := Lib.hid hm5
  have HBF5 := Lib.hid hbF
  clear c0 c1 c2 c3 c4 c5 c6 c7 c8 hp kb4 kn4
  have c0 := row_cell h05 0
  have c1 := row_cell h05 1
  have c2 := row_cell h05 2
  have c3 := row_cell h05 3
  have c4 := row_cell h05 4
  have c5 := row_cell h05 5
  have c6 := row_cell h05 6
  have c7 := row_cell h05 7
  have c8 := row_cell h05 8
  simp only [List.getElem?_cons_zero, List.getElem?_cons_succ] at c0 c1 c2 c3 c4 c5 c6 c7 c8
  clear h5 h05 hm5 hbF
  go_wp2_with fail
  refine (HST.out _ HM5.out).mono ?_
  rintro e w6 ⟨rfl, hm6, _⟩
  have H6 := Lib.hid (hm6.blk H5.out HBF5.out)
  have HM6 := Lib.hid hm6
  clear c0 c1 c2 c3 c4 c5 c6 c7 c8 hm6
  dsimp only [cpuV, goesS, Stp.L, stopL]
  go_upto_region 18 with (fail)
  have h6 : ((w6.alloc (.cells #[.int .u32 r0, .int .u32 r1, .int .u32 r2, .int .u32 r3, .int .u32 r4, .int .u32 r5, .int .u32 r6, .int .u32 r7, .int .u32 (12 + 4 * k + 1048576)] 25)).alloc (.cells #[.int .i64 0, .int .u32 0, .int .u32 0, .int .u32 0, .int .u32 0, .int .u32 0, .int .u32 0, .int .i64 0] 37)).heap[b5]? = _ := blk_alloc (blk_alloc H6.out _) _
  have h7 : ((w6.alloc (.cells #[.int .u32 r0, .int .u32 r1, .int .u32 r2, .int .u32 r3, .int .u32 r4, .int .u32 r5, .int .u32 r6, .int .u32 r7, .int .u32 (12 + 4 * k + 1048576)] 25)).alloc (.cells #[.int .i64 0, .int .u32 0, .int .u32 0, .int .u32 0, .int .u32 0, .int .u32 0, .int .u32 0, .int .i64 0] 37)).heap[w6.heap.size]? = some (.cells ([.int .u32 r0, .int .u32 r1, .int .u32 r2, .int .u32 r3, .int .u32 r4, .int .u32 r5, .int .u32 r6, .int .u32 r7, .int .u32 (12 + 4 * k + 1048576)] : List Value).toArray 25 (0, 0)) := blk_alloc (heap_alloc_new w6 _) _
  have h8 : ((w6.alloc (.cells #[.int .u32 r0, .int .u32 r1, .int .u32 r2, .int .u32 r3, .int .u32 r4, .int .u32 r5, .int .u32 r6, .int .u32 r7, .int .u32 (12 + 4 * k + 1048576)] 25)).alloc (.cells #[.int .i64 0, .int .u32 0, .int .u32 0, .int .u32 0, .int .u32 0, .int .u32 0, .int .u32 0, .int .i64 0] 37)).heap[w6.heap.size + 1]? = some (.cells ([.int .i64 0, .int .u32 0, .int .u32 0, .int .u32 0, .int .u32 0, .int .u32 0, .int .u32 0, .int .i64 0] : List Value).toArray 37 (0, 0)) := by
    have := heap_alloc_new (w6.alloc (.cells #[.int .u32 r0, .int .u32 r1, .int .u32 r2, .int .u32 r3, .int .u32 r4, .int .u32 r5, .int .u32 r6, .int .u32 r7, .int .u32 (12 + 4 * k + 1048576)] 25)) (.cells #[.int .i64 0, .int .u32 0, .int .u32 0, .int .u32 0, .int .u32 0, .int .u32 0, .int .u32 0, .int .i64 0] 37)
    rwa [World.size_alloc] at this
  have hm7 : Mod No w6 ((w6.alloc (.cells #[.int .u32 r0, .int .u32 r1, .int .u32 r2, .int .u32 r3, .int .u32 r4, .int .u32 r5, .int .u32 r6, .int .u32 r7, .int .u32 (12 + 4 * k + 1048576)] 25)).alloc (.cells #[.int .i64 0, .int .u32 0, .int .u32 0, .int .u32 0, .int .u32 0, .int .u32 0, .int .u32 0, .int .i64 0] 37)) := ((Mod.refl No w6).alloc _).alloc _
  generalize ((w6.alloc (.cells #[.int .u32 r0, .int .u32 r1, .int .u32 r2, .int .u32 r3, .int .u32 r4, .int .u32 r5, .int .u32 r6, .int .u32 r7, .int .u32 (12 + 4 * k + 1048576)] 25)).alloc (.cells #[.int .i64 0, .int .u32 0, .int .u32 0, .int .u32 0, .int .u32 0, .int .u32 0, .int .u32 0, .int .i64 0] 37)) = w7 at h6 h7 h8 hm7 ⊢
  generalize w6.heap.size + 1 = b8 at h8 ⊢
  generalize w6.heap.size = b7 at h7 ⊢
  have HME : Hid (Mod No w w7) := Lib.hid ((((HM4.out.trans HM5.out).step HM6.out (fun i hi q => by have := HFW.out; have : i = F := q; omega)).trans hm7))
  have a0 := row_cell h6 0
  have a1 := row_cell h6 1
  have a2 := row_cell h6 2
  have a3 := row_cell h6 3
  have a4 := row_cell h6 4
  have a5 := row_cell h6 5
  have a6 := row_cell h6 6
  have a7 := row_cell h6 7
  have a8 := row_cell h6 8
  have d0 := row_cell h7 0
  have d1 := row_cell h7 1
  have d2 := row_cell h7 2
  have d3 := row_cell h7 3
  have d4 := row_cell h7 4
  have d5 := row_cell h7 5
  have d6 := row_cell h7 6
  have d7 := row_cell h7 7
  have d8 := row_cell h7 8
  have e0 := row_cell h8 0
  have e1 := row_cell h8 1
  have e2 := row_cell h8 2
  have e3 := row_cell h8 3
  have e4 := row_cell h8 4
  have e5 := row_cell h8 5
  have e6 := row_cell h8 6
  have e7 := row_cell h8 7
  simp only [List.getElem?_cons_zero, List.getElem?_cons_succ] at a0 a1 a2 a3 a4 a5 a6 a7 a8 d0 d1 d2 d3 d4 d5 d6 d7 d8 e0 e1 e2 e3 e4 e5 e6 e7
  have he2 : ∀ w, (Op.equalIn 9999 23 (.agg #[.int .u32 r0, .int .u32 r1, .int .u32 r2, .int .u32 r3, .int .u32 r4, .int .u32 r5, .int .u32 r6, .int .u32 r7]) (.agg #[.int .u32 r0, .int .u32 r1, .int .u32 r2, .int .u32 r3, .int .u32 r4, .int .u32 r5, .int .u32 r6, .int .u32 r7])).run Try.prog w = .ok true w := fun w => eq8 9997 r0 r1 r2 r3 r4 r5 r6 r7 w
  have he3 : ∀ w, (Op.equalIn 9999 34 (.agg #[.int .u32 0, .int .u32 0, .int .u32 0, .int .u32 0, .int .u32 0]) (.agg #[.int .u32 0, .int .u32 0, .int .u32 0, .int .u32 0, .int .u32 0])).run Try.prog w = .ok true w := fun w => eq5 9997 0 0 0 0 0 w
  clear h6 h7 h8 hm7 H6 HM6 H5 HM5 HST
  go_wp2
  go_ret
  exact ⟨rfl, HME.out⟩

set_option maxHeartbeats 8000000 in
theorem jumps_fzp (x : Nat) (a k n nb nc : Int) (ex : a.tmod 8 = x) (hx : x < 8) (hk : -32768 ≤ k ∧ k ≤ 32767) (hn : n = k % 65536) (hnb : nb = n % 256) (hnc : nc = n / 256) (hs : 0 ≤ 12 + 4 * k)
    (r0 r1 r2 r3 r4 r5 r6 r7 r8 : Int) (hz : [r0, r1, r2, r3, r4, r5, r6, r7].getD x 0 = 0) (hreg : ∀ x ∈ [r0, r1, r2, r3, r4, r5, r6, r7], 0 ≤ x ∧ x ≤ 4294967295) (w : World) :
    Calls Try.prog 4 #[.bool false, .int .u8 a, .int .i16 k, .agg #[.int .u32 r0, .int .u32 r1, .int .u32 r2, .int .u32 r3, .int .u32 r4, .int .u32 r5, .int .u32 r6, .int .u32 r7, .int .u32 r8]] w fun e w' => e = .returned (.bool true) ∧ Mod No w w' := by
  have hst := fun (q : Option Addr) (c : Nat) => jumps_step false q c x n k hx hk hn [r0, r1, r2, r3, r4, r5, r6, r7]
  rw [← hnb, ← hnc] at hst
  have kx : (x : Int) < 8 := by omega
  have hw16 : IntKind.u16.wrap k = n := by rw [hn]; simp [IntKind.wrap, IntKind.bits, IntKind.signed]
  have hb0 : n.tmod 256 = nb := by rw [hnb, Int.tmod_eq_emod_of_nonneg (by omega)]
  have hc0 : n.tdiv 256 = nc := by rw [hnc, Int.tdiv_eq_ediv_of_nonneg (by omega)]
  have hbw : IntKind.u8.wrap nb = nb := IntWalk.u8_in _ (by omega)
  have hcw : IntKind.u8.wrap nc = nc := IntWalk.u8_in _ (by omega)
  have hc16 : IntKind.u16.wrap nc = nc := IntWalk.u16_in _ (by omega)
  have hc256 : nc % 256 = nc := by omega
  have hw1 : IntKind.i64.wrap (4 * k) = 4 * k := IntWalk.i64_in _ (by omega)
  have hw2 : IntKind.i64.wrap (12 + 4 * k) = 12 + 4 * k := IntWalk.i64_in _ (by omega)
  have hw3 : IntKind.i64.wrap k = k := IntWalk.i64_in _ (by omega)
  have hw4 : wrap64 (12 + 4 * k + 1048576) = 12 + 4 * k + 1048576 := wrap64_in _ (by omega)
  have hm32 : (12 + 4 * k) % 4294967296 = 12 + 4 * k := by omega
  have htm : (12 + 4 * k).tmod 1048576 = 12 + 4 * k := tmod_small _ (by omega)
  have HNR : Hid ((0 ≤ nb ∧ nb ≤ 255) ∧ (0 ≤ nc ∧ nc ≤ 255)) := ⟨by omega, by omega⟩
  have HK := Lib.hid hk
  clear hn hnb hnc hk
  go_enter Try.func4, Try.ntmps4
  go_wp2_with fail
  have h0 : (((w.alloc (.cells #[.int .u32 r0, .int .u32 r1, .int .u32 r2, .int .u32 r3, .int .u32 r4, .int .u32 r5, .int .u32 r6, .int .u32 r7, .int .u32 8] 25)).alloc (.cells #[.int .u8 18, .int .u8 x, .int .u8 nb, .int .u8 nc] 5)).alloc (.cells #[.int .i64 2, .int .i64 8, .slice (some ⟨w.heap.size + 1, 0, none⟩) 4 4] 32)).heap[w.heap.size]? = some (.cells ([.int .u32 r0, .int .u32 r1, .int .u32 r2, .int .u32 r3, .int .u32 r4, .int .u32 r5, .int .u32 r6, .int .u32 r7, .int .u32 8] : List Value).toArray 25 (0, 0)) := blk_alloc (blk_alloc (heap_alloc_new w _) _) _
  have h1 : (((w.alloc (.cells #[.int .u32 r0, .int .u32 r1, .int .u32 r2, .int .u32 r3, .int .u32 r4, .int .u32 r5, .int .u32 r6, .int .u32 r7, .int .u32 8] 25)).alloc (.cells #[.int .u8 18, .int .u8 x, .int .u8 nb, .int .u8 nc] 5)).alloc (.cells #[.int .i64 2, .int .i64 8, .slice (some ⟨w.heap.size + 1, 0, none⟩) 4 4] 32)).heap[w.heap.size + 1]? = some (.cells (([((18 : Nat) : Int), x, nb, nc].map (Value.int .u8))).toArray 5 (0, 0)) := by
    have := blk_alloc (heap_alloc_new (w.alloc (.cells #[.int .u32 r0, .int .u32 r1, .int .u32 r2, .int .u32 r3, .int .u32 r4, .int .u32 r5, .int .u32 r6, .int .u32 r7, .int .u32 8] 25)) (.cells #[.int .u8 18, .int .u8 x, .int .u8 nb, .int .u8 nc] 5)) (.cells #[.int .i64 2, .int .i64 8, .slice (some ⟨w.heap.size + 1, 0, none⟩) 4 4] 32)
    rwa [World.size_alloc] at this
  have h2 : (((w.alloc (.cells #[.int .u32 r0, .int .u32 r1, .int .u32 r2, .int .u32 r3, .int .u32 r4, .int .u32 r5, .int .u32 r6, .int .u32 r7, .int .u32 8] 25)).alloc (.cells #[.int .u8 18, .int .u8 x, .int .u8 nb, .int .u8 nc] 5)).alloc (.cells #[.int .i64 2, .int .i64 8, .slice (some ⟨w.heap.size + 1, 0, none⟩) 4 4] 32)).heap[w.heap.size + 1 + 1]? = some (.cells ([.int .i64 2, .int .i64 8, .slice (some ⟨w.heap.size + 1, 0, none⟩) 4 4] : List Value).toArray 32 (0, 0)) := by
    have := heap_alloc_new ((w.alloc (.cells #[.int .u32 r0, .int .u32 r1, .int .u32 r2, .int .u32 r3, .int .u32 r4, .int .u32 r5, .int .u32 r6, .int .u32 r7, .int .u32 8] 25)).alloc (.cells #[.int .u8 18, .int .u8 x, .int .u8 nb, .int .u8 nc] 5)) (.cells #[.int .i64 2, .int .i64 8, .slice (some ⟨w.heap.size + 1, 0, none⟩) 4 4] 32)
    rwa [World.size_alloc, World.size_alloc] at this
  have hm0 : Mod No w (((w.alloc (.cells #[.int .u32 r0, .int .u32 r1, .int .u32 r2, .int .u32 r3, .int .u32 r4, .int .u32 r5, .int .u32 r6, .int .u32 r7, .int .u32 8] 25)).alloc (.cells #[.int .u8 18, .int .u8 x, .int .u8 nb, .int .u8 nc] 5)).alloc (.cells #[.int .i64 2, .int .i64 8, .slice (some ⟨w.heap.size + 1, 0, none⟩) 4 4] 32)) := by repeat (first | exact Mod.refl _ _ | apply Mod.alloc)
  generalize (((w.alloc (.cells #[.int .u32 r0, .int .u32 r1, .int .u32 r2, .int .u32 r3, .int .u32 r4, .int .u32 r5, .int .u32 r6, .int .u32 r7, .int .u32 8] 25)).alloc (.cells #[.int .u8 18, .int .u8 x, .int .u8 nb, .int .u8 nc] 5)).alloc (.cells #[.int .i64 2, .int .i64 8, .slice (some ⟨w.heap.size + 1, 0, none⟩) 4 4] 32)) = w1 at h0 h1 h2 hm0 ⊢
  generalize w.heap.size + 1 + 1 = g2 at h2 ⊢
  generalize w.heap.size + 1 = g1 at h1 h2 ⊢
  generalize hbe : w.heap.size = b0 at h0 ⊢
  have hks : KPutS w1 (some ⟨g2, 0, none⟩) [⟨2, 8, some ⟨g1, 0, none⟩, [((18 : Nat) : Int), x, nb, nc], 4⟩] := one_puts (bs := [((18 : Nat) : Int), x, nb, nc]) h1 h2 (by omega) (by omega) (fun v hv => by
    have h3 := HNR.out
    simp only [List.mem_cons, List.not_mem_nil, or_false] at hv
    rcases hv with rfl | rfl | rfl | rfl <;> omega) (by simp)
  refine (begin19_in (some ⟨g2, 0, none⟩) _ 1 w1 hks (by simp) (fun q => by cases q)).mono ?_
  rintro e w4 ⟨B, F, K, rfl, hrd⟩
  have hst2 : stepR (begS [⟨2, 8, some ⟨g1, 0, none⟩, [((18 : Nat) : Int), x, nb, nc], 4⟩]) 0 [r0, r1, r2, r3, r4, r5, r6, r7] 8 = ⟨[r0, r1, r2, r3, r4, r5, r6, r7], (12 + 4 * k), goesS, begS [⟨2, 8, some ⟨g1, 0, none⟩, [((18 : Nat) : Int), x, nb, nc], 4⟩]⟩ := by
    have := hst (some ⟨g1, 0, none⟩) 4
    have hkk := HK.out
    rw [show (if ([r0, r1, r2, r3, r4, r5, r6, r7].getD x 0 != 0) = false then (12 + 4 * k) % 1048576 else 12) = (12 + 4 * k) from by
      rw [if_pos (by simpa using hz)]; omega] at this
    exact this
  have HP4 := hrd.two.p
  have h04 := hrd.mod.blk h0 (fun q => q)
  have HM4 := Lib.hid (hm0.trans hrd.mod)
  have hF4 := hrd.F
  have hmz := hm0.size
  clear hrd hks h1 h2 hm0 hst
  generalize begS [⟨2, 8, some ⟨g1, 0, none⟩, [((18 : Nat) : Int), x, nb, nc], 4⟩] = S at hst2 HP4
  have hstep : ∀ w', Mod No w4 w' → Calls Try.prog 6 #[.pointer (some ⟨B, 0, none⟩), .int .i64 0, .agg #[.int .u32 r0, .int .u32 r1, .int .u32 r2, .int .u32 r3, .int .u32 r4, .int .u32 r5, .int .u32 r6, .int .u32 r7, .int .u32 8]] w' (StepPost B F ⟨[r0, r1, r2, r3, r4, r5, r6, r7], (12 + 4 * k), goesS, S⟩ w') := fun w' hm' => by
    have := step_any 0 r0 r1 r2 r3 r4 r5 r6 r7 8 w' (HP4.kept hm' (fun q => q) (fun q => q)) (by omega) hreg
    rwa [hst2] at this
  have hp : w4.cell? ⟨b0, x, none⟩ = some (.int .u32 ([r0, r1, r2, r3, r4, r5, r6, r7].getD x 0)) := by
    rw [row_cell h04]
    rcases (show x = 0 ∨ x = 1 ∨ x = 2 ∨ x = 3 ∨ x = 4 ∨ x = 5 ∨ x = 6 ∨ x = 7 by omega) with rfl | rfl | rfl | rfl | rfl | rfl | rfl | rfl <;> rfl
  generalize [r0, r1, r2, r3, r4, r5, r6, r7].getD x 0 = p at hp hz
  have dz : (p != 0) = false := by rw [hz]; rfl
  have HST := Lib.hid hstep
  have H04 := Lib.hid h04
  have c0 := row_cell h04 0
  have c1 := row_cell h04 1
  have c2 := row_cell h04 2
  have c3 := row_cell h04 3
  have c4 := row_cell h04 4
  have c5 := row_cell h04 5
  have c6 := row_cell h04 6
  have c7 := row_cell h04 7
  have c8 := row_cell h04 8
  simp only [List.getElem?_cons_zero, List.getElem?_cons_succ] at c0 c1 c2 c3 c4 c5 c6 c7 c8
  have kb0 : b0 < w1.heap.size := lt_of_blk h0
  have kb4 : b0 < w4.heap.size := lt_of_blk h04
  have kn4 : b0 ≠ w4.heap.size := by omega
  have HBF : Hid (b0 ≠ F) := fun q => by omega
  have HBW : Hid (w.heap.size ≤ b0) := hbe ▸ Nat.le_refl _
  have HFW : Hid (w.heap.size ≤ F) := Nat.le_trans hmz hF4
  have HF4 : Hid (F < w4.heap.size) := HP4.ltF
  clear hstep hst2 h04 HP4 h0 kb0 hF4 hbe hreg hmz hz
  go_upto_region 17 with (fail)
  have h5 : (w4.alloc (.cells #[.int .u32 r0, .int .u32 r1, .int .u32 r2, .int .u32 r3, .int .u32 r4, .int .u32 r5, .int .u32 r6, .int .u32 r7, .int .u32 (12 + 4 * k)] 25)).heap[w4.heap.size]? = some (.cells ([.int .u32 r0, .int .u32 r1, .int .u32 r2, .int .u32 r3, .int .u32 r4, .int .u32 r5, .int .u32 r6, .int .u32 r7, .int .u32 (12 + 4 * k)] : List Value).toArray 25 (0, 0)) := heap_alloc_new w4 _
  have h05 : (w4.alloc (.cells #[.int .u32 r0, .int .u32 r1, .int .u32 r2, .int .u32 r3, .int .u32 r4, .int .u32 r5, .int .u32 r6, .int .u32 r7, .int .u32 (12 + 4 * k)] 25)).heap[b0]? = _ := blk_alloc H04.out _
  have hm5 : Mod No w4 (w4.alloc (.cells #[.int .u32 r0, .int .u32 r1, .int .u32 r2, .int .u32 r3, .int .u32 r4, .int .u32 r5, .int .u32 r6, .int .u32 r7, .int .u32 (12 + 4 * k)] 25)) := (Mod.refl No w4).alloc _
  have hbF : w4.heap.size ≠ F := by have := HF4.out; omega
  generalize w4.alloc (.cells #[.int .u32 r0, .int .u32 r1, .int .u32 r2, .int .u32 r3, .int .u32 r4, .int .u32 r5, .int .u32 r6, .int .u32 r7, .int .u32 (12 + 4 * k)] 25) = w5 at h5 h05 hm5 ⊢
  generalize w4.heap.size = b5 at h5 hbF kn4 kb4 ⊢
  have H5 := Lib.hid h5
  have HM5 := Lib.hid hm5
  have HBF5 := Lib.hid hbF
  clear c0 c1 c2 c3 c4 c5 c6 c7 c8 hp kb4 kn4
  have c0 := row_cell h05 0
  have c1 := row_cell h05 1
  have c2 := row_cell h05 2
  have c3 := row_cell h05 3
  have c4 := row_cell h05 4
  have c5 := row_cell h05 5
  have c6 := row_cell h05 6
  have c7 := row_cell h05 7
  have c8 := row_cell h05 8
  simp only [List.getElem?_cons_zero, List.getElem?_cons_succ] at c0 c1 c2 c3 c4 c5 c6 c7 c8
  clear h5 h05 hm5 hbF
  go_wp2_with fail
  refine (HST.out _ HM5.out).mono ?_
  rintro e w6 ⟨rfl, hm6, _⟩
  have H6 := Lib.hid (hm6.blk H5.out HBF5.out)
  have HM6 := Lib.hid hm6
  clear c0 c1 c2 c3 c4 c5 c6 c7 c8 hm6
  dsimp only [cpuV, goesS, Stp.L, stopL]
  go_upto_region 18 with (fail)
  have h6 : ((w6.alloc (.cells #[.int .u32 r0, .int .u32 r1, .int .u32 r2, .int .u32 r3, .int .u32 r4, .int .u32 r5, .int .u32 r6, .int .u32 r7, .int .u32 (12 + 4 * k)] 25)).alloc (.cells #[.int .i64 0, .int .u32 0, .int .u32 0, .int .u32 0, .int .u32 0, .int .u32 0, .int .u32 0, .int .i64 0] 37)).heap[b5]? = _ := blk_alloc (blk_alloc H6.out _) _
  have h7 : ((w6.alloc (.cells #[.int .u32 r0, .int .u32 r1, .int .u32 r2, .int .u32 r3, .int .u32 r4, .int .u32 r5, .int .u32 r6, .int .u32 r7, .int .u32 (12 + 4 * k)] 25)).alloc (.cells #[.int .i64 0, .int .u32 0, .int .u32 0, .int .u32 0, .int .u32 0, .int .u32 0, .int .u32 0, .int .i64 0] 37)).heap[w6.heap.size]? = some (.cells ([.int .u32 r0, .int .u32 r1, .int .u32 r2, .int .u32 r3, .int .u32 r4, .int .u32 r5, .int .u32 r6, .int .u32 r7, .int .u32 (12 + 4 * k)] : List Value).toArray 25 (0, 0)) := blk_alloc (heap_alloc_new w6 _) _
  have h8 : ((w6.alloc (.cells #[.int .u32 r0, .int .u32 r1, .int .u32 r2, .int .u32 r3, .int .u32 r4, .int .u32 r5, .int .u32 r6, .int .u32 r7, .int .u32 (12 + 4 * k)] 25)).alloc (.cells #[.int .i64 0, .int .u32 0, .int .u32 0, .int .u32 0, .int .u32 0, .int .u32 0, .int .u32 0, .int .i64 0] 37)).heap[w6.heap.size + 1]? = some (.cells ([.int .i64 0, .int .u32 0, .int .u32 0, .int .u32 0, .int .u32 0, .int .u32 0, .int .u32 0, .int .i64 0] : List Value).toArray 37 (0, 0)) := by
    have := heap_alloc_new (w6.alloc (.cells #[.int .u32 r0, .int .u32 r1, .int .u32 r2, .int .u32 r3, .int .u32 r4, .int .u32 r5, .int .u32 r6, .int .u32 r7, .int .u32 (12 + 4 * k)] 25)) (.cells #[.int .i64 0, .int .u32 0, .int .u32 0, .int .u32 0, .int .u32 0, .int .u32 0, .int .u32 0, .int .i64 0] 37)
    rwa [World.size_alloc] at this
  have hm7 : Mod No w6 ((w6.alloc (.cells #[.int .u32 r0, .int .u32 r1, .int .u32 r2, .int .u32 r3, .int .u32 r4, .int .u32 r5, .int .u32 r6, .int .u32 r7, .int .u32 (12 + 4 * k)] 25)).alloc (.cells #[.int .i64 0, .int .u32 0, .int .u32 0, .int .u32 0, .int .u32 0, .int .u32 0, .int .u32 0, .int .i64 0] 37)) := ((Mod.refl No w6).alloc _).alloc _
  generalize ((w6.alloc (.cells #[.int .u32 r0, .int .u32 r1, .int .u32 r2, .int .u32 r3, .int .u32 r4, .int .u32 r5, .int .u32 r6, .int .u32 r7, .int .u32 (12 + 4 * k)] 25)).alloc (.cells #[.int .i64 0, .int .u32 0, .int .u32 0, .int .u32 0, .int .u32 0, .int .u32 0, .int .u32 0, .int .i64 0] 37)) = w7 at h6 h7 h8 hm7 ⊢
  generalize w6.heap.size + 1 = b8 at h8 ⊢
  generalize w6.heap.size = b7 at h7 ⊢
  have HME : Hid (Mod No w w7) := Lib.hid ((((HM4.out.trans HM5.out).step HM6.out (fun i hi q => by have := HFW.out; have : i = F := q; omega)).trans hm7))
  have a0 := row_cell h6 0
  have a1 := row_cell h6 1
  have a2 := row_cell h6 2
  have a3 := row_cell h6 3
  have a4 := row_cell h6 4
  have a5 := row_cell h6 5
  have a6 := row_cell h6 6
  have a7 := row_cell h6 7
  have a8 := row_cell h6 8
  have d0 := row_cell h7 0
  have d1 := row_cell h7 1
  have d2 := row_cell h7 2
  have d3 := row_cell h7 3
  have d4 := row_cell h7 4
  have d5 := row_cell h7 5
  have d6 := row_cell h7 6
  have d7 := row_cell h7 7
  have d8 := row_cell h7 8
  have e0 := row_cell h8 0
  have e1 := row_cell h8 1
  have e2 := row_cell h8 2
  have e3 := row_cell h8 3
  have e4 := row_cell h8 4
  have e5 := row_cell h8 5
  have e6 := row_cell h8 6
  have e7 := row_cell h8 7
  simp only [List.getElem?_cons_zero, List.getElem?_cons_succ] at a0 a1 a2 a3 a4 a5 a6 a7 a8 d0 d1 d2 d3 d4 d5 d6 d7 d8 e0 e1 e2 e3 e4 e5 e6 e7
  have he2 : ∀ w, (Op.equalIn 9999 23 (.agg #[.int .u32 r0, .int .u32 r1, .int .u32 r2, .int .u32 r3, .int .u32 r4, .int .u32 r5, .int .u32 r6, .int .u32 r7]) (.agg #[.int .u32 r0, .int .u32 r1, .int .u32 r2, .int .u32 r3, .int .u32 r4, .int .u32 r5, .int .u32 r6, .int .u32 r7])).run Try.prog w = .ok true w := fun w => eq8 9997 r0 r1 r2 r3 r4 r5 r6 r7 w
  have he3 : ∀ w, (Op.equalIn 9999 34 (.agg #[.int .u32 0, .int .u32 0, .int .u32 0, .int .u32 0, .int .u32 0]) (.agg #[.int .u32 0, .int .u32 0, .int .u32 0, .int .u32 0, .int .u32 0])).run Try.prog w = .ok true w := fun w => eq5 9997 0 0 0 0 0 w
  clear h6 h7 h8 hm7 H6 HM6 H5 HM5 HST
  go_wp2
  go_ret
  exact ⟨rfl, HME.out⟩

set_option maxHeartbeats 8000000 in
theorem jumps_fn (x : Nat) (a k n nb nc : Int) (ex : a.tmod 8 = x) (hx : x < 8) (hk : -32768 ≤ k ∧ k ≤ 32767) (hn : n = k % 65536) (hnb : nb = n % 256) (hnc : nc = n / 256)
    (r0 r1 r2 r3 r4 r5 r6 r7 r8 : Int) (hz : ¬ [r0, r1, r2, r3, r4, r5, r6, r7].getD x 0 = 0) (hreg : ∀ x ∈ [r0, r1, r2, r3, r4, r5, r6, r7], 0 ≤ x ∧ x ≤ 4294967295) (w : World) :
    Calls Try.prog 4 #[.bool false, .int .u8 a, .int .i16 k, .agg #[.int .u32 r0, .int .u32 r1, .int .u32 r2, .int .u32 r3, .int .u32 r4, .int .u32 r5, .int .u32 r6, .int .u32 r7, .int .u32 r8]] w fun e w' => e = .returned (.bool true) ∧ Mod No w w' := by
  have hst := fun (q : Option Addr) (c : Nat) => jumps_step false q c x n k hx hk hn [r0, r1, r2, r3, r4, r5, r6, r7]
  rw [← hnb, ← hnc] at hst
  have kx : (x : Int) < 8 := by omega
  have hw16 : IntKind.u16.wrap k = n := by rw [hn]; simp [IntKind.wrap, IntKind.bits, IntKind.signed]
  have hb0 : n.tmod 256 = nb := by rw [hnb, Int.tmod_eq_emod_of_nonneg (by omega)]
  have hc0 : n.tdiv 256 = nc := by rw [hnc, Int.tdiv_eq_ediv_of_nonneg (by omega)]
  have hbw : IntKind.u8.wrap nb = nb := IntWalk.u8_in _ (by omega)
  have hcw : IntKind.u8.wrap nc = nc := IntWalk.u8_in _ (by omega)
  have hc16 : IntKind.u16.wrap nc = nc := IntWalk.u16_in _ (by omega)
  have hc256 : nc % 256 = nc := by omega
  have hw1 : IntKind.i64.wrap (4 * k) = 4 * k := IntWalk.i64_in _ (by omega)
  have hw2 : IntKind.i64.wrap (12 + 4 * k) = 12 + 4 * k := IntWalk.i64_in _ (by omega)
  have hw3 : IntKind.i64.wrap k = k := IntWalk.i64_in _ (by omega)
  have hw4 : wrap64 (12 + 4 * k + 1048576) = 12 + 4 * k + 1048576 := wrap64_in _ (by omega)
  have htm : (12 + 4 * k).tmod 1048576 = 12 + 4 * k := tmod_small _ (by omega)
  have HNR : Hid ((0 ≤ nb ∧ nb ≤ 255) ∧ (0 ≤ nc ∧ nc ≤ 255)) := ⟨by omega, by omega⟩
  have HK := Lib.hid hk
  clear hn hnb hnc hk
  go_enter Try.func4, Try.ntmps4
  go_wp2_with fail
  have h0 : (((w.alloc (.cells #[.int .u32 r0, .int .u32 r1, .int .u32 r2, .int .u32 r3, .int .u32 r4, .int .u32 r5, .int .u32 r6, .int .u32 r7, .int .u32 8] 25)).alloc (.cells #[.int .u8 18, .int .u8 x, .int .u8 nb, .int .u8 nc] 5)).alloc (.cells #[.int .i64 2, .int .i64 8, .slice (some ⟨w.heap.size + 1, 0, none⟩) 4 4] 32)).heap[w.heap.size]? = some (.cells ([.int .u32 r0, .int .u32 r1, .int .u32 r2, .int .u32 r3, .int .u32 r4, .int .u32 r5, .int .u32 r6, .int .u32 r7, .int .u32 8] : List Value).toArray 25 (0, 0)) := blk_alloc (blk_alloc (heap_alloc_new w _) _) _
  have h1 : (((w.alloc (.cells #[.int .u32 r0, .int .u32 r1, .int .u32 r2, .int .u32 r3, .int .u32 r4, .int .u32 r5, .int .u32 r6, .int .u32 r7, .int .u32 8] 25)).alloc (.cells #[.int .u8 18, .int .u8 x, .int .u8 nb, .int .u8 nc] 5)).alloc (.cells #[.int .i64 2, .int .i64 8, .slice (some ⟨w.heap.size + 1, 0, none⟩) 4 4] 32)).heap[w.heap.size + 1]? = some (.cells (([((18 : Nat) : Int), x, nb, nc].map (Value.int .u8))).toArray 5 (0, 0)) := by
    have := blk_alloc (heap_alloc_new (w.alloc (.cells #[.int .u32 r0, .int .u32 r1, .int .u32 r2, .int .u32 r3, .int .u32 r4, .int .u32 r5, .int .u32 r6, .int .u32 r7, .int .u32 8] 25)) (.cells #[.int .u8 18, .int .u8 x, .int .u8 nb, .int .u8 nc] 5)) (.cells #[.int .i64 2, .int .i64 8, .slice (some ⟨w.heap.size + 1, 0, none⟩) 4 4] 32)
    rwa [World.size_alloc] at this
  have h2 : (((w.alloc (.cells #[.int .u32 r0, .int .u32 r1, .int .u32 r2, .int .u32 r3, .int .u32 r4, .int .u32 r5, .int .u32 r6, .int .u32 r7, .int .u32 8] 25)).alloc (.cells #[.int .u8 18, .int .u8 x, .int .u8 nb, .int .u8 nc] 5)).alloc (.cells #[.int .i64 2, .int .i64 8, .slice (some ⟨w.heap.size + 1, 0, none⟩) 4 4] 32)).heap[w.heap.size + 1 + 1]? = some (.cells ([.int .i64 2, .int .i64 8, .slice (some ⟨w.heap.size + 1, 0, none⟩) 4 4] : List Value).toArray 32 (0, 0)) := by
    have := heap_alloc_new ((w.alloc (.cells #[.int .u32 r0, .int .u32 r1, .int .u32 r2, .int .u32 r3, .int .u32 r4, .int .u32 r5, .int .u32 r6, .int .u32 r7, .int .u32 8] 25)).alloc (.cells #[.int .u8 18, .int .u8 x, .int .u8 nb, .int .u8 nc] 5)) (.cells #[.int .i64 2, .int .i64 8, .slice (some ⟨w.heap.size + 1, 0, none⟩) 4 4] 32)
    rwa [World.size_alloc, World.size_alloc] at this
  have hm0 : Mod No w (((w.alloc (.cells #[.int .u32 r0, .int .u32 r1, .int .u32 r2, .int .u32 r3, .int .u32 r4, .int .u32 r5, .int .u32 r6, .int .u32 r7, .int .u32 8] 25)).alloc (.cells #[.int .u8 18, .int .u8 x, .int .u8 nb, .int .u8 nc] 5)).alloc (.cells #[.int .i64 2, .int .i64 8, .slice (some ⟨w.heap.size + 1, 0, none⟩) 4 4] 32)) := by repeat (first | exact Mod.refl _ _ | apply Mod.alloc)
  generalize (((w.alloc (.cells #[.int .u32 r0, .int .u32 r1, .int .u32 r2, .int .u32 r3, .int .u32 r4, .int .u32 r5, .int .u32 r6, .int .u32 r7, .int .u32 8] 25)).alloc (.cells #[.int .u8 18, .int .u8 x, .int .u8 nb, .int .u8 nc] 5)).alloc (.cells #[.int .i64 2, .int .i64 8, .slice (some ⟨w.heap.size + 1, 0, none⟩) 4 4] 32)) = w1 at h0 h1 h2 hm0 ⊢
  generalize w.heap.size + 1 + 1 = g2 at h2 ⊢
  generalize w.heap.size + 1 = g1 at h1 h2 ⊢
  generalize hbe : w.heap.size = b0 at h0 ⊢
  have hks : KPutS w1 (some ⟨g2, 0, none⟩) [⟨2, 8, some ⟨g1, 0, none⟩, [((18 : Nat) : Int), x, nb, nc], 4⟩] := one_puts (bs := [((18 : Nat) : Int), x, nb, nc]) h1 h2 (by omega) (by omega) (fun v hv => by
    have h3 := HNR.out
    simp only [List.mem_cons, List.not_mem_nil, or_false] at hv
    rcases hv with rfl | rfl | rfl | rfl <;> omega) (by simp)
  refine (begin19_in (some ⟨g2, 0, none⟩) _ 1 w1 hks (by simp) (fun q => by cases q)).mono ?_
  rintro e w4 ⟨B, F, K, rfl, hrd⟩
  have hst2 : stepR (begS [⟨2, 8, some ⟨g1, 0, none⟩, [((18 : Nat) : Int), x, nb, nc], 4⟩]) 0 [r0, r1, r2, r3, r4, r5, r6, r7] 8 = ⟨[r0, r1, r2, r3, r4, r5, r6, r7], 12, goesS, begS [⟨2, 8, some ⟨g1, 0, none⟩, [((18 : Nat) : Int), x, nb, nc], 4⟩]⟩ := by
    have := hst (some ⟨g1, 0, none⟩) 4
    have hkk := HK.out
    rw [show (if ([r0, r1, r2, r3, r4, r5, r6, r7].getD x 0 != 0) = false then (12 + 4 * k) % 1048576 else 12) = 12 from by
      exact if_neg (by simpa using hz)] at this
    exact this
  have HP4 := hrd.two.p
  have h04 := hrd.mod.blk h0 (fun q => q)
  have HM4 := Lib.hid (hm0.trans hrd.mod)
  have hF4 := hrd.F
  have hmz := hm0.size
  clear hrd hks h1 h2 hm0 hst
  generalize begS [⟨2, 8, some ⟨g1, 0, none⟩, [((18 : Nat) : Int), x, nb, nc], 4⟩] = S at hst2 HP4
  have hstep : ∀ w', Mod No w4 w' → Calls Try.prog 6 #[.pointer (some ⟨B, 0, none⟩), .int .i64 0, .agg #[.int .u32 r0, .int .u32 r1, .int .u32 r2, .int .u32 r3, .int .u32 r4, .int .u32 r5, .int .u32 r6, .int .u32 r7, .int .u32 8]] w' (StepPost B F ⟨[r0, r1, r2, r3, r4, r5, r6, r7], 12, goesS, S⟩ w') := fun w' hm' => by
    have := step_any 0 r0 r1 r2 r3 r4 r5 r6 r7 8 w' (HP4.kept hm' (fun q => q) (fun q => q)) (by omega) hreg
    rwa [hst2] at this
  have hp : w4.cell? ⟨b0, x, none⟩ = some (.int .u32 ([r0, r1, r2, r3, r4, r5, r6, r7].getD x 0)) := by
    rw [row_cell h04]
    rcases (show x = 0 ∨ x = 1 ∨ x = 2 ∨ x = 3 ∨ x = 4 ∨ x = 5 ∨ x = 6 ∨ x = 7 by omega) with rfl | rfl | rfl | rfl | rfl | rfl | rfl | rfl <;> rfl
  generalize [r0, r1, r2, r3, r4, r5, r6, r7].getD x 0 = p at hp hz
  have dz : (p != 0) = true := bne_iff_ne.2 hz
  have HST := Lib.hid hstep
  have H04 := Lib.hid h04
  have c0 := row_cell h04 0
  have c1 := row_cell h04 1
  have c2 := row_cell h04 2
  have c3 := row_cell h04 3
  have c4 := row_cell h04 4
  have c5 := row_cell h04 5
  have c6 := row_cell h04 6
  have c7 := row_cell h04 7
  have c8 := row_cell h04 8
  simp only [List.getElem?_cons_zero, List.getElem?_cons_succ] at c0 c1 c2 c3 c4 c5 c6 c7 c8
  have kb0 : b0 < w1.heap.size := lt_of_blk h0
  have kb4 : b0 < w4.heap.size := lt_of_blk h04
  have kn4 : b0 ≠ w4.heap.size := by omega
  have HBF : Hid (b0 ≠ F) := fun q => by omega
  have HBW : Hid (w.heap.size ≤ b0) := hbe ▸ Nat.le_refl _
  have HFW : Hid (w.heap.size ≤ F) := Nat.le_trans hmz hF4
  have HF4 : Hid (F < w4.heap.size) := HP4.ltF
  clear hstep hst2 h04 HP4 h0 kb0 hF4 hbe hreg hmz hz
  go_upto_region 17 with (fail)
  have h5 : (w4.alloc (.cells #[.int .u32 r0, .int .u32 r1, .int .u32 r2, .int .u32 r3, .int .u32 r4, .int .u32 r5, .int .u32 r6, .int .u32 r7, .int .u32 12] 25)).heap[w4.heap.size]? = some (.cells ([.int .u32 r0, .int .u32 r1, .int .u32 r2, .int .u32 r3, .int .u32 r4, .int .u32 r5, .int .u32 r6, .int .u32 r7, .int .u32 12] : List Value).toArray 25 (0, 0)) := heap_alloc_new w4 _
  have h05 : (w4.alloc (.cells #[.int .u32 r0, .int .u32 r1, .int .u32 r2, .int .u32 r3, .int .u32 r4, .int .u32 r5, .int .u32 r6, .int .u32 r7, .int .u32 12] 25)).heap[b0]? = _ := blk_alloc H04.out _
  have hm5 : Mod No w4 (w4.alloc (.cells #[.int .u32 r0, .int .u32 r1, .int .u32 r2, .int .u32 r3, .int .u32 r4, .int .u32 r5, .int .u32 r6, .int .u32 r7, .int .u32 12] 25)) := (Mod.refl No w4).alloc _
  have hbF : w4.heap.size ≠ F := by have := HF4.out; omega
  generalize w4.alloc (.cells #[.int .u32 r0, .int .u32 r1, .int .u32 r2, .int .u32 r3, .int .u32 r4, .int .u32 r5, .int .u32 r6, .int .u32 r7, .int .u32 12] 25) = w5 at h5 h05 hm5 ⊢
  generalize w4.heap.size = b5 at h5 hbF kn4 kb4 ⊢
  have H5 := Lib.hid h5
  have HM5 := Lib.hid hm5
  have HBF5 := Lib.hid hbF
  clear c0 c1 c2 c3 c4 c5 c6 c7 c8 hp kb4 kn4
  have c0 := row_cell h05 0
  have c1 := row_cell h05 1
  have c2 := row_cell h05 2
  have c3 := row_cell h05 3
  have c4 := row_cell h05 4
  have c5 := row_cell h05 5
  have c6 := row_cell h05 6
  have c7 := row_cell h05 7
  have c8 := row_cell h05 8
  simp only [List.getElem?_cons_zero, List.getElem?_cons_succ] at c0 c1 c2 c3 c4 c5 c6 c7 c8
  clear h5 h05 hm5 hbF
  go_wp2_with fail
  refine (HST.out _ HM5.out).mono ?_
  rintro e w6 ⟨rfl, hm6, _⟩
  have H6 := Lib.hid (hm6.blk H5.out HBF5.out)
  have HM6 := Lib.hid hm6
  clear c0 c1 c2 c3 c4 c5 c6 c7 c8 hm6
  dsimp only [cpuV, goesS, Stp.L, stopL]
  go_upto_region 18 with (fail)
  have h6 : ((w6.alloc (.cells #[.int .u32 r0, .int .u32 r1, .int .u32 r2, .int .u32 r3, .int .u32 r4, .int .u32 r5, .int .u32 r6, .int .u32 r7, .int .u32 12] 25)).alloc (.cells #[.int .i64 0, .int .u32 0, .int .u32 0, .int .u32 0, .int .u32 0, .int .u32 0, .int .u32 0, .int .i64 0] 37)).heap[b5]? = _ := blk_alloc (blk_alloc H6.out _) _
  have h7 : ((w6.alloc (.cells #[.int .u32 r0, .int .u32 r1, .int .u32 r2, .int .u32 r3, .int .u32 r4, .int .u32 r5, .int .u32 r6, .int .u32 r7, .int .u32 12] 25)).alloc (.cells #[.int .i64 0, .int .u32 0, .int .u32 0, .int .u32 0, .int .u32 0, .int .u32 0, .int .u32 0, .int .i64 0] 37)).heap[w6.heap.size]? = some (.cells ([.int .u32 r0, .int .u32 r1, .int .u32 r2, .int .u32 r3, .int .u32 r4, .int .u32 r5, .int .u32 r6, .int .u32 r7, .int .u32 12] : List Value).toArray 25 (0, 0)) := blk_alloc (heap_alloc_new w6 _) _
  have h8 : ((w6.alloc (.cells #[.int .u32 r0, .int .u32 r1, .int .u32 r2, .int .u32 r3, .int .u32 r4, .int .u32 r5, .int .u32 r6, .int .u32 r7, .int .u32 12] 25)).alloc (.cells #[.int .i64 0, .int .u32 0, .int .u32 0, .int .u32 0, .int .u32 0, .int .u32 0, .int .u32 0, .int .i64 0] 37)).heap[w6.heap.size + 1]? = some (.cells ([.int .i64 0, .int .u32 0, .int .u32 0, .int .u32 0, .int .u32 0, .int .u32 0, .int .u32 0, .int .i64 0] : List Value).toArray 37 (0, 0)) := by
    have := heap_alloc_new (w6.alloc (.cells #[.int .u32 r0, .int .u32 r1, .int .u32 r2, .int .u32 r3, .int .u32 r4, .int .u32 r5, .int .u32 r6, .int .u32 r7, .int .u32 12] 25)) (.cells #[.int .i64 0, .int .u32 0, .int .u32 0, .int .u32 0, .int .u32 0, .int .u32 0, .int .u32 0, .int .i64 0] 37)
    rwa [World.size_alloc] at this
  have hm7 : Mod No w6 ((w6.alloc (.cells #[.int .u32 r0, .int .u32 r1, .int .u32 r2, .int .u32 r3, .int .u32 r4, .int .u32 r5, .int .u32 r6, .int .u32 r7, .int .u32 12] 25)).alloc (.cells #[.int .i64 0, .int .u32 0, .int .u32 0, .int .u32 0, .int .u32 0, .int .u32 0, .int .u32 0, .int .i64 0] 37)) := ((Mod.refl No w6).alloc _).alloc _
  generalize ((w6.alloc (.cells #[.int .u32 r0, .int .u32 r1, .int .u32 r2, .int .u32 r3, .int .u32 r4, .int .u32 r5, .int .u32 r6, .int .u32 r7, .int .u32 12] 25)).alloc (.cells #[.int .i64 0, .int .u32 0, .int .u32 0, .int .u32 0, .int .u32 0, .int .u32 0, .int .u32 0, .int .i64 0] 37)) = w7 at h6 h7 h8 hm7 ⊢
  generalize w6.heap.size + 1 = b8 at h8 ⊢
  generalize w6.heap.size = b7 at h7 ⊢
  have HME : Hid (Mod No w w7) := Lib.hid ((((HM4.out.trans HM5.out).step HM6.out (fun i hi q => by have := HFW.out; have : i = F := q; omega)).trans hm7))
  have a0 := row_cell h6 0
  have a1 := row_cell h6 1
  have a2 := row_cell h6 2
  have a3 := row_cell h6 3
  have a4 := row_cell h6 4
  have a5 := row_cell h6 5
  have a6 := row_cell h6 6
  have a7 := row_cell h6 7
  have a8 := row_cell h6 8
  have d0 := row_cell h7 0
  have d1 := row_cell h7 1
  have d2 := row_cell h7 2
  have d3 := row_cell h7 3
  have d4 := row_cell h7 4
  have d5 := row_cell h7 5
  have d6 := row_cell h7 6
  have d7 := row_cell h7 7
  have d8 := row_cell h7 8
  have e0 := row_cell h8 0
  have e1 := row_cell h8 1
  have e2 := row_cell h8 2
  have e3 := row_cell h8 3
  have e4 := row_cell h8 4
  have e5 := row_cell h8 5
  have e6 := row_cell h8 6
  have e7 := row_cell h8 7
  simp only [List.getElem?_cons_zero, List.getElem?_cons_succ] at a0 a1 a2 a3 a4 a5 a6 a7 a8 d0 d1 d2 d3 d4 d5 d6 d7 d8 e0 e1 e2 e3 e4 e5 e6 e7
  have he2 : ∀ w, (Op.equalIn 9999 23 (.agg #[.int .u32 r0, .int .u32 r1, .int .u32 r2, .int .u32 r3, .int .u32 r4, .int .u32 r5, .int .u32 r6, .int .u32 r7]) (.agg #[.int .u32 r0, .int .u32 r1, .int .u32 r2, .int .u32 r3, .int .u32 r4, .int .u32 r5, .int .u32 r6, .int .u32 r7])).run Try.prog w = .ok true w := fun w => eq8 9997 r0 r1 r2 r3 r4 r5 r6 r7 w
  have he3 : ∀ w, (Op.equalIn 9999 34 (.agg #[.int .u32 0, .int .u32 0, .int .u32 0, .int .u32 0, .int .u32 0]) (.agg #[.int .u32 0, .int .u32 0, .int .u32 0, .int .u32 0, .int .u32 0])).run Try.prog w = .ok true w := fun w => eq5 9997 0 0 0 0 0 w
  clear h6 h7 h8 hm7 H6 HM6 H5 HM5 HST
  go_wp2
  go_ret
  exact ⟨rfl, HME.out⟩

end Go.Proofs.Ytlbebneblmgdcaa
