/- tenementref19.Step: one instruction. (Printed by wip/gen_rstep.py.) -/
import Derived.Test.YtlbebneblmgdcaaGreatDoorRef19S
namespace Go.Proofs.YtlbebneblmgdcaaGreatDoor
open Go.RowKit
set_option maxRecDepth 100000

def RStepPost (K : RfK) (o : Out) (w : World) (e : Ending) (w' : World) : Prop :=
  e = .returned (.tuple #[cpuV o.R o.pc, .agg o.s.L.toArray]) ∧ Mod K.inn w w' ∧ RfM w' K o.S

structure RSt (w w1 : World) (b0 b1 b2 : Nat) (r0 r1 r2 r3 r4 r5 r6 r7 r8 : Int) : Prop where
  m : Mod No w w1
  h0 : w1.heap[b0]? = some (.cells ([.int .u32 r0, .int .u32 r1, .int .u32 r2, .int .u32 r3, .int .u32 r4, .int .u32 r5, .int .u32 r6, .int .u32 r7, .int .u32 r8] : List Value).toArray 26 (0, 0))
  h1 : w1.heap[b1]? = some (.cells ([.int .u32 0, .int .u32 0, .int .u32 0, .int .u32 0, .int .u32 0, .int .u32 0, .int .u32 0, .int .u32 0, .int .u32 0] : List Value).toArray 26 (0, 0))
  h2 : w1.heap[b2]? = some (.cells ([.int .i64 0, .int .u32 0, .int .u32 0, .int .u32 0, .int .u32 0, .int .u32 0, .int .u32 0, .int .i64 0] : List Value).toArray 34 (0, 0))
  l0 : w.heap.size ≤ b0
  l1 : b0 < b1
  l2 : b1 < b2
theorem rst_made (w : World) (r0 r1 r2 r3 r4 r5 r6 r7 r8 : Int) : RSt w (((w.alloc (.cells #[.int .u32 r0, .int .u32 r1, .int .u32 r2, .int .u32 r3, .int .u32 r4, .int .u32 r5, .int .u32 r6, .int .u32 r7, .int .u32 r8] 26)).alloc (.cells #[.int .u32 0, .int .u32 0, .int .u32 0, .int .u32 0, .int .u32 0, .int .u32 0, .int .u32 0, .int .u32 0, .int .u32 0] 26)).alloc (.cells #[.int .i64 0, .int .u32 0, .int .u32 0, .int .u32 0, .int .u32 0, .int .u32 0, .int .u32 0, .int .i64 0] 34)) w.heap.size (w.heap.size + 1) (w.heap.size + 1 + 1) r0 r1 r2 r3 r4 r5 r6 r7 r8 := by
  refine ⟨by repeat (first | exact Mod.refl _ _ | apply Mod.alloc), blk_alloc (blk_alloc (heap_alloc_new w _) _) _, ?_, ?_, Nat.le_refl _, by omega, by omega⟩
  · have := blk_alloc (heap_alloc_new (w.alloc (.cells #[.int .u32 r0, .int .u32 r1, .int .u32 r2, .int .u32 r3, .int .u32 r4, .int .u32 r5, .int .u32 r6, .int .u32 r7, .int .u32 r8] 26)) (.cells #[.int .u32 0, .int .u32 0, .int .u32 0, .int .u32 0, .int .u32 0, .int .u32 0, .int .u32 0, .int .u32 0, .int .u32 0] 26)) (.cells #[.int .i64 0, .int .u32 0, .int .u32 0, .int .u32 0, .int .u32 0, .int .u32 0, .int .u32 0, .int .i64 0] 34)
    rwa [World.size_alloc] at this
  · have := heap_alloc_new ((w.alloc (.cells #[.int .u32 r0, .int .u32 r1, .int .u32 r2, .int .u32 r3, .int .u32 r4, .int .u32 r5, .int .u32 r6, .int .u32 r7, .int .u32 r8] 26)).alloc (.cells #[.int .u32 0, .int .u32 0, .int .u32 0, .int .u32 0, .int .u32 0, .int .u32 0, .int .u32 0, .int .u32 0, .int .u32 0] 26)) (.cells #[.int .i64 0, .int .u32 0, .int .u32 0, .int .u32 0, .int .u32 0, .int .u32 0, .int .u32 0, .int .i64 0] 34)
    rwa [World.size_alloc, World.size_alloc] at this
theorem RSt.kept {w w1 w2 : World} {b0 b1 b2 : Nat} {r0 r1 r2 r3 r4 r5 r6 r7 r8 : Int} (h : RSt w w1 b0 b1 b2 r0 r1 r2 r3 r4 r5 r6 r7 r8) (hm : Mod No w1 w2) : RSt w w2 b0 b1 b2 r0 r1 r2 r3 r4 r5 r6 r7 r8 :=
  ⟨h.m.trans hm, hm.blk h.h0 (fun q => q), hm.blk h.h1 (fun q => q), hm.blk h.h2 (fun q => q), h.l0, h.l1, h.l2⟩

set_option maxHeartbeats 8000000 in
theorem rstep_1 {K : RfK} {S : List Fr} (root r0 r1 r2 r3 r4 r5 r6 r7 r8 : Int) (w : World) (hm : RfM w K S) (h8 : 0 ≤ r8 ∧ r8 ≤ 4294967295) (he : (fetchR S root r8 4).1 ≠ 0) :
    Calls Tryz.prog 16 #[.pointer (some ⟨K.R, 0, none⟩), .int .i64 root, .agg #[.int .u32 r0, .int .u32 r1, .int .u32 r2, .int .u32 r3, .int .u32 r4, .int .u32 r5, .int .u32 r6, .int .u32 r7, .int .u32 r8]] w (RStepPost K ⟨[r0, r1, r2, r3, r4, r5, r6, r7], r8, faultS 190, S⟩ w) := by
  have HFE : Hid (∀ w' , Mod No w w' → Calls Tryz.prog 29 #[.pointer (some ⟨K.R, 0, none⟩), .int .i64 root, .int .u32 r8, .int .i64 4] w' (OwnB w' (fetchR S root r8 4).1 (fetchR S root r8 4).2)) := fun w' hm' => rfetchR root r8 4 w' (hm.keptNo hm') h8.1 h8.2 (by omega)
  have HM := Lib.hid hm
  have HRF := Lib.hid (fun (n : Int) (w' : World) => rfault_any n w')
  generalize (fetchR S root r8 4).1 = er at HFE he
  generalize (fetchR S root r8 4).2 = bs at HFE
  have d1 : (er == 0) = false := beq_eq_false_iff_ne.2 he
  have d2 : (er != 0) = true := bne_iff_ne.2 he
  clear hm h8
  go_enter Tryz.func16, Tryz.ntmps16
  go_upto_region 1 with (fail)
  have hwb := rst_made w r0 r1 r2 r3 r4 r5 r6 r7 r8
  generalize (((w.alloc (.cells #[.int .u32 r0, .int .u32 r1, .int .u32 r2, .int .u32 r3, .int .u32 r4, .int .u32 r5, .int .u32 r6, .int .u32 r7, .int .u32 r8] 26)).alloc (.cells #[.int .u32 0, .int .u32 0, .int .u32 0, .int .u32 0, .int .u32 0, .int .u32 0, .int .u32 0, .int .u32 0, .int .u32 0] 26)).alloc (.cells #[.int .i64 0, .int .u32 0, .int .u32 0, .int .u32 0, .int .u32 0, .int .u32 0, .int .u32 0, .int .i64 0] 34)) = w1 at hwb ⊢
  generalize w.heap.size + 1 + 1 = b2 at hwb ⊢
  generalize w.heap.size + 1 = b1 at hwb ⊢
  generalize w.heap.size = b0 at hwb ⊢
  have HW := Lib.hid hwb
  have x8 := row_cell hwb.h0 8
  simp only [List.getElem?_cons_zero, List.getElem?_cons_succ] at x8
  clear hwb
  go_wp2_with fail
  refine (HFE.out _ HW.out.m).mono ?_
  rintro e w2 ⟨q, k, c, rfl, hm2, hown⟩
  have HW2 := Lib.hid (HW.out.kept hm2)
  have HOWN := Lib.hid hown
  clear x8 hm2 hown HW HFE
  go_upto_region 3 with (fail)
  have x0 := row_cell HW2.out.h0 0
  have x1 := row_cell HW2.out.h0 1
  have x2 := row_cell HW2.out.h0 2
  have x3 := row_cell HW2.out.h0 3
  have x4 := row_cell HW2.out.h0 4
  have x5 := row_cell HW2.out.h0 5
  have x6 := row_cell HW2.out.h0 6
  have x7 := row_cell HW2.out.h0 7
  have x8 := row_cell HW2.out.h0 8
  have y0 := row_cell HW2.out.h1 0
  have y1 := row_cell HW2.out.h1 1
  have y2 := row_cell HW2.out.h1 2
  have y3 := row_cell HW2.out.h1 3
  have y4 := row_cell HW2.out.h1 4
  have y5 := row_cell HW2.out.h1 5
  have y6 := row_cell HW2.out.h1 6
  have y7 := row_cell HW2.out.h1 7
  have y8 := row_cell HW2.out.h1 8
  have z0 := row_cell HW2.out.h2 0
  have z1 := row_cell HW2.out.h2 1
  have z2 := row_cell HW2.out.h2 2
  have z3 := row_cell HW2.out.h2 3
  have z4 := row_cell HW2.out.h2 4
  have z5 := row_cell HW2.out.h2 5
  have z6 := row_cell HW2.out.h2 6
  have z7 := row_cell HW2.out.h2 7
  simp only [List.getElem?_cons_zero, List.getElem?_cons_succ] at x0 x1 x2 x3 x4 x5 x6 x7 x8 y0 y1 y2 y3 y4 y5 y6 y7 y8 z0 z1 z2 z3 z4 z5 z6 z7
  have fy0 : w2.frozen? ⟨b1, 0, none⟩ = false := row_free HW2.out.h1 0
  have fy1 : w2.frozen? ⟨b1, 1, none⟩ = false := row_free HW2.out.h1 1
  have fy2 : w2.frozen? ⟨b1, 2, none⟩ = false := row_free HW2.out.h1 2
  have fy3 : w2.frozen? ⟨b1, 3, none⟩ = false := row_free HW2.out.h1 3
  have fy4 : w2.frozen? ⟨b1, 4, none⟩ = false := row_free HW2.out.h1 4
  have fy5 : w2.frozen? ⟨b1, 5, none⟩ = false := row_free HW2.out.h1 5
  have fy6 : w2.frozen? ⟨b1, 6, none⟩ = false := row_free HW2.out.h1 6
  have fy7 : w2.frozen? ⟨b1, 7, none⟩ = false := row_free HW2.out.h1 7
  have fy8 : w2.frozen? ⟨b1, 8, none⟩ = false := row_free HW2.out.h1 8
  have fz0 : w2.frozen? ⟨b2, 0, none⟩ = false := row_free HW2.out.h2 0
  have fz1 : w2.frozen? ⟨b2, 1, none⟩ = false := row_free HW2.out.h2 1
  have fz2 : w2.frozen? ⟨b2, 2, none⟩ = false := row_free HW2.out.h2 2
  have fz3 : w2.frozen? ⟨b2, 3, none⟩ = false := row_free HW2.out.h2 3
  have fz4 : w2.frozen? ⟨b2, 4, none⟩ = false := row_free HW2.out.h2 4
  have fz5 : w2.frozen? ⟨b2, 5, none⟩ = false := row_free HW2.out.h2 5
  have fz6 : w2.frozen? ⟨b2, 6, none⟩ = false := row_free HW2.out.h2 6
  have fz7 : w2.frozen? ⟨b2, 7, none⟩ = false := row_free HW2.out.h2 7
  have py : b1 < w2.heap.size := lt_of_blk HW2.out.h1
  have pz : b2 < w2.heap.size := lt_of_blk HW2.out.h2
  have n01 : b0 ≠ b1 := by have := HW2.out.l1; omega
  have n02 : b0 ≠ b2 := by have := HW2.out.l1; have := HW2.out.l2; omega
  have n12 : b1 ≠ b2 := by have := HW2.out.l2; omega
  go_region_with (go_at_call 30; refine (HRF.out _ _).mono ?_; rintro e w3 ⟨rfl, hm3⟩; have HW3 := Lib.hid (HW2.out.kept ((Mod.refl No w2).drew.trans hm3)); clear hm3; have m0 := row_cell HW3.out.h0 0; have m1 := row_cell HW3.out.h0 1; have m2 := row_cell HW3.out.h0 2; have m3 := row_cell HW3.out.h0 3; have m4 := row_cell HW3.out.h0 4; have m5 := row_cell HW3.out.h0 5; have m6 := row_cell HW3.out.h0 6; have m7 := row_cell HW3.out.h0 7; have m8 := row_cell HW3.out.h0 8; have n0 := row_cell HW3.out.h1 0; have n1 := row_cell HW3.out.h1 1; have n2 := row_cell HW3.out.h1 2; have n3 := row_cell HW3.out.h1 3; have n4 := row_cell HW3.out.h1 4; have n5 := row_cell HW3.out.h1 5; have n6 := row_cell HW3.out.h1 6; have n7 := row_cell HW3.out.h1 7; have n8 := row_cell HW3.out.h1 8; have o0 := row_cell HW3.out.h2 0; have o1 := row_cell HW3.out.h2 1; have o2 := row_cell HW3.out.h2 2; have o3 := row_cell HW3.out.h2 3; have o4 := row_cell HW3.out.h2 4; have o5 := row_cell HW3.out.h2 5; have o6 := row_cell HW3.out.h2 6; have o7 := row_cell HW3.out.h2 7; simp only [List.getElem?_cons_zero, List.getElem?_cons_succ] at m0 m1 m2 m3 m4 m5 m6 m7 m8 n0 n1 n2 n3 n4 n5 n6 n7 n8 o0 o1 o2 o3 o4 o5 o6 o7; have fn0 : w3.frozen? ⟨b1, 0, none⟩ = false := row_free HW3.out.h1 0; have fn1 : w3.frozen? ⟨b1, 1, none⟩ = false := row_free HW3.out.h1 1; have fn2 : w3.frozen? ⟨b1, 2, none⟩ = false := row_free HW3.out.h1 2; have fn3 : w3.frozen? ⟨b1, 3, none⟩ = false := row_free HW3.out.h1 3; have fn4 : w3.frozen? ⟨b1, 4, none⟩ = false := row_free HW3.out.h1 4; have fn5 : w3.frozen? ⟨b1, 5, none⟩ = false := row_free HW3.out.h1 5; have fn6 : w3.frozen? ⟨b1, 6, none⟩ = false := row_free HW3.out.h1 6; have fn7 : w3.frozen? ⟨b1, 7, none⟩ = false := row_free HW3.out.h1 7; have fn8 : w3.frozen? ⟨b1, 8, none⟩ = false := row_free HW3.out.h1 8; have fo0 : w3.frozen? ⟨b2, 0, none⟩ = false := row_free HW3.out.h2 0; have fo1 : w3.frozen? ⟨b2, 1, none⟩ = false := row_free HW3.out.h2 1; have fo2 : w3.frozen? ⟨b2, 2, none⟩ = false := row_free HW3.out.h2 2; have fo3 : w3.frozen? ⟨b2, 3, none⟩ = false := row_free HW3.out.h2 3; have fo4 : w3.frozen? ⟨b2, 4, none⟩ = false := row_free HW3.out.h2 4; have fo5 : w3.frozen? ⟨b2, 5, none⟩ = false := row_free HW3.out.h2 5; have fo6 : w3.frozen? ⟨b2, 6, none⟩ = false := row_free HW3.out.h2 6; have fo7 : w3.frozen? ⟨b2, 7, none⟩ = false := row_free HW3.out.h2 7; have pn : b1 < w3.heap.size := lt_of_blk HW3.out.h1; have po : b2 < w3.heap.size := lt_of_blk HW3.out.h2)
  all_goals (
    clear x0 x1 x2 x3 x4 x5 x6 x7 x8 m0 m1 m2 m3 m4 m5 m6 m7 m8
    have hE1 : (((((((((((((((((w3.setCell ⟨b1, 0, none⟩ (.int .u32 r0)).setCell ⟨b1, 1, none⟩ (.int .u32 r1)).setCell ⟨b1, 2, none⟩ (.int .u32 r2)).setCell ⟨b1, 3, none⟩ (.int .u32 r3)).setCell ⟨b1, 4, none⟩ (.int .u32 r4)).setCell ⟨b1, 5, none⟩ (.int .u32 r5)).setCell ⟨b1, 6, none⟩ (.int .u32 r6)).setCell ⟨b1, 7, none⟩ (.int .u32 r7)).setCell ⟨b1, 8, none⟩ (.int .u32 r8)).setCell ⟨b2, 0, none⟩ (.int .i64 3)).setCell ⟨b2, 1, none⟩ (.int .u32 0)).setCell ⟨b2, 2, none⟩ (.int .u32 0)).setCell ⟨b2, 3, none⟩ (.int .u32 0)).setCell ⟨b2, 4, none⟩ (.int .u32 0)).setCell ⟨b2, 5, none⟩ (.int .u32 0)).setCell ⟨b2, 6, none⟩ (.int .u32 0)).setCell ⟨b2, 7, none⟩ (.int .i64 190)).heap[b1]? = some (.cells ([.int .u32 r0, .int .u32 r1, .int .u32 r2, .int .u32 r3, .int .u32 r4, .int .u32 r5, .int .u32 r6, .int .u32 r7, .int .u32 r8] : List Value).toArray 26 (0, 0)) := by
      have h := set9 HW3.out.h1 rfl (.int .u32 r0) (.int .u32 r1) (.int .u32 r2) (.int .u32 r3) (.int .u32 r4) (.int .u32 r5) (.int .u32 r6) (.int .u32 r7) (.int .u32 r8)
      exact (blk_setCell (blk_setCell (blk_setCell (blk_setCell (blk_setCell (blk_setCell (blk_setCell (blk_setCell h n12 _) n12 _) n12 _) n12 _) n12 _) n12 _) n12 _) n12 _)
    have hE2 : (((((((((((((((((w3.setCell ⟨b1, 0, none⟩ (.int .u32 r0)).setCell ⟨b1, 1, none⟩ (.int .u32 r1)).setCell ⟨b1, 2, none⟩ (.int .u32 r2)).setCell ⟨b1, 3, none⟩ (.int .u32 r3)).setCell ⟨b1, 4, none⟩ (.int .u32 r4)).setCell ⟨b1, 5, none⟩ (.int .u32 r5)).setCell ⟨b1, 6, none⟩ (.int .u32 r6)).setCell ⟨b1, 7, none⟩ (.int .u32 r7)).setCell ⟨b1, 8, none⟩ (.int .u32 r8)).setCell ⟨b2, 0, none⟩ (.int .i64 3)).setCell ⟨b2, 1, none⟩ (.int .u32 0)).setCell ⟨b2, 2, none⟩ (.int .u32 0)).setCell ⟨b2, 3, none⟩ (.int .u32 0)).setCell ⟨b2, 4, none⟩ (.int .u32 0)).setCell ⟨b2, 5, none⟩ (.int .u32 0)).setCell ⟨b2, 6, none⟩ (.int .u32 0)).setCell ⟨b2, 7, none⟩ (.int .i64 190)).heap[b2]? = some (.cells ([.int .i64 3, .int .u32 0, .int .u32 0, .int .u32 0, .int .u32 0, .int .u32 0, .int .u32 0, .int .i64 190] : List Value).toArray 34 (0, 0)) := by
      refine set8 (w := (((((((((w3.setCell ⟨b1, 0, none⟩ (.int .u32 r0)).setCell ⟨b1, 1, none⟩ (.int .u32 r1)).setCell ⟨b1, 2, none⟩ (.int .u32 r2)).setCell ⟨b1, 3, none⟩ (.int .u32 r3)).setCell ⟨b1, 4, none⟩ (.int .u32 r4)).setCell ⟨b1, 5, none⟩ (.int .u32 r5)).setCell ⟨b1, 6, none⟩ (.int .u32 r6)).setCell ⟨b1, 7, none⟩ (.int .u32 r7)).setCell ⟨b1, 8, none⟩ (.int .u32 r8))) (L := [.int .i64 0, .int .u32 0, .int .u32 0, .int .u32 0, .int .u32 0, .int .u32 0, .int .u32 0, .int .i64 0]) ?_ rfl (.int .i64 3) (.int .u32 0) (.int .u32 0) (.int .u32 0) (.int .u32 0) (.int .u32 0) (.int .u32 0) (.int .i64 190)
      exact (blk_setCell (blk_setCell (blk_setCell (blk_setCell (blk_setCell (blk_setCell (blk_setCell (blk_setCell (blk_setCell HW3.out.h2 n12.symm _) n12.symm _) n12.symm _) n12.symm _) n12.symm _) n12.symm _) n12.symm _) n12.symm _) n12.symm _)
    have hend : Mod (fun k => k = b1 ∨ k = b2) w3 (((((((((((((((((w3.setCell ⟨b1, 0, none⟩ (.int .u32 r0)).setCell ⟨b1, 1, none⟩ (.int .u32 r1)).setCell ⟨b1, 2, none⟩ (.int .u32 r2)).setCell ⟨b1, 3, none⟩ (.int .u32 r3)).setCell ⟨b1, 4, none⟩ (.int .u32 r4)).setCell ⟨b1, 5, none⟩ (.int .u32 r5)).setCell ⟨b1, 6, none⟩ (.int .u32 r6)).setCell ⟨b1, 7, none⟩ (.int .u32 r7)).setCell ⟨b1, 8, none⟩ (.int .u32 r8)).setCell ⟨b2, 0, none⟩ (.int .i64 3)).setCell ⟨b2, 1, none⟩ (.int .u32 0)).setCell ⟨b2, 2, none⟩ (.int .u32 0)).setCell ⟨b2, 3, none⟩ (.int .u32 0)).setCell ⟨b2, 4, none⟩ (.int .u32 0)).setCell ⟨b2, 5, none⟩ (.int .u32 0)).setCell ⟨b2, 6, none⟩ (.int .u32 0)).setCell ⟨b2, 7, none⟩ (.int .i64 190)) := (Mod.put (Mod.put (Mod.put (Mod.put (Mod.put (Mod.put (Mod.put (Mod.put (Mod.put (Mod.put (Mod.put (Mod.put (Mod.put (Mod.put (Mod.put (Mod.put (Mod.put (Mod.refl _ w3) (.inl rfl) 0 _) (.inl rfl) 1 _) (.inl rfl) 2 _) (.inl rfl) 3 _) (.inl rfl) 4 _) (.inl rfl) 5 _) (.inl rfl) 6 _) (.inl rfl) 7 _) (.inl rfl) 8 _) (.inr rfl) 0 _) (.inr rfl) 1 _) (.inr rfl) 2 _) (.inr rfl) 3 _) (.inr rfl) 4 _) (.inr rfl) 5 _) (.inr rfl) 6 _) (.inr rfl) 7 _)
    generalize (((((((((((((((((w3.setCell ⟨b1, 0, none⟩ (.int .u32 r0)).setCell ⟨b1, 1, none⟩ (.int .u32 r1)).setCell ⟨b1, 2, none⟩ (.int .u32 r2)).setCell ⟨b1, 3, none⟩ (.int .u32 r3)).setCell ⟨b1, 4, none⟩ (.int .u32 r4)).setCell ⟨b1, 5, none⟩ (.int .u32 r5)).setCell ⟨b1, 6, none⟩ (.int .u32 r6)).setCell ⟨b1, 7, none⟩ (.int .u32 r7)).setCell ⟨b1, 8, none⟩ (.int .u32 r8)).setCell ⟨b2, 0, none⟩ (.int .i64 3)).setCell ⟨b2, 1, none⟩ (.int .u32 0)).setCell ⟨b2, 2, none⟩ (.int .u32 0)).setCell ⟨b2, 3, none⟩ (.int .u32 0)).setCell ⟨b2, 4, none⟩ (.int .u32 0)).setCell ⟨b2, 5, none⟩ (.int .u32 0)).setCell ⟨b2, 6, none⟩ (.int .u32 0)).setCell ⟨b2, 7, none⟩ (.int .i64 190)) = wE at hE1 hE2 hend ⊢
    have e0 := row_cell hE1 0
    have e1 := row_cell hE1 1
    have e2 := row_cell hE1 2
    have e3 := row_cell hE1 3
    have e4 := row_cell hE1 4
    have e5 := row_cell hE1 5
    have e6 := row_cell hE1 6
    have e7 := row_cell hE1 7
    have e8 := row_cell hE1 8
    have g0 := row_cell hE2 0
    have g1 := row_cell hE2 1
    have g2 := row_cell hE2 2
    have g3 := row_cell hE2 3
    have g4 := row_cell hE2 4
    have g5 := row_cell hE2 5
    have g6 := row_cell hE2 6
    have g7 := row_cell hE2 7
    simp only [List.getElem?_cons_zero, List.getElem?_cons_succ] at e0 e1 e2 e3 e4 e5 e6 e7 e8 g0 g1 g2 g3 g4 g5 g6 g7
    go_wp2
    refine bodyPost_ret (v := .tuple #[.agg #[.int .u32 r0, .int .u32 r1, .int .u32 r2, .int .u32 r3, .int .u32 r4, .int .u32 r5, .int .u32 r6, .int .u32 r7, .int .u32 r8], .agg #[.int .i64 3, .int .u32 0, .int .u32 0, .int .u32 0, .int .u32 0, .int .u32 0, .int .u32 0, .int .i64 190]]) (by simp [results, Tryz.results16, go_sem, e0, e1, e2, e3, e4, e5, e6, e7, e8, g0, g1, g2, g3, g4, g5, g6, g7]) rfl ?_
    exact ⟨rfl, (HW3.out.m.step hend (fun i hi q => by have := HW3.out.l0; have := HW3.out.l1; have := HW3.out.l2; rcases q with q | q <;> omega)).of_no, HM.out.keptNo (HW3.out.m.step hend (fun i hi q => by have := HW3.out.l0; have := HW3.out.l1; have := HW3.out.l2; rcases q with q | q <;> omega))⟩)


set_option maxHeartbeats 8000000 in
theorem rstep_2 {K : RfK} {S : List Fr} (root r0 r1 r2 r3 r4 r5 r6 r7 r8 : Int) (w : World) (hm : RfM w K S) (h8 : 0 ≤ r8 ∧ r8 ≤ 4294967295) (o a b c' : Int) (he : (fetchR S root r8 4).1 = 0) (hbs : (fetchR S root r8 4).2 = [o, a, b, c']) (ho : 20 < o ∧ o ≤ 255) :
    Calls Tryz.prog 16 #[.pointer (some ⟨K.R, 0, none⟩), .int .i64 root, .agg #[.int .u32 r0, .int .u32 r1, .int .u32 r2, .int .u32 r3, .int .u32 r4, .int .u32 r5, .int .u32 r6, .int .u32 r7, .int .u32 r8]] w (RStepPost K ⟨[r0, r1, r2, r3, r4, r5, r6, r7], r8, faultS 191, S⟩ w) := by
  have HFE : Hid (∀ w' , Mod No w w' → Calls Tryz.prog 29 #[.pointer (some ⟨K.R, 0, none⟩), .int .i64 root, .int .u32 r8, .int .i64 4] w' (OwnB w' (fetchR S root r8 4).1 (fetchR S root r8 4).2)) := fun w' hm' => rfetchR root r8 4 w' (hm.keptNo hm') h8.1 h8.2 (by omega)
  have HM := Lib.hid hm
  have HRF := Lib.hid (fun (n : Int) (w' : World) => rfault_any n w')
  have HFR := Lib.hid (fetchR_range (root := root) (va := r8) (n := 4) hm.ok)
  have HFS : Hid ((fetchR S root r8 4).2.length ≤ 256) := Lib.hid fetchR_small
  rw [he] at HFE
  have HBS := Lib.hid hbs
  generalize (fetchR S root r8 4).2 = bs at HFE HFR HFS HBS
  clear he hbs
  clear hm h8
  go_enter Tryz.func16, Tryz.ntmps16
  go_upto_region 1 with (fail)
  have hwb := rst_made w r0 r1 r2 r3 r4 r5 r6 r7 r8
  generalize (((w.alloc (.cells #[.int .u32 r0, .int .u32 r1, .int .u32 r2, .int .u32 r3, .int .u32 r4, .int .u32 r5, .int .u32 r6, .int .u32 r7, .int .u32 r8] 26)).alloc (.cells #[.int .u32 0, .int .u32 0, .int .u32 0, .int .u32 0, .int .u32 0, .int .u32 0, .int .u32 0, .int .u32 0, .int .u32 0] 26)).alloc (.cells #[.int .i64 0, .int .u32 0, .int .u32 0, .int .u32 0, .int .u32 0, .int .u32 0, .int .u32 0, .int .i64 0] 34)) = w1 at hwb ⊢
  generalize w.heap.size + 1 + 1 = b2 at hwb ⊢
  generalize w.heap.size + 1 = b1 at hwb ⊢
  generalize w.heap.size = b0 at hwb ⊢
  have HW := Lib.hid hwb
  have x8 := row_cell hwb.h0 8
  simp only [List.getElem?_cons_zero, List.getElem?_cons_succ] at x8
  clear hwb
  go_wp2_with fail
  refine (HFE.out _ HW.out.m).mono ?_
  rintro e w2 ⟨q, k, c, rfl, hm2, hown⟩
  have HW2 := Lib.hid (HW.out.kept hm2)
  have HW1 := Lib.hid HW.out.h2
  have HOWN := Lib.hid hown
  clear x8 hm2 hown HW HFE
  obtain ⟨hk, hby, hblk⟩ := Byt.ofOwn HOWN.out HFR.out (Nat.le_trans HFS.out (by omega))
  obtain ⟨g, off, rfl, hg, hcell⟩ := hby.at_ (by have := HBS.out; rw [this]; simp)
  have hgl := (hblk g off rfl).1
  have hB := HBS.out
  rw [hB] at hcell
  have u0 := hcell 0 o rfl
  have u1 := hcell 1 a rfl
  have u2 := hcell 2 b rfl
  have u3 := hcell 3 c' rfl
  simp only [Nat.add_zero] at u0
  have hk4 : k = 4 := by rw [hk, hB]; rfl
  subst hk4
  have hg2 : b2 < g := by have := lt_of_blk HW1.out; omega
  have HU : Hid (w2.cell? ⟨g, off, none⟩ = some (.int .u8 o) ∧ w2.cell? ⟨g, off + 1, none⟩ = some (.int .u8 a) ∧ w2.cell? ⟨g, off + 2, none⟩ = some (.int .u8 b) ∧ w2.cell? ⟨g, off + 3, none⟩ = some (.int .u8 c')) := Lib.hid ⟨u0, u1, u2, u3⟩
  have hc4 : (4 : Int) ≤ c := by have := hby.fit; rw [hB] at this; have : 4 ≤ c := this; omega
  clear hcell hby hblk HOWN hk hB
  have d20 : decide (o > 20) = true := decide_eq_true ho.1
  go_upto_region 6 with (fail)
  have x0 := row_cell HW2.out.h0 0
  have x1 := row_cell HW2.out.h0 1
  have x2 := row_cell HW2.out.h0 2
  have x3 := row_cell HW2.out.h0 3
  have x4 := row_cell HW2.out.h0 4
  have x5 := row_cell HW2.out.h0 5
  have x6 := row_cell HW2.out.h0 6
  have x7 := row_cell HW2.out.h0 7
  have x8 := row_cell HW2.out.h0 8
  have y0 := row_cell HW2.out.h1 0
  have y1 := row_cell HW2.out.h1 1
  have y2 := row_cell HW2.out.h1 2
  have y3 := row_cell HW2.out.h1 3
  have y4 := row_cell HW2.out.h1 4
  have y5 := row_cell HW2.out.h1 5
  have y6 := row_cell HW2.out.h1 6
  have y7 := row_cell HW2.out.h1 7
  have y8 := row_cell HW2.out.h1 8
  have z0 := row_cell HW2.out.h2 0
  have z1 := row_cell HW2.out.h2 1
  have z2 := row_cell HW2.out.h2 2
  have z3 := row_cell HW2.out.h2 3
  have z4 := row_cell HW2.out.h2 4
  have z5 := row_cell HW2.out.h2 5
  have z6 := row_cell HW2.out.h2 6
  have z7 := row_cell HW2.out.h2 7
  simp only [List.getElem?_cons_zero, List.getElem?_cons_succ] at x0 x1 x2 x3 x4 x5 x6 x7 x8 y0 y1 y2 y3 y4 y5 y6 y7 y8 z0 z1 z2 z3 z4 z5 z6 z7
  have fy0 : w2.frozen? ⟨b1, 0, none⟩ = false := row_free HW2.out.h1 0
  have fy1 : w2.frozen? ⟨b1, 1, none⟩ = false := row_free HW2.out.h1 1
  have fy2 : w2.frozen? ⟨b1, 2, none⟩ = false := row_free HW2.out.h1 2
  have fy3 : w2.frozen? ⟨b1, 3, none⟩ = false := row_free HW2.out.h1 3
  have fy4 : w2.frozen? ⟨b1, 4, none⟩ = false := row_free HW2.out.h1 4
  have fy5 : w2.frozen? ⟨b1, 5, none⟩ = false := row_free HW2.out.h1 5
  have fy6 : w2.frozen? ⟨b1, 6, none⟩ = false := row_free HW2.out.h1 6
  have fy7 : w2.frozen? ⟨b1, 7, none⟩ = false := row_free HW2.out.h1 7
  have fy8 : w2.frozen? ⟨b1, 8, none⟩ = false := row_free HW2.out.h1 8
  have fz0 : w2.frozen? ⟨b2, 0, none⟩ = false := row_free HW2.out.h2 0
  have fz1 : w2.frozen? ⟨b2, 1, none⟩ = false := row_free HW2.out.h2 1
  have fz2 : w2.frozen? ⟨b2, 2, none⟩ = false := row_free HW2.out.h2 2
  have fz3 : w2.frozen? ⟨b2, 3, none⟩ = false := row_free HW2.out.h2 3
  have fz4 : w2.frozen? ⟨b2, 4, none⟩ = false := row_free HW2.out.h2 4
  have fz5 : w2.frozen? ⟨b2, 5, none⟩ = false := row_free HW2.out.h2 5
  have fz6 : w2.frozen? ⟨b2, 6, none⟩ = false := row_free HW2.out.h2 6
  have fz7 : w2.frozen? ⟨b2, 7, none⟩ = false := row_free HW2.out.h2 7
  have py : b1 < w2.heap.size := lt_of_blk HW2.out.h1
  have pz : b2 < w2.heap.size := lt_of_blk HW2.out.h2
  have n01 : b0 ≠ b1 := by have := HW2.out.l1; omega
  have n02 : b0 ≠ b2 := by have := HW2.out.l1; have := HW2.out.l2; omega
  have n12 : b1 ≠ b2 := by have := HW2.out.l2; omega
  go_region_with (go_at_call 30; refine (HRF.out _ _).mono ?_; rintro e w3 ⟨rfl, hm3⟩; have HW3 := Lib.hid (HW2.out.kept ((Mod.refl No w2).drew.trans hm3)); clear hm3; have m0 := row_cell HW3.out.h0 0; have m1 := row_cell HW3.out.h0 1; have m2 := row_cell HW3.out.h0 2; have m3 := row_cell HW3.out.h0 3; have m4 := row_cell HW3.out.h0 4; have m5 := row_cell HW3.out.h0 5; have m6 := row_cell HW3.out.h0 6; have m7 := row_cell HW3.out.h0 7; have m8 := row_cell HW3.out.h0 8; have n0 := row_cell HW3.out.h1 0; have n1 := row_cell HW3.out.h1 1; have n2 := row_cell HW3.out.h1 2; have n3 := row_cell HW3.out.h1 3; have n4 := row_cell HW3.out.h1 4; have n5 := row_cell HW3.out.h1 5; have n6 := row_cell HW3.out.h1 6; have n7 := row_cell HW3.out.h1 7; have n8 := row_cell HW3.out.h1 8; have o0 := row_cell HW3.out.h2 0; have o1 := row_cell HW3.out.h2 1; have o2 := row_cell HW3.out.h2 2; have o3 := row_cell HW3.out.h2 3; have o4 := row_cell HW3.out.h2 4; have o5 := row_cell HW3.out.h2 5; have o6 := row_cell HW3.out.h2 6; have o7 := row_cell HW3.out.h2 7; simp only [List.getElem?_cons_zero, List.getElem?_cons_succ] at m0 m1 m2 m3 m4 m5 m6 m7 m8 n0 n1 n2 n3 n4 n5 n6 n7 n8 o0 o1 o2 o3 o4 o5 o6 o7; have fn0 : w3.frozen? ⟨b1, 0, none⟩ = false := row_free HW3.out.h1 0; have fn1 : w3.frozen? ⟨b1, 1, none⟩ = false := row_free HW3.out.h1 1; have fn2 : w3.frozen? ⟨b1, 2, none⟩ = false := row_free HW3.out.h1 2; have fn3 : w3.frozen? ⟨b1, 3, none⟩ = false := row_free HW3.out.h1 3; have fn4 : w3.frozen? ⟨b1, 4, none⟩ = false := row_free HW3.out.h1 4; have fn5 : w3.frozen? ⟨b1, 5, none⟩ = false := row_free HW3.out.h1 5; have fn6 : w3.frozen? ⟨b1, 6, none⟩ = false := row_free HW3.out.h1 6; have fn7 : w3.frozen? ⟨b1, 7, none⟩ = false := row_free HW3.out.h1 7; have fn8 : w3.frozen? ⟨b1, 8, none⟩ = false := row_free HW3.out.h1 8; have fo0 : w3.frozen? ⟨b2, 0, none⟩ = false := row_free HW3.out.h2 0; have fo1 : w3.frozen? ⟨b2, 1, none⟩ = false := row_free HW3.out.h2 1; have fo2 : w3.frozen? ⟨b2, 2, none⟩ = false := row_free HW3.out.h2 2; have fo3 : w3.frozen? ⟨b2, 3, none⟩ = false := row_free HW3.out.h2 3; have fo4 : w3.frozen? ⟨b2, 4, none⟩ = false := row_free HW3.out.h2 4; have fo5 : w3.frozen? ⟨b2, 5, none⟩ = false := row_free HW3.out.h2 5; have fo6 : w3.frozen? ⟨b2, 6, none⟩ = false := row_free HW3.out.h2 6; have fo7 : w3.frozen? ⟨b2, 7, none⟩ = false := row_free HW3.out.h2 7; have pn : b1 < w3.heap.size := lt_of_blk HW3.out.h1; have po : b2 < w3.heap.size := lt_of_blk HW3.out.h2)
  all_goals (
    clear x0 x1 x2 x3 x4 x5 x6 x7 x8 m0 m1 m2 m3 m4 m5 m6 m7 m8
    have hE1 : (((((((((((((((((w3.setCell ⟨b1, 0, none⟩ (.int .u32 r0)).setCell ⟨b1, 1, none⟩ (.int .u32 r1)).setCell ⟨b1, 2, none⟩ (.int .u32 r2)).setCell ⟨b1, 3, none⟩ (.int .u32 r3)).setCell ⟨b1, 4, none⟩ (.int .u32 r4)).setCell ⟨b1, 5, none⟩ (.int .u32 r5)).setCell ⟨b1, 6, none⟩ (.int .u32 r6)).setCell ⟨b1, 7, none⟩ (.int .u32 r7)).setCell ⟨b1, 8, none⟩ (.int .u32 r8)).setCell ⟨b2, 0, none⟩ (.int .i64 3)).setCell ⟨b2, 1, none⟩ (.int .u32 0)).setCell ⟨b2, 2, none⟩ (.int .u32 0)).setCell ⟨b2, 3, none⟩ (.int .u32 0)).setCell ⟨b2, 4, none⟩ (.int .u32 0)).setCell ⟨b2, 5, none⟩ (.int .u32 0)).setCell ⟨b2, 6, none⟩ (.int .u32 0)).setCell ⟨b2, 7, none⟩ (.int .i64 191)).heap[b1]? = some (.cells ([.int .u32 r0, .int .u32 r1, .int .u32 r2, .int .u32 r3, .int .u32 r4, .int .u32 r5, .int .u32 r6, .int .u32 r7, .int .u32 r8] : List Value).toArray 26 (0, 0)) := by
      have h := set9 HW3.out.h1 rfl (.int .u32 r0) (.int .u32 r1) (.int .u32 r2) (.int .u32 r3) (.int .u32 r4) (.int .u32 r5) (.int .u32 r6) (.int .u32 r7) (.int .u32 r8)
      exact (blk_setCell (blk_setCell (blk_setCell (blk_setCell (blk_setCell (blk_setCell (blk_setCell (blk_setCell h n12 _) n12 _) n12 _) n12 _) n12 _) n12 _) n12 _) n12 _)
    have hE2 : (((((((((((((((((w3.setCell ⟨b1, 0, none⟩ (.int .u32 r0)).setCell ⟨b1, 1, none⟩ (.int .u32 r1)).setCell ⟨b1, 2, none⟩ (.int .u32 r2)).setCell ⟨b1, 3, none⟩ (.int .u32 r3)).setCell ⟨b1, 4, none⟩ (.int .u32 r4)).setCell ⟨b1, 5, none⟩ (.int .u32 r5)).setCell ⟨b1, 6, none⟩ (.int .u32 r6)).setCell ⟨b1, 7, none⟩ (.int .u32 r7)).setCell ⟨b1, 8, none⟩ (.int .u32 r8)).setCell ⟨b2, 0, none⟩ (.int .i64 3)).setCell ⟨b2, 1, none⟩ (.int .u32 0)).setCell ⟨b2, 2, none⟩ (.int .u32 0)).setCell ⟨b2, 3, none⟩ (.int .u32 0)).setCell ⟨b2, 4, none⟩ (.int .u32 0)).setCell ⟨b2, 5, none⟩ (.int .u32 0)).setCell ⟨b2, 6, none⟩ (.int .u32 0)).setCell ⟨b2, 7, none⟩ (.int .i64 191)).heap[b2]? = some (.cells ([.int .i64 3, .int .u32 0, .int .u32 0, .int .u32 0, .int .u32 0, .int .u32 0, .int .u32 0, .int .i64 191] : List Value).toArray 34 (0, 0)) := by
      refine set8 (w := (((((((((w3.setCell ⟨b1, 0, none⟩ (.int .u32 r0)).setCell ⟨b1, 1, none⟩ (.int .u32 r1)).setCell ⟨b1, 2, none⟩ (.int .u32 r2)).setCell ⟨b1, 3, none⟩ (.int .u32 r3)).setCell ⟨b1, 4, none⟩ (.int .u32 r4)).setCell ⟨b1, 5, none⟩ (.int .u32 r5)).setCell ⟨b1, 6, none⟩ (.int .u32 r6)).setCell ⟨b1, 7, none⟩ (.int .u32 r7)).setCell ⟨b1, 8, none⟩ (.int .u32 r8))) (L := [.int .i64 0, .int .u32 0, .int .u32 0, .int .u32 0, .int .u32 0, .int .u32 0, .int .u32 0, .int .i64 0]) ?_ rfl (.int .i64 3) (.int .u32 0) (.int .u32 0) (.int .u32 0) (.int .u32 0) (.int .u32 0) (.int .u32 0) (.int .i64 191)
      exact (blk_setCell (blk_setCell (blk_setCell (blk_setCell (blk_setCell (blk_setCell (blk_setCell (blk_setCell (blk_setCell HW3.out.h2 n12.symm _) n12.symm _) n12.symm _) n12.symm _) n12.symm _) n12.symm _) n12.symm _) n12.symm _) n12.symm _)
    have hend : Mod (fun k => k = b1 ∨ k = b2) w3 (((((((((((((((((w3.setCell ⟨b1, 0, none⟩ (.int .u32 r0)).setCell ⟨b1, 1, none⟩ (.int .u32 r1)).setCell ⟨b1, 2, none⟩ (.int .u32 r2)).setCell ⟨b1, 3, none⟩ (.int .u32 r3)).setCell ⟨b1, 4, none⟩ (.int .u32 r4)).setCell ⟨b1, 5, none⟩ (.int .u32 r5)).setCell ⟨b1, 6, none⟩ (.int .u32 r6)).setCell ⟨b1, 7, none⟩ (.int .u32 r7)).setCell ⟨b1, 8, none⟩ (.int .u32 r8)).setCell ⟨b2, 0, none⟩ (.int .i64 3)).setCell ⟨b2, 1, none⟩ (.int .u32 0)).setCell ⟨b2, 2, none⟩ (.int .u32 0)).setCell ⟨b2, 3, none⟩ (.int .u32 0)).setCell ⟨b2, 4, none⟩ (.int .u32 0)).setCell ⟨b2, 5, none⟩ (.int .u32 0)).setCell ⟨b2, 6, none⟩ (.int .u32 0)).setCell ⟨b2, 7, none⟩ (.int .i64 191)) := (Mod.put (Mod.put (Mod.put (Mod.put (Mod.put (Mod.put (Mod.put (Mod.put (Mod.put (Mod.put (Mod.put (Mod.put (Mod.put (Mod.put (Mod.put (Mod.put (Mod.put (Mod.refl _ w3) (.inl rfl) 0 _) (.inl rfl) 1 _) (.inl rfl) 2 _) (.inl rfl) 3 _) (.inl rfl) 4 _) (.inl rfl) 5 _) (.inl rfl) 6 _) (.inl rfl) 7 _) (.inl rfl) 8 _) (.inr rfl) 0 _) (.inr rfl) 1 _) (.inr rfl) 2 _) (.inr rfl) 3 _) (.inr rfl) 4 _) (.inr rfl) 5 _) (.inr rfl) 6 _) (.inr rfl) 7 _)
    generalize (((((((((((((((((w3.setCell ⟨b1, 0, none⟩ (.int .u32 r0)).setCell ⟨b1, 1, none⟩ (.int .u32 r1)).setCell ⟨b1, 2, none⟩ (.int .u32 r2)).setCell ⟨b1, 3, none⟩ (.int .u32 r3)).setCell ⟨b1, 4, none⟩ (.int .u32 r4)).setCell ⟨b1, 5, none⟩ (.int .u32 r5)).setCell ⟨b1, 6, none⟩ (.int .u32 r6)).setCell ⟨b1, 7, none⟩ (.int .u32 r7)).setCell ⟨b1, 8, none⟩ (.int .u32 r8)).setCell ⟨b2, 0, none⟩ (.int .i64 3)).setCell ⟨b2, 1, none⟩ (.int .u32 0)).setCell ⟨b2, 2, none⟩ (.int .u32 0)).setCell ⟨b2, 3, none⟩ (.int .u32 0)).setCell ⟨b2, 4, none⟩ (.int .u32 0)).setCell ⟨b2, 5, none⟩ (.int .u32 0)).setCell ⟨b2, 6, none⟩ (.int .u32 0)).setCell ⟨b2, 7, none⟩ (.int .i64 191)) = wE at hE1 hE2 hend ⊢
    have e0 := row_cell hE1 0
    have e1 := row_cell hE1 1
    have e2 := row_cell hE1 2
    have e3 := row_cell hE1 3
    have e4 := row_cell hE1 4
    have e5 := row_cell hE1 5
    have e6 := row_cell hE1 6
    have e7 := row_cell hE1 7
    have e8 := row_cell hE1 8
    have g0 := row_cell hE2 0
    have g1 := row_cell hE2 1
    have g2 := row_cell hE2 2
    have g3 := row_cell hE2 3
    have g4 := row_cell hE2 4
    have g5 := row_cell hE2 5
    have g6 := row_cell hE2 6
    have g7 := row_cell hE2 7
    simp only [List.getElem?_cons_zero, List.getElem?_cons_succ] at e0 e1 e2 e3 e4 e5 e6 e7 e8 g0 g1 g2 g3 g4 g5 g6 g7
    go_wp2
    refine bodyPost_ret (v := .tuple #[.agg #[.int .u32 r0, .int .u32 r1, .int .u32 r2, .int .u32 r3, .int .u32 r4, .int .u32 r5, .int .u32 r6, .int .u32 r7, .int .u32 r8], .agg #[.int .i64 3, .int .u32 0, .int .u32 0, .int .u32 0, .int .u32 0, .int .u32 0, .int .u32 0, .int .i64 191]]) (by simp [results, Tryz.results16, go_sem, e0, e1, e2, e3, e4, e5, e6, e7, e8, g0, g1, g2, g3, g4, g5, g6, g7]) rfl ?_
    exact ⟨rfl, (HW3.out.m.step hend (fun i hi q => by have := HW3.out.l0; have := HW3.out.l1; have := HW3.out.l2; rcases q with q | q <;> omega)).of_no, HM.out.keptNo (HW3.out.m.step hend (fun i hi q => by have := HW3.out.l0; have := HW3.out.l1; have := HW3.out.l2; rcases q with q | q <;> omega))⟩)

set_option maxHeartbeats 8000000 in
theorem rstep_3 {K : RfK} {S : List Fr} (root r0 r1 r2 r3 r4 r5 r6 r7 r8 : Int) (w : World) (hm : RfM w K S) (h8 : 0 ≤ r8 ∧ r8 ≤ 4294967295) (o : Nat) (a b c' : Int) (he : (fetchR S root r8 4).1 = 0) (hbs : (fetchR S root r8 4).2 = [(o : Int), a, b, c']) (ho : o ≤ 20) (hbad : (1 ≤ namedR o ∧ 7 < a) ∨ (2 ≤ namedR o ∧ 7 < b) ∨ (3 ≤ namedR o ∧ 7 < c')) :
    Calls Tryz.prog 16 #[.pointer (some ⟨K.R, 0, none⟩), .int .i64 root, .agg #[.int .u32 r0, .int .u32 r1, .int .u32 r2, .int .u32 r3, .int .u32 r4, .int .u32 r5, .int .u32 r6, .int .u32 r7, .int .u32 r8]] w (RStepPost K ⟨[r0, r1, r2, r3, r4, r5, r6, r7], r8, faultS 191, S⟩ w) := by
  have HFE : Hid (∀ w' , Mod No w w' → Calls Tryz.prog 29 #[.pointer (some ⟨K.R, 0, none⟩), .int .i64 root, .int .u32 r8, .int .i64 4] w' (OwnB w' (fetchR S root r8 4).1 (fetchR S root r8 4).2)) := fun w' hm' => rfetchR root r8 4 w' (hm.keptNo hm') h8.1 h8.2 (by omega)
  have HM := Lib.hid hm
  have HRF := Lib.hid (fun (n : Int) (w' : World) => rfault_any n w')
  have HFR := Lib.hid (fetchR_range (root := root) (va := r8) (n := 4) hm.ok)
  have HFS : Hid ((fetchR S root r8 4).2.length ≤ 256) := Lib.hid fetchR_small
  rw [he] at HFE
  have HBS := Lib.hid hbs
  generalize (fetchR S root r8 4).2 = bs at HFE HFR HFS HBS
  clear he hbs
  clear hm h8
  go_enter Tryz.func16, Tryz.ntmps16
  go_upto_region 1 with (fail)
  have hwb := rst_made w r0 r1 r2 r3 r4 r5 r6 r7 r8
  generalize (((w.alloc (.cells #[.int .u32 r0, .int .u32 r1, .int .u32 r2, .int .u32 r3, .int .u32 r4, .int .u32 r5, .int .u32 r6, .int .u32 r7, .int .u32 r8] 26)).alloc (.cells #[.int .u32 0, .int .u32 0, .int .u32 0, .int .u32 0, .int .u32 0, .int .u32 0, .int .u32 0, .int .u32 0, .int .u32 0] 26)).alloc (.cells #[.int .i64 0, .int .u32 0, .int .u32 0, .int .u32 0, .int .u32 0, .int .u32 0, .int .u32 0, .int .i64 0] 34)) = w1 at hwb ⊢
  generalize w.heap.size + 1 + 1 = b2 at hwb ⊢
  generalize w.heap.size + 1 = b1 at hwb ⊢
  generalize w.heap.size = b0 at hwb ⊢
  have HW := Lib.hid hwb
  have x8 := row_cell hwb.h0 8
  simp only [List.getElem?_cons_zero, List.getElem?_cons_succ] at x8
  clear hwb
  go_wp2_with fail
  refine (HFE.out _ HW.out.m).mono ?_
  rintro e w2 ⟨q, k, c, rfl, hm2, hown⟩
  have HW2 := Lib.hid (HW.out.kept hm2)
  have HW1 := Lib.hid HW.out.h2
  have HOWN := Lib.hid hown
  clear x8 hm2 hown HW HFE
  obtain ⟨hk, hby, hblk⟩ := Byt.ofOwn HOWN.out HFR.out (Nat.le_trans HFS.out (by omega))
  obtain ⟨g, off, rfl, hg, hcell⟩ := hby.at_ (by have := HBS.out; rw [this]; simp)
  have hgl := (hblk g off rfl).1
  have hB := HBS.out
  rw [hB] at hcell
  have u0 := hcell 0 (o : Int) rfl
  have u1 := hcell 1 a rfl
  have u2 := hcell 2 b rfl
  have u3 := hcell 3 c' rfl
  simp only [Nat.add_zero] at u0
  have hk4 : k = 4 := by rw [hk, hB]; rfl
  subst hk4
  have hg2 : b2 < g := by have := lt_of_blk HW1.out; omega
  have HU : Hid (w2.cell? ⟨g, off, none⟩ = some (.int .u8 o) ∧ w2.cell? ⟨g, off + 1, none⟩ = some (.int .u8 a) ∧ w2.cell? ⟨g, off + 2, none⟩ = some (.int .u8 b) ∧ w2.cell? ⟨g, off + 3, none⟩ = some (.int .u8 c')) := Lib.hid ⟨u0, u1, u2, u3⟩
  have hc4 : (4 : Int) ≤ c := by have := hby.fit; rw [hB] at this; have : 4 ≤ c := this; omega
  clear hcell hby hblk HOWN hk hB
  have d20 : decide ((o : Int) > 20) = false := decide_eq_false (by omega)
  have HNM := Lib.hid (fun w' => rnamed_any (o : Int) w' (by omega))
  have hN : namedR o ≤ 3 := namedR_le _
  have HC4 := Lib.hid hc4
  generalize namedR o = N at HNM hN hbad ⊢
  go_wp2_with fail
  go_loopw [11] (fun iv wr => ∃ (j : Nat), 1 ≤ j ∧ j ≤ N + 1 ∧ iv = .int .i64 j ∧ wr = w2 ∧ ((1 < j → a ≤ 7) ∧ (2 < j → b ≤ 7) ∧ (3 < j → c' ≤ 7))) (fun iv _ => N + 1 - (intOf iv).toNat)
  case atStart => exact ⟨1, Nat.le_refl _, by omega, rfl, rfl, by omega⟩
  case round =>
    obtain ⟨j, hj1, hj, rfl, rfl, hok⟩ := hrel
    by_cases hlt : j ≤ N
    · have hle : decide ((j : Int) ≤ (N : Int)) = true := decide_eq_true (by omega)
      have hj4 : (j : Int) < 4 := by omega
      have hj0 : (0 : Int) ≤ (j : Int) := by omega
      obtain ⟨x, hx, hxe⟩ : ∃ x, wr.cell? ⟨g, off + j, none⟩ = some (.int .u8 x) ∧ ((j = 1 ∧ x = a) ∨ (j = 2 ∧ x = b) ∨ (j = 3 ∧ x = c')) := by
        rcases (show j = 1 ∨ j = 2 ∨ j = 3 by omega) with rfl | rfl | rfl
        · exact ⟨a, HU.out.2.1, .inl ⟨rfl, rfl⟩⟩
        · exact ⟨b, HU.out.2.2.1, .inr (.inl ⟨rfl, rfl⟩)⟩
        · exact ⟨c', HU.out.2.2.2, .inr (.inr ⟨rfl, rfl⟩)⟩
      have HXE := Lib.hid hxe
      have HOK := Lib.hid hok
      by_cases h7 : 7 < x
      · have d7 : decide (x > 7) = true := decide_eq_true h7
        clear hxe hok
        go_upto_region 11 with (go_at_call 31; refine (HNM.out _).mono ?_; rintro e w3 ⟨rfl, rfl⟩)
        have x0 := row_cell HW2.out.h0 0
        have x1 := row_cell HW2.out.h0 1
        have x2 := row_cell HW2.out.h0 2
        have x3 := row_cell HW2.out.h0 3
        have x4 := row_cell HW2.out.h0 4
        have x5 := row_cell HW2.out.h0 5
        have x6 := row_cell HW2.out.h0 6
        have x7 := row_cell HW2.out.h0 7
        have x8 := row_cell HW2.out.h0 8
        have y0 := row_cell HW2.out.h1 0
        have y1 := row_cell HW2.out.h1 1
        have y2 := row_cell HW2.out.h1 2
        have y3 := row_cell HW2.out.h1 3
        have y4 := row_cell HW2.out.h1 4
        have y5 := row_cell HW2.out.h1 5
        have y6 := row_cell HW2.out.h1 6
        have y7 := row_cell HW2.out.h1 7
        have y8 := row_cell HW2.out.h1 8
        have z0 := row_cell HW2.out.h2 0
        have z1 := row_cell HW2.out.h2 1
        have z2 := row_cell HW2.out.h2 2
        have z3 := row_cell HW2.out.h2 3
        have z4 := row_cell HW2.out.h2 4
        have z5 := row_cell HW2.out.h2 5
        have z6 := row_cell HW2.out.h2 6
        have z7 := row_cell HW2.out.h2 7
        simp only [List.getElem?_cons_zero, List.getElem?_cons_succ] at x0 x1 x2 x3 x4 x5 x6 x7 x8 y0 y1 y2 y3 y4 y5 y6 y7 y8 z0 z1 z2 z3 z4 z5 z6 z7
        have fy0 : wr.frozen? ⟨b1, 0, none⟩ = false := row_free HW2.out.h1 0
        have fy1 : wr.frozen? ⟨b1, 1, none⟩ = false := row_free HW2.out.h1 1
        have fy2 : wr.frozen? ⟨b1, 2, none⟩ = false := row_free HW2.out.h1 2
        have fy3 : wr.frozen? ⟨b1, 3, none⟩ = false := row_free HW2.out.h1 3
        have fy4 : wr.frozen? ⟨b1, 4, none⟩ = false := row_free HW2.out.h1 4
        have fy5 : wr.frozen? ⟨b1, 5, none⟩ = false := row_free HW2.out.h1 5
        have fy6 : wr.frozen? ⟨b1, 6, none⟩ = false := row_free HW2.out.h1 6
        have fy7 : wr.frozen? ⟨b1, 7, none⟩ = false := row_free HW2.out.h1 7
        have fy8 : wr.frozen? ⟨b1, 8, none⟩ = false := row_free HW2.out.h1 8
        have fz0 : wr.frozen? ⟨b2, 0, none⟩ = false := row_free HW2.out.h2 0
        have fz1 : wr.frozen? ⟨b2, 1, none⟩ = false := row_free HW2.out.h2 1
        have fz2 : wr.frozen? ⟨b2, 2, none⟩ = false := row_free HW2.out.h2 2
        have fz3 : wr.frozen? ⟨b2, 3, none⟩ = false := row_free HW2.out.h2 3
        have fz4 : wr.frozen? ⟨b2, 4, none⟩ = false := row_free HW2.out.h2 4
        have fz5 : wr.frozen? ⟨b2, 5, none⟩ = false := row_free HW2.out.h2 5
        have fz6 : wr.frozen? ⟨b2, 6, none⟩ = false := row_free HW2.out.h2 6
        have fz7 : wr.frozen? ⟨b2, 7, none⟩ = false := row_free HW2.out.h2 7
        have py : b1 < wr.heap.size := lt_of_blk HW2.out.h1
        have pz : b2 < wr.heap.size := lt_of_blk HW2.out.h2
        have n01 : b0 ≠ b1 := by have := HW2.out.l1; omega
        have n02 : b0 ≠ b2 := by have := HW2.out.l1; have := HW2.out.l2; omega
        have n12 : b1 ≠ b2 := by have := HW2.out.l2; omega
        go_region_with (go_at_call 30; refine (HRF.out _ _).mono ?_; rintro e w3 ⟨rfl, hm3⟩; have HW3 := Lib.hid (HW2.out.kept ((Mod.refl No wr).drew.trans hm3)); clear hm3; have m0 := row_cell HW3.out.h0 0; have m1 := row_cell HW3.out.h0 1; have m2 := row_cell HW3.out.h0 2; have m3 := row_cell HW3.out.h0 3; have m4 := row_cell HW3.out.h0 4; have m5 := row_cell HW3.out.h0 5; have m6 := row_cell HW3.out.h0 6; have m7 := row_cell HW3.out.h0 7; have m8 := row_cell HW3.out.h0 8; have n0 := row_cell HW3.out.h1 0; have n1 := row_cell HW3.out.h1 1; have n2 := row_cell HW3.out.h1 2; have n3 := row_cell HW3.out.h1 3; have n4 := row_cell HW3.out.h1 4; have n5 := row_cell HW3.out.h1 5; have n6 := row_cell HW3.out.h1 6; have n7 := row_cell HW3.out.h1 7; have n8 := row_cell HW3.out.h1 8; have o0 := row_cell HW3.out.h2 0; have o1 := row_cell HW3.out.h2 1; have o2 := row_cell HW3.out.h2 2; have o3 := row_cell HW3.out.h2 3; have o4 := row_cell HW3.out.h2 4; have o5 := row_cell HW3.out.h2 5; have o6 := row_cell HW3.out.h2 6; have o7 := row_cell HW3.out.h2 7; simp only [List.getElem?_cons_zero, List.getElem?_cons_succ] at m0 m1 m2 m3 m4 m5 m6 m7 m8 n0 n1 n2 n3 n4 n5 n6 n7 n8 o0 o1 o2 o3 o4 o5 o6 o7; have fn0 : w3.frozen? ⟨b1, 0, none⟩ = false := row_free HW3.out.h1 0; have fn1 : w3.frozen? ⟨b1, 1, none⟩ = false := row_free HW3.out.h1 1; have fn2 : w3.frozen? ⟨b1, 2, none⟩ = false := row_free HW3.out.h1 2; have fn3 : w3.frozen? ⟨b1, 3, none⟩ = false := row_free HW3.out.h1 3; have fn4 : w3.frozen? ⟨b1, 4, none⟩ = false := row_free HW3.out.h1 4; have fn5 : w3.frozen? ⟨b1, 5, none⟩ = false := row_free HW3.out.h1 5; have fn6 : w3.frozen? ⟨b1, 6, none⟩ = false := row_free HW3.out.h1 6; have fn7 : w3.frozen? ⟨b1, 7, none⟩ = false := row_free HW3.out.h1 7; have fn8 : w3.frozen? ⟨b1, 8, none⟩ = false := row_free HW3.out.h1 8; have fo0 : w3.frozen? ⟨b2, 0, none⟩ = false := row_free HW3.out.h2 0; have fo1 : w3.frozen? ⟨b2, 1, none⟩ = false := row_free HW3.out.h2 1; have fo2 : w3.frozen? ⟨b2, 2, none⟩ = false := row_free HW3.out.h2 2; have fo3 : w3.frozen? ⟨b2, 3, none⟩ = false := row_free HW3.out.h2 3; have fo4 : w3.frozen? ⟨b2, 4, none⟩ = false := row_free HW3.out.h2 4; have fo5 : w3.frozen? ⟨b2, 5, none⟩ = false := row_free HW3.out.h2 5; have fo6 : w3.frozen? ⟨b2, 6, none⟩ = false := row_free HW3.out.h2 6; have fo7 : w3.frozen? ⟨b2, 7, none⟩ = false := row_free HW3.out.h2 7; have pn : b1 < w3.heap.size := lt_of_blk HW3.out.h1; have po : b2 < w3.heap.size := lt_of_blk HW3.out.h2)
        all_goals (
          clear x0 x1 x2 x3 x4 x5 x6 x7 x8 m0 m1 m2 m3 m4 m5 m6 m7 m8
          have hE1 : (((((((((((((((((w3.setCell ⟨b1, 0, none⟩ (.int .u32 r0)).setCell ⟨b1, 1, none⟩ (.int .u32 r1)).setCell ⟨b1, 2, none⟩ (.int .u32 r2)).setCell ⟨b1, 3, none⟩ (.int .u32 r3)).setCell ⟨b1, 4, none⟩ (.int .u32 r4)).setCell ⟨b1, 5, none⟩ (.int .u32 r5)).setCell ⟨b1, 6, none⟩ (.int .u32 r6)).setCell ⟨b1, 7, none⟩ (.int .u32 r7)).setCell ⟨b1, 8, none⟩ (.int .u32 r8)).setCell ⟨b2, 0, none⟩ (.int .i64 3)).setCell ⟨b2, 1, none⟩ (.int .u32 0)).setCell ⟨b2, 2, none⟩ (.int .u32 0)).setCell ⟨b2, 3, none⟩ (.int .u32 0)).setCell ⟨b2, 4, none⟩ (.int .u32 0)).setCell ⟨b2, 5, none⟩ (.int .u32 0)).setCell ⟨b2, 6, none⟩ (.int .u32 0)).setCell ⟨b2, 7, none⟩ (.int .i64 191)).heap[b1]? = some (.cells ([.int .u32 r0, .int .u32 r1, .int .u32 r2, .int .u32 r3, .int .u32 r4, .int .u32 r5, .int .u32 r6, .int .u32 r7, .int .u32 r8] : List Value).toArray 26 (0, 0)) := by
            have h := set9 HW3.out.h1 rfl (.int .u32 r0) (.int .u32 r1) (.int .u32 r2) (.int .u32 r3) (.int .u32 r4) (.int .u32 r5) (.int .u32 r6) (.int .u32 r7) (.int .u32 r8)
            exact (blk_setCell (blk_setCell (blk_setCell (blk_setCell (blk_setCell (blk_setCell (blk_setCell (blk_setCell h n12 _) n12 _) n12 _) n12 _) n12 _) n12 _) n12 _) n12 _)
          have hE2 : (((((((((((((((((w3.setCell ⟨b1, 0, none⟩ (.int .u32 r0)).setCell ⟨b1, 1, none⟩ (.int .u32 r1)).setCell ⟨b1, 2, none⟩ (.int .u32 r2)).setCell ⟨b1, 3, none⟩ (.int .u32 r3)).setCell ⟨b1, 4, none⟩ (.int .u32 r4)).setCell ⟨b1, 5, none⟩ (.int .u32 r5)).setCell ⟨b1, 6, none⟩ (.int .u32 r6)).setCell ⟨b1, 7, none⟩ (.int .u32 r7)).setCell ⟨b1, 8, none⟩ (.int .u32 r8)).setCell ⟨b2, 0, none⟩ (.int .i64 3)).setCell ⟨b2, 1, none⟩ (.int .u32 0)).setCell ⟨b2, 2, none⟩ (.int .u32 0)).setCell ⟨b2, 3, none⟩ (.int .u32 0)).setCell ⟨b2, 4, none⟩ (.int .u32 0)).setCell ⟨b2, 5, none⟩ (.int .u32 0)).setCell ⟨b2, 6, none⟩ (.int .u32 0)).setCell ⟨b2, 7, none⟩ (.int .i64 191)).heap[b2]? = some (.cells ([.int .i64 3, .int .u32 0, .int .u32 0, .int .u32 0, .int .u32 0, .int .u32 0, .int .u32 0, .int .i64 191] : List Value).toArray 34 (0, 0)) := by
            refine set8 (w := (((((((((w3.setCell ⟨b1, 0, none⟩ (.int .u32 r0)).setCell ⟨b1, 1, none⟩ (.int .u32 r1)).setCell ⟨b1, 2, none⟩ (.int .u32 r2)).setCell ⟨b1, 3, none⟩ (.int .u32 r3)).setCell ⟨b1, 4, none⟩ (.int .u32 r4)).setCell ⟨b1, 5, none⟩ (.int .u32 r5)).setCell ⟨b1, 6, none⟩ (.int .u32 r6)).setCell ⟨b1, 7, none⟩ (.int .u32 r7)).setCell ⟨b1, 8, none⟩ (.int .u32 r8))) (L := [.int .i64 0, .int .u32 0, .int .u32 0, .int .u32 0, .int .u32 0, .int .u32 0, .int .u32 0, .int .i64 0]) ?_ rfl (.int .i64 3) (.int .u32 0) (.int .u32 0) (.int .u32 0) (.int .u32 0) (.int .u32 0) (.int .u32 0) (.int .i64 191)
            exact (blk_setCell (blk_setCell (blk_setCell (blk_setCell (blk_setCell (blk_setCell (blk_setCell (blk_setCell (blk_setCell HW3.out.h2 n12.symm _) n12.symm _) n12.symm _) n12.symm _) n12.symm _) n12.symm _) n12.symm _) n12.symm _) n12.symm _)
          have hend : Mod (fun k => k = b1 ∨ k = b2) w3 (((((((((((((((((w3.setCell ⟨b1, 0, none⟩ (.int .u32 r0)).setCell ⟨b1, 1, none⟩ (.int .u32 r1)).setCell ⟨b1, 2, none⟩ (.int .u32 r2)).setCell ⟨b1, 3, none⟩ (.int .u32 r3)).setCell ⟨b1, 4, none⟩ (.int .u32 r4)).setCell ⟨b1, 5, none⟩ (.int .u32 r5)).setCell ⟨b1, 6, none⟩ (.int .u32 r6)).setCell ⟨b1, 7, none⟩ (.int .u32 r7)).setCell ⟨b1, 8, none⟩ (.int .u32 r8)).setCell ⟨b2, 0, none⟩ (.int .i64 3)).setCell ⟨b2, 1, none⟩ (.int .u32 0)).setCell ⟨b2, 2, none⟩ (.int .u32 0)).setCell ⟨b2, 3, none⟩ (.int .u32 0)).setCell ⟨b2, 4, none⟩ (.int .u32 0)).setCell ⟨b2, 5, none⟩ (.int .u32 0)).setCell ⟨b2, 6, none⟩ (.int .u32 0)).setCell ⟨b2, 7, none⟩ (.int .i64 191)) := (Mod.put (Mod.put (Mod.put (Mod.put (Mod.put (Mod.put (Mod.put (Mod.put (Mod.put (Mod.put (Mod.put (Mod.put (Mod.put (Mod.put (Mod.put (Mod.put (Mod.put (Mod.refl _ w3) (.inl rfl) 0 _) (.inl rfl) 1 _) (.inl rfl) 2 _) (.inl rfl) 3 _) (.inl rfl) 4 _) (.inl rfl) 5 _) (.inl rfl) 6 _) (.inl rfl) 7 _) (.inl rfl) 8 _) (.inr rfl) 0 _) (.inr rfl) 1 _) (.inr rfl) 2 _) (.inr rfl) 3 _) (.inr rfl) 4 _) (.inr rfl) 5 _) (.inr rfl) 6 _) (.inr rfl) 7 _)
          generalize (((((((((((((((((w3.setCell ⟨b1, 0, none⟩ (.int .u32 r0)).setCell ⟨b1, 1, none⟩ (.int .u32 r1)).setCell ⟨b1, 2, none⟩ (.int .u32 r2)).setCell ⟨b1, 3, none⟩ (.int .u32 r3)).setCell ⟨b1, 4, none⟩ (.int .u32 r4)).setCell ⟨b1, 5, none⟩ (.int .u32 r5)).setCell ⟨b1, 6, none⟩ (.int .u32 r6)).setCell ⟨b1, 7, none⟩ (.int .u32 r7)).setCell ⟨b1, 8, none⟩ (.int .u32 r8)).setCell ⟨b2, 0, none⟩ (.int .i64 3)).setCell ⟨b2, 1, none⟩ (.int .u32 0)).setCell ⟨b2, 2, none⟩ (.int .u32 0)).setCell ⟨b2, 3, none⟩ (.int .u32 0)).setCell ⟨b2, 4, none⟩ (.int .u32 0)).setCell ⟨b2, 5, none⟩ (.int .u32 0)).setCell ⟨b2, 6, none⟩ (.int .u32 0)).setCell ⟨b2, 7, none⟩ (.int .i64 191)) = wE at hE1 hE2 hend ⊢
          have e0 := row_cell hE1 0
          have e1 := row_cell hE1 1
          have e2 := row_cell hE1 2
          have e3 := row_cell hE1 3
          have e4 := row_cell hE1 4
          have e5 := row_cell hE1 5
          have e6 := row_cell hE1 6
          have e7 := row_cell hE1 7
          have e8 := row_cell hE1 8
          have g0 := row_cell hE2 0
          have g1 := row_cell hE2 1
          have g2 := row_cell hE2 2
          have g3 := row_cell hE2 3
          have g4 := row_cell hE2 4
          have g5 := row_cell hE2 5
          have g6 := row_cell hE2 6
          have g7 := row_cell hE2 7
          simp only [List.getElem?_cons_zero, List.getElem?_cons_succ] at e0 e1 e2 e3 e4 e5 e6 e7 e8 g0 g1 g2 g3 g4 g5 g6 g7
          go_wp2
          refine bodyPost_ret (v := .tuple #[.agg #[.int .u32 r0, .int .u32 r1, .int .u32 r2, .int .u32 r3, .int .u32 r4, .int .u32 r5, .int .u32 r6, .int .u32 r7, .int .u32 r8], .agg #[.int .i64 3, .int .u32 0, .int .u32 0, .int .u32 0, .int .u32 0, .int .u32 0, .int .u32 0, .int .i64 191]]) (by simp [results, Tryz.results16, go_sem, e0, e1, e2, e3, e4, e5, e6, e7, e8, g0, g1, g2, g3, g4, g5, g6, g7]) rfl ?_
          exact ⟨rfl, (HW3.out.m.step hend (fun i hi q => by have := HW3.out.l0; have := HW3.out.l1; have := HW3.out.l2; rcases q with q | q <;> omega)).of_no, HM.out.keptNo (HW3.out.m.step hend (fun i hi q => by have := HW3.out.l0; have := HW3.out.l1; have := HW3.out.l2; rcases q with q | q <;> omega))⟩)
      · have d7 : decide (x > 7) = false := decide_eq_false h7
        clear hxe hok
        go_wp2_with (go_at_call 31; refine (HNM.out _).mono ?_; rintro e w3 ⟨rfl, rfl⟩)
        go_roundw
        case rel => exact ⟨j + 1, by omega, by omega, by go_num, (by first | rfl | trivial), by have := HXE.out; have := HOK.out; omega⟩
        case measure => simp [intOf]; omega
    · have hle : decide ((j : Int) ≤ (N : Int)) = false := decide_eq_false (by omega)
      exfalso
      omega

end Go.Proofs.YtlbebneblmgdcaaGreatDoor
