/- CoreRuns: programs of any bytes, for any number of steps; the walk. (Printed by wip/gen_runs.py.) -/
import Derived.Test.YtlbebneblmgdcaaGreatDoorRef19Run
import Derived.Test.YtlbebneblmgdcaaGreatDoorRef19StepD
import Derived.Test.YtlbebneblmgdcaaGreatDoorLaw19BeginW
import Derived.Test.YtlbebneblmgdcaaGreatDoorLaw19Same
import Derived.Test.YtlbebneblmgdcaaGreatDoorCoreText
namespace Go.Proofs.YtlbebneblmgdcaaGreatDoor
open Go.RowKit
set_option maxRecDepth 100000

structure RnW (w w' : World) (B F b6 : Nat) (K : RfK) (S1 S2 : List Fr) (r0 r1 r2 r3 r4 r5 r6 r7 r8 : Int) : Prop where
  m : Mod No w w'
  p : PhM w' B F S1
  r : RfM w' K S2
  h6 : w'.heap[b6]? = some (.cells ([.int .u32 r0, .int .u32 r1, .int .u32 r2, .int .u32 r3, .int .u32 r4, .int .u32 r5, .int .u32 r6, .int .u32 r7, .int .u32 r8] : List Value).toArray 26 (0, 0))
  f : w.heap.size ≤ F
  k : ∀ k, K.has k → w.heap.size ≤ k
  n6 : b6 ≠ F
  k6 : ¬ K.has b6
theorem RnW.run1 {w w1 w2 : World} {B F b6 : Nat} {K : RfK} {S1 S2 S' : List Fr} {r0 r1 r2 r3 r4 r5 r6 r7 r8 : Int} (h : RnW w w1 B F b6 K S1 S2 r0 r1 r2 r3 r4 r5 r6 r7 r8) (hm : Mod (One F) w1 w2) (hp : PhM w2 B F S') : RnW w w2 B F b6 K S' S2 r0 r1 r2 r3 r4 r5 r6 r7 r8 :=
  ⟨h.m.step hm (fun i hi q => by have := h.f; have q' : i = F := q; omega), hp, h.r.kept hm (fun k hk (e : k = F) => (h.r.ne_phys h.p).2 (e ▸ hk)), hm.blk h.h6 (fun q => h.n6 q), h.f, h.k, h.n6, h.k6⟩
theorem RnW.run2 {w w1 w2 : World} {B F b6 : Nat} {K : RfK} {S1 S2 S' : List Fr} {r0 r1 r2 r3 r4 r5 r6 r7 r8 : Int} (h : RnW w w1 B F b6 K S1 S2 r0 r1 r2 r3 r4 r5 r6 r7 r8) (hm : Mod K.inn w1 w2) (hr : RfM w2 K S') : RnW w w2 B F b6 K S1 S' r0 r1 r2 r3 r4 r5 r6 r7 r8 :=
  ⟨h.m.step hm (fun i hi q => by have := h.k i (RfK.inn_has q); omega), h.p.kept hm (fun q => (h.r.ne_phys h.p).1 (RfK.inn_has q)) (fun q => (h.r.ne_phys h.p).2 (RfK.inn_has q)), hr, hm.blk h.h6 (fun q => h.k6 (RfK.inn_has q)), h.f, h.k, h.n6, h.k6⟩
theorem RnW.on {w w1 w2 : World} {B F b6 : Nat} {K : RfK} {S1 S2 : List Fr} {r0 r1 r2 r3 r4 r5 r6 r7 r8 : Int} (h : RnW w w1 B F b6 K S1 S2 r0 r1 r2 r3 r4 r5 r6 r7 r8) (hm : Mod No w1 w2) : RnW w w2 B F b6 K S1 S2 r0 r1 r2 r3 r4 r5 r6 r7 r8 :=
  ⟨h.m.trans hm, h.p.kept hm (fun q => q) (fun q => q), h.r.keptNo hm, hm.blk h.h6 (fun q => q), h.f, h.k, h.n6, h.k6⟩
theorem laid2 (w1 : World) (q0 q1 q2 q3 q4 q5 q6 q7 q8 sk sc s1 s2 s3 s4 s5 sy : Int) :
    Mod No w1 ((w1.alloc (.cells #[.int .u32 q0, .int .u32 q1, .int .u32 q2, .int .u32 q3, .int .u32 q4, .int .u32 q5, .int .u32 q6, .int .u32 q7, .int .u32 q8] 26)).alloc (.cells #[.int .i64 sk, .int .u32 sc, .int .u32 s1, .int .u32 s2, .int .u32 s3, .int .u32 s4, .int .u32 s5, .int .i64 sy] 34)) ∧ ((w1.alloc (.cells #[.int .u32 q0, .int .u32 q1, .int .u32 q2, .int .u32 q3, .int .u32 q4, .int .u32 q5, .int .u32 q6, .int .u32 q7, .int .u32 q8] 26)).alloc (.cells #[.int .i64 sk, .int .u32 sc, .int .u32 s1, .int .u32 s2, .int .u32 s3, .int .u32 s4, .int .u32 s5, .int .i64 sy] 34)).heap[w1.heap.size]? = some (.cells ([.int .u32 q0, .int .u32 q1, .int .u32 q2, .int .u32 q3, .int .u32 q4, .int .u32 q5, .int .u32 q6, .int .u32 q7, .int .u32 q8] : List Value).toArray 26 (0, 0)) ∧ ((w1.alloc (.cells #[.int .u32 q0, .int .u32 q1, .int .u32 q2, .int .u32 q3, .int .u32 q4, .int .u32 q5, .int .u32 q6, .int .u32 q7, .int .u32 q8] 26)).alloc (.cells #[.int .i64 sk, .int .u32 sc, .int .u32 s1, .int .u32 s2, .int .u32 s3, .int .u32 s4, .int .u32 s5, .int .i64 sy] 34)).heap[w1.heap.size + 1]? = some (.cells ([.int .i64 sk, .int .u32 sc, .int .u32 s1, .int .u32 s2, .int .u32 s3, .int .u32 s4, .int .u32 s5, .int .i64 sy] : List Value).toArray 34 (0, 0)) := by
  refine ⟨((Mod.refl No w1).alloc _).alloc _, blk_alloc (heap_alloc_new w1 _) _, ?_⟩
  have := heap_alloc_new (w1.alloc (.cells #[.int .u32 q0, .int .u32 q1, .int .u32 q2, .int .u32 q3, .int .u32 q4, .int .u32 q5, .int .u32 q6, .int .u32 q7, .int .u32 q8] 26)) (.cells #[.int .i64 sk, .int .u32 sc, .int .u32 s1, .int .u32 s2, .int .u32 s3, .int .u32 s4, .int .u32 s5, .int .i64 sy] 34)
  rwa [World.size_alloc] at this
theorem eq5t (d : Nat) (a1 a2 a3 a4 a5 : Int) (w : World) : (Op.equalIn (d + 2) 31 (.agg #[.int .u32 a1, .int .u32 a2, .int .u32 a3, .int .u32 a4, .int .u32 a5]) (.agg #[.int .u32 a1, .int .u32 a2, .int .u32 a3, .int .u32 a4, .int .u32 a5])).run Tryz.prog w = .ok true w := by
  obtain ⟨i, hi⟩ : ∃ i, Tryz.prog.info? 23 = some i := Option.isSome_iff_exists.1 (show (Tryz.prog.info? 23).isSome = true by kernel_rfl)
  rw [run_equalIn_array w (d + 1) _ _ Tryz.underlying31 hi, show Tryz.prog.cellsOf 23 = 1 by kernel_rfl]
  have hp : ∀ (xs : Array Value) (j : Nat) (v : Value) (w : World), xs[j]? = some v → (part 23 xs (j * 1)).run Tryz.prog w = .ok v w := fun xs j v w h => by
    rw [Nat.mul_one]
    simp [part, h, go_sem]
  simp [Op.eqItems, List.range, List.range.loop, go_sem, Tryz.underlying23]

set_option maxHeartbeats 16000000 in
theorem runs_any (p : Option Addr) (ops : List KPut) (cap : Nat) (root r0 r1 r2 r3 r4 r5 r6 r7 r8 n : Int) (w : World) (hs : KPutS w p ops) (hlen : ops.length * 40 ≤ 140737488355328) (hnil : p = none → cap = 0) (h8 : regOk r8) (hreg : regsIn [r0, r1, r2, r3, r4, r5, r6, r7]) :
    Calls Tryz.prog 3 #[.slice p ops.length cap, .int .i64 root, .agg #[.int .u32 r0, .int .u32 r1, .int .u32 r2, .int .u32 r3, .int .u32 r4, .int .u32 r5, .int .u32 r6, .int .u32 r7, .int .u32 r8], .int .i64 n] w fun e w' => e = .returned (.bool true) ∧ Mod No w w' := by
  obtain ⟨N, hN, hN4⟩ : ∃ N, N = min n 4096 ∧ N ≤ 4096 := ⟨_, rfl, by omega⟩
  have HRUN : Hid (∀ (w' : World) (B F : Nat), PhM w' B F (begS ops) → invS 0 (begS ops) → Calls Tryz.prog 5 #[.pointer (some ⟨B, 0, none⟩), .int .i64 root, .agg #[.int .u32 r0, .int .u32 r1, .int .u32 r2, .int .u32 r3, .int .u32 r4, .int .u32 r5, .int .u32 r6, .int .u32 r7, .int .u32 r8], .int .i64 N] w' (RunPost 0 (begS ops).length B F (runR root N.toNat (begS ops) [r0, r1, r2, r3, r4, r5, r6, r7] r8) w')) :=
    Lib.hid (fun w' B F hp hi => run_any root r0 r1 r2 r3 r4 r5 r6 r7 r8 N w' hp hi h8 hreg (by omega))
  have HRUN2 : Hid (∀ (w' : World) (K : RfK), RfM w' K (begS ops) → invS 0 (begS ops) → Calls Tryz.prog 6 #[.pointer (some ⟨K.R, 0, none⟩), .int .i64 root, .agg #[.int .u32 r0, .int .u32 r1, .int .u32 r2, .int .u32 r3, .int .u32 r4, .int .u32 r5, .int .u32 r6, .int .u32 r7, .int .u32 r8], .int .i64 N] w' (RRunPost K (runR root N.toNat (begS ops) [r0, r1, r2, r3, r4, r5, r6, r7] r8) w')) :=
    Lib.hid (fun w' K hp hi => rrun_any root r0 r1 r2 r3 r4 r5 r6 r7 r8 N w' (fun S r0 r1 r2 r3 r4 r5 r6 r7 r8 w' hr h8 hreg => rstep_any root r0 r1 r2 r3 r4 r5 r6 r7 r8 w' hr h8 hreg.2) hp hi h8 hreg (by omega))
  have HS := Lib.hid hs
  have HNI := Lib.hid hnil
  have HN := Lib.hid hN
  have hcase : (n < 4096 ∧ N = n) ∨ (¬ n < 4096 ∧ N = 4096) := by omega
  clear hs hnil h8 hreg hN hN4
  go_enter Tryz.func3, Tryz.ntmps3
  go_upto_region 1 with (fail)
  have h6 : (w.alloc (.cells #[.int .u32 r0, .int .u32 r1, .int .u32 r2, .int .u32 r3, .int .u32 r4, .int .u32 r5, .int .u32 r6, .int .u32 r7, .int .u32 r8] 26)).heap[w.heap.size]? = some (.cells ([.int .u32 r0, .int .u32 r1, .int .u32 r2, .int .u32 r3, .int .u32 r4, .int .u32 r5, .int .u32 r6, .int .u32 r7, .int .u32 r8] : List Value).toArray 26 (0, 0)) := heap_alloc_new w _
  have hm0 : Mod No w (w.alloc (.cells #[.int .u32 r0, .int .u32 r1, .int .u32 r2, .int .u32 r3, .int .u32 r4, .int .u32 r5, .int .u32 r6, .int .u32 r7, .int .u32 r8] 26)) := (Mod.refl No w).alloc _
  generalize (w.alloc (.cells #[.int .u32 r0, .int .u32 r1, .int .u32 r2, .int .u32 r3, .int .u32 r4, .int .u32 r5, .int .u32 r6, .int .u32 r7, .int .u32 r8] 26)) = w1 at h6 hm0 ⊢
  generalize hb6 : w.heap.size = b6 at h6 ⊢
  have H6 := Lib.hid h6
  have HM0 := Lib.hid hm0
  have HB6 := Lib.hid hb6
  clear h6 hm0 hb6
  go_wp2_with fail
  refine (begin19_in p ops cap w1 (HS.out.kept HM0.out) hlen HNI.out).mono ?_
  rintro e w3 ⟨B, F, K, rfl, hrd⟩
  have hrn : RnW w w3 B F b6 K (begS ops) (begS ops) r0 r1 r2 r3 r4 r5 r6 r7 r8 := by
    have k1 := lt_of_blk H6.out
    have k2 := hrd.F
    have k5 := HB6.out
    have k6 := HM0.out.size
    exact ⟨HM0.out.trans hrd.mod, hrd.two.p, hrd.two.r, hrd.mod.blk H6.out (fun q => q), by omega, fun k hk => by have := hrd.K k hk; omega, by omega, fun q => by have := hrd.K b6 q; omega⟩
  have HRN := Lib.hid hrn
  have HO1 := Lib.hid (HRUN.out w3 B F hrd.two.p hrd.two.inv)
  have HO2 : Hid (∀ w', RfM w' K (begS ops) → _) := Lib.hid (fun w' hr => HRUN2.out w' K hr hrd.two.inv)
  clear hrd hrn HRUN HRUN2 HS HNI H6 HM0 HB6 hlen
  have x0 := row_cell HRN.out.h6 0
  have x1 := row_cell HRN.out.h6 1
  have x2 := row_cell HRN.out.h6 2
  have x3 := row_cell HRN.out.h6 3
  have x4 := row_cell HRN.out.h6 4
  have x5 := row_cell HRN.out.h6 5
  have x6 := row_cell HRN.out.h6 6
  have x7 := row_cell HRN.out.h6 7
  have x8 := row_cell HRN.out.h6 8
  simp only [List.getElem?_cons_zero, List.getElem?_cons_succ] at x0 x1 x2 x3 x4 x5 x6 x7 x8
  generalize runR root N.toNat (begS ops) [r0, r1, r2, r3, r4, r5, r6, r7] r8 = o1 at HO1 HO2
  generalize begS ops = S0 at HO1 HO2 HRN
  obtain ⟨⟨R1, q8, ⟨sk, sc, s1, s2, s3, s4, s5, sy⟩, S1⟩, k1⟩ := o1
  go_upto_region 4 with (fail)
  have HCS := Lib.hid hcase
  clear hcase
  go_upto_region 5 with (fail)
  rw [← HN.out]
  go_upto_region 6 with (go_at_call 5; refine HO1.out.mono ?_; rintro e w4 ⟨rfl, hm4, hp4, hok4⟩; obtain ⟨q0, q1, q2, q3, q4, q5, q6, q7, hR1⟩ := list8 hok4.1.regs.1; dsimp only at hR1; subst hR1; dsimp only [cpuV, Stp.L, stopL, List.map_cons, List.map_nil, List.cons_append, List.nil_append]; have HRN4 := Lib.hid (HRN.out.run1 hm4 hp4); clear hm4 hp4 hok4)
  have hld := laid2 w4 q0 q1 q2 q3 q4 q5 q6 q7 q8 sk sc s1 s2 s3 s4 s5 sy
  have hK4 : ∀ k, K.has k → k < w4.heap.size := fun k hk => HRN4.out.r.lt k hk
  generalize ((w4.alloc (.cells #[.int .u32 q0, .int .u32 q1, .int .u32 q2, .int .u32 q3, .int .u32 q4, .int .u32 q5, .int .u32 q6, .int .u32 q7, .int .u32 q8] 26)).alloc (.cells #[.int .i64 sk, .int .u32 sc, .int .u32 s1, .int .u32 s2, .int .u32 s3, .int .u32 s4, .int .u32 s5, .int .i64 sy] 34)) = w5 at hld ⊢
  generalize hg14 : w4.heap.size + 1 = b14 at hld ⊢
  generalize hg12 : w4.heap.size = b12 at hld hK4 hg14 ⊢
  obtain ⟨hm5, h12, h14⟩ := hld
  have HRN5 := Lib.hid (HRN4.out.on hm5)
  have H12 := Lib.hid h12
  have H14 := Lib.hid h14
  have N12 : Hid (¬ K.inn b12) := fun q => by have := hK4 _ (RfK.inn_has q); omega
  have N14 : Hid (¬ K.inn b14) := fun q => by have := hK4 _ (RfK.inn_has q); omega
  clear hm5 h12 h14 hK4 hg12 hg14 HRN4 HO1 HRN x0 x1 x2 x3 x4 x5 x6 x7 x8
  have x0 := row_cell HRN5.out.h6 0
  have x1 := row_cell HRN5.out.h6 1
  have x2 := row_cell HRN5.out.h6 2
  have x3 := row_cell HRN5.out.h6 3
  have x4 := row_cell HRN5.out.h6 4
  have x5 := row_cell HRN5.out.h6 5
  have x6 := row_cell HRN5.out.h6 6
  have x7 := row_cell HRN5.out.h6 7
  have x8 := row_cell HRN5.out.h6 8
  simp only [List.getElem?_cons_zero, List.getElem?_cons_succ] at x0 x1 x2 x3 x4 x5 x6 x7 x8
  go_upto_region 7 with (go_at_call 6; refine (HO2.out _ HRN5.out.r).mono ?_; rintro e w6 ⟨rfl, hm6, hr6⟩; dsimp only [cpuV, Stp.L, stopL, List.map_cons, List.map_nil, List.cons_append, List.nil_append]; have HRN6 := Lib.hid (HRN5.out.run2 hm6 hr6); have H126 := Lib.hid (hm6.blk H12.out N12.out); have H146 := Lib.hid (hm6.blk H14.out N14.out); clear hm6 hr6)
  have hld := laid2 w6 q0 q1 q2 q3 q4 q5 q6 q7 q8 sk sc s1 s2 s3 s4 s5 sy
  generalize ((w6.alloc (.cells #[.int .u32 q0, .int .u32 q1, .int .u32 q2, .int .u32 q3, .int .u32 q4, .int .u32 q5, .int .u32 q6, .int .u32 q7, .int .u32 q8] 26)).alloc (.cells #[.int .i64 sk, .int .u32 sc, .int .u32 s1, .int .u32 s2, .int .u32 s3, .int .u32 s4, .int .u32 s5, .int .i64 sy] 34)) = w7 at hld ⊢
  generalize w6.heap.size + 1 = b17 at hld ⊢
  generalize w6.heap.size = b15 at hld ⊢
  obtain ⟨hm7, h15, h17⟩ := hld
  have HRN7 := Lib.hid (HRN6.out.on hm7)
  have h12 := hm7.blk H126.out (fun q => q)
  have h14 := hm7.blk H146.out (fun q => q)
  clear x0 x1 x2 x3 x4 x5 x6 x7 x8 H12 H14 H126 H146 N12 N14 HO2 HRN5 HRN6 hm7
  have a0 := row_cell h12 0
  have a1 := row_cell h12 1
  have a2 := row_cell h12 2
  have a3 := row_cell h12 3
  have a4 := row_cell h12 4
  have a5 := row_cell h12 5
  have a6 := row_cell h12 6
  have a7 := row_cell h12 7
  have a8 := row_cell h12 8
  have c0 := row_cell h14 0
  have c1 := row_cell h14 1
  have c2 := row_cell h14 2
  have c3 := row_cell h14 3
  have c4 := row_cell h14 4
  have c5 := row_cell h14 5
  have c6 := row_cell h14 6
  have c7 := row_cell h14 7
  have d0 := row_cell h15 0
  have d1 := row_cell h15 1
  have d2 := row_cell h15 2
  have d3 := row_cell h15 3
  have d4 := row_cell h15 4
  have d5 := row_cell h15 5
  have d6 := row_cell h15 6
  have d7 := row_cell h15 7
  have d8 := row_cell h15 8
  have g0 := row_cell h17 0
  have g1 := row_cell h17 1
  have g2 := row_cell h17 2
  have g3 := row_cell h17 3
  have g4 := row_cell h17 4
  have g5 := row_cell h17 5
  have g6 := row_cell h17 6
  have g7 := row_cell h17 7
  simp only [List.getElem?_cons_zero, List.getElem?_cons_succ] at a0 a1 a2 a3 a4 a5 a6 a7 a8 c0 c1 c2 c3 c4 c5 c6 c7 d0 d1 d2 d3 d4 d5 d6 d7 d8 g0 g1 g2 g3 g4 g5 g6 g7
  clear h12 h14 h15 h17
  have he2 : ∀ w, (Op.equalIn 9999 24 (.agg #[.int .u32 q0, .int .u32 q1, .int .u32 q2, .int .u32 q3, .int .u32 q4, .int .u32 q5, .int .u32 q6, .int .u32 q7]) (.agg #[.int .u32 q0, .int .u32 q1, .int .u32 q2, .int .u32 q3, .int .u32 q4, .int .u32 q5, .int .u32 q6, .int .u32 q7])).run Tryz.prog w = .ok true w := fun w => (eq8b 9997 q0 q1 q2 q3 q4 q5 q6 q7 q0 q1 q2 q3 q4 q5 q6 q7 w).trans (by rw [decide_eq_true rfl])
  have he3 : ∀ w, (Op.equalIn 9999 31 (.agg #[.int .u32 s1, .int .u32 s2, .int .u32 s3, .int .u32 s4, .int .u32 s5]) (.agg #[.int .u32 s1, .int .u32 s2, .int .u32 s3, .int .u32 s4, .int .u32 s5])).run Tryz.prog w = .ok true w := fun w => eq5t 9997 s1 s2 s3 s4 s5 w
  go_wp2_with (first | (go_at_call 7; refine (same19_yes _ HRN7.out.p HRN7.out.r).mono ?_; rintro e w8 ⟨rfl, hm8⟩; have HM8 := Lib.hid (HRN7.out.m.trans hm8); clear hm8) | (go_at_call 8; refine (awake19_yes _).mono ?_; rintro e w9 ⟨rfl, hm9⟩; have HM9 := Lib.hid (HM8.out.trans hm9); clear hm9))
  go_ret
  exact ⟨rfl, HM9.out⟩
end Go.Proofs.YtlbebneblmgdcaaGreatDoor
