/- CoreTwice: running on is running all; the walk. (Printed by wip/gen_twice.py.) -/
import Derived.Test.YtlbebneblmgdcaaDoorCoreRun
import Derived.Test.YtlbebneblmgdcaaDoorCoreTwiceP
import Derived.Test.YtlbebneblmgdcaaDoorLaw19BeginW
import Derived.Test.YtlbebneblmgdcaaDoorCoreText
import Derived.Test.YtlbebneblmgdcaaDoorPhysH
namespace Go.Proofs.YtlbebneblmgdcaaDoor
open Go.RowKit
set_option maxRecDepth 100000

theorem PhM.apart {w : World} {B F B' F' : Nat} {S S' : List Fr} (h : PhM w B F S) (h' : PhM w B' F' S') : B ≠ F' := by
  rintro rfl
  obtain ⟨c, _, h1⟩ := h.head
  obtain ⟨r, h2⟩ := h'.row
  rw [h1] at h2
  simp at h2

/-- Two machines, the registers that came in. -/
structure TwW (w w' : World) (B1 F1 B2 F2 b5 : Nat) (S1 S2 : List Fr) (r0 r1 r2 r3 r4 r5 r6 r7 r8 : Int) : Prop where
  m : Mod No w w'
  p1 : PhM w' B1 F1 S1
  p2 : PhM w' B2 F2 S2
  h5 : w'.heap[b5]? = some (.cells ([.int .u32 r0, .int .u32 r1, .int .u32 r2, .int .u32 r3, .int .u32 r4, .int .u32 r5, .int .u32 r6, .int .u32 r7, .int .u32 r8] : List Value).toArray 26 (0, 0))
  f1 : w.heap.size ≤ F1
  f2 : w.heap.size ≤ F2
  n12 : F1 ≠ F2
  n51 : b5 ≠ F1
  n52 : b5 ≠ F2
theorem TwW.run1 {w w1 w2 : World} {B1 F1 B2 F2 b5 : Nat} {S1 S2 S' : List Fr} {r0 r1 r2 r3 r4 r5 r6 r7 r8 : Int} (h : TwW w w1 B1 F1 B2 F2 b5 S1 S2 r0 r1 r2 r3 r4 r5 r6 r7 r8) (hm : Mod (One F1) w1 w2) (hp : PhM w2 B1 F1 S') : TwW w w2 B1 F1 B2 F2 b5 S' S2 r0 r1 r2 r3 r4 r5 r6 r7 r8 :=
  ⟨h.m.step hm (fun i hi q => by have := h.f1; have q' : i = F1 := q; omega), hp, h.p2.kept hm (fun q => h.p2.apart h.p1 q) (fun q => h.n12 q.symm), hm.blk h.h5 (fun q => h.n51 q), h.f1, h.f2, h.n12, h.n51, h.n52⟩
theorem TwW.run2 {w w1 w2 : World} {B1 F1 B2 F2 b5 : Nat} {S1 S2 S' : List Fr} {r0 r1 r2 r3 r4 r5 r6 r7 r8 : Int} (h : TwW w w1 B1 F1 B2 F2 b5 S1 S2 r0 r1 r2 r3 r4 r5 r6 r7 r8) (hm : Mod (One F2) w1 w2) (hp : PhM w2 B2 F2 S') : TwW w w2 B1 F1 B2 F2 b5 S1 S' r0 r1 r2 r3 r4 r5 r6 r7 r8 :=
  ⟨h.m.step hm (fun i hi q => by have := h.f2; have q' : i = F2 := q; omega), h.p1.kept hm (fun q => h.p1.apart h.p2 q) (fun q => h.n12 q), hp, hm.blk h.h5 (fun q => h.n52 q), h.f1, h.f2, h.n12, h.n51, h.n52⟩
theorem TwW.on {w w1 w2 : World} {B1 F1 B2 F2 b5 : Nat} {S1 S2 : List Fr} {r0 r1 r2 r3 r4 r5 r6 r7 r8 : Int} (h : TwW w w1 B1 F1 B2 F2 b5 S1 S2 r0 r1 r2 r3 r4 r5 r6 r7 r8) {Q : Nat → Prop} (hm : Mod Q w1 w2) (hq : ∀ k, Q k → w.heap.size ≤ k ∧ k ≠ B1 ∧ k ≠ F1 ∧ k ≠ B2 ∧ k ≠ F2 ∧ k ≠ b5) : TwW w w2 B1 F1 B2 F2 b5 S1 S2 r0 r1 r2 r3 r4 r5 r6 r7 r8 :=
  ⟨h.m.step hm (fun i hi q => by have := (hq i q).1; omega), h.p1.kept hm (fun q => (hq _ q).2.1 rfl) (fun q => (hq _ q).2.2.1 rfl), h.p2.kept hm (fun q => (hq _ q).2.2.2.1 rfl) (fun q => (hq _ q).2.2.2.2.1 rfl), hm.blk h.h5 (fun q => (hq _ q).2.2.2.2.2 rfl), h.f1, h.f2, h.n12, h.n51, h.n52⟩
theorem TwW.lt {w w1 : World} {B1 F1 B2 F2 b5 : Nat} {S1 S2 : List Fr} {r0 r1 r2 r3 r4 r5 r6 r7 r8 : Int} (h : TwW w w1 B1 F1 B2 F2 b5 S1 S2 r0 r1 r2 r3 r4 r5 r6 r7 r8) : B1 < w1.heap.size ∧ F1 < w1.heap.size ∧ B2 < w1.heap.size ∧ F2 < w1.heap.size ∧ b5 < w1.heap.size := ⟨h.p1.ltB, h.p1.ltF, h.p2.ltB, h.p2.ltF, lt_of_blk h.h5⟩
/-- The answers of a run, laid in two new blocks. -/
theorem TwW.laid {w w1 : World} {B1 F1 B2 F2 b5 : Nat} {S1 S2 : List Fr} {r0 r1 r2 r3 r4 r5 r6 r7 r8 : Int} (h : TwW w w1 B1 F1 B2 F2 b5 S1 S2 r0 r1 r2 r3 r4 r5 r6 r7 r8) (q0 q1 q2 q3 q4 q5 q6 q7 q8 sk sc s1 s2 s3 s4 s5 sy : Int) :
    TwW w ((w1.alloc (.cells #[.int .u32 q0, .int .u32 q1, .int .u32 q2, .int .u32 q3, .int .u32 q4, .int .u32 q5, .int .u32 q6, .int .u32 q7, .int .u32 q8] 26)).alloc (.cells #[.int .i64 sk, .int .u32 sc, .int .u32 s1, .int .u32 s2, .int .u32 s3, .int .u32 s4, .int .u32 s5, .int .i64 sy] 34)) B1 F1 B2 F2 b5 S1 S2 r0 r1 r2 r3 r4 r5 r6 r7 r8 ∧ ((w1.alloc (.cells #[.int .u32 q0, .int .u32 q1, .int .u32 q2, .int .u32 q3, .int .u32 q4, .int .u32 q5, .int .u32 q6, .int .u32 q7, .int .u32 q8] 26)).alloc (.cells #[.int .i64 sk, .int .u32 sc, .int .u32 s1, .int .u32 s2, .int .u32 s3, .int .u32 s4, .int .u32 s5, .int .i64 sy] 34)).heap[w1.heap.size]? = some (.cells ([.int .u32 q0, .int .u32 q1, .int .u32 q2, .int .u32 q3, .int .u32 q4, .int .u32 q5, .int .u32 q6, .int .u32 q7, .int .u32 q8] : List Value).toArray 26 (0, 0)) ∧ ((w1.alloc (.cells #[.int .u32 q0, .int .u32 q1, .int .u32 q2, .int .u32 q3, .int .u32 q4, .int .u32 q5, .int .u32 q6, .int .u32 q7, .int .u32 q8] 26)).alloc (.cells #[.int .i64 sk, .int .u32 sc, .int .u32 s1, .int .u32 s2, .int .u32 s3, .int .u32 s4, .int .u32 s5, .int .i64 sy] 34)).heap[w1.heap.size + 1]? = some (.cells ([.int .i64 sk, .int .u32 sc, .int .u32 s1, .int .u32 s2, .int .u32 s3, .int .u32 s4, .int .u32 s5, .int .i64 sy] : List Value).toArray 34 (0, 0)) := by
  refine ⟨h.on (Q := No) (((Mod.refl No w1).alloc _).alloc _) (fun k q => q.elim), blk_alloc (heap_alloc_new w1 _) _, ?_⟩
  have := heap_alloc_new (w1.alloc (.cells #[.int .u32 q0, .int .u32 q1, .int .u32 q2, .int .u32 q3, .int .u32 q4, .int .u32 q5, .int .u32 q6, .int .u32 q7, .int .u32 q8] 26)) (.cells #[.int .i64 sk, .int .u32 sc, .int .u32 s1, .int .u32 s2, .int .u32 s3, .int .u32 s4, .int .u32 s5, .int .i64 sy] 34)
  rwa [World.size_alloc] at this
theorem eq5s (d : Nat) (a1 a2 a3 a4 a5 : Int) (w : World) : (Op.equalIn (d + 2) 31 (.agg #[.int .u32 a1, .int .u32 a2, .int .u32 a3, .int .u32 a4, .int .u32 a5]) (.agg #[.int .u32 a1, .int .u32 a2, .int .u32 a3, .int .u32 a4, .int .u32 a5])).run Tryd.prog w = .ok true w := by
  obtain ⟨i, hi⟩ : ∃ i, Tryd.prog.info? 23 = some i := Option.isSome_iff_exists.1 (show (Tryd.prog.info? 23).isSome = true by kernel_rfl)
  rw [run_equalIn_array w (d + 1) _ _ Tryd.underlying31 hi, show Tryd.prog.cellsOf 23 = 1 by kernel_rfl]
  have hp : ∀ (xs : Array Value) (j : Nat) (v : Value) (w : World), xs[j]? = some v → (part 23 xs (j * 1)).run Tryd.prog w = .ok v w := fun xs j v w h => by
    rw [Nat.mul_one]
    simp [part, h, go_sem]
  simp [Op.eqItems, List.range, List.range.loop, go_sem, Tryd.underlying23]

set_option maxHeartbeats 16000000 in
theorem twice_any (p : Option Addr) (ops : List KPut) (cap : Nat) (r0 r1 r2 r3 r4 r5 r6 r7 r8 first more : Int) (w : World) (hs : KPutS w p ops) (hlen : ops.length * 40 ≤ 140737488355328) (hnil : p = none → cap = 0) (hf : 0 ≤ first ∧ first ≤ 255) (hmr : 0 ≤ more ∧ more ≤ 255) (h8 : regOk r8) (hreg : regsIn [r0, r1, r2, r3, r4, r5, r6, r7]) :
    Calls Tryd.prog 4 #[.slice p ops.length cap, .agg #[.int .u32 r0, .int .u32 r1, .int .u32 r2, .int .u32 r3, .int .u32 r4, .int .u32 r5, .int .u32 r6, .int .u32 r7, .int .u32 r8], .int .u8 first, .int .u8 more] w fun e w' => e = .returned (.bool true) ∧ Mod No w w' := by
  obtain ⟨n1, rfl⟩ : ∃ n : Nat, first = n := ⟨first.toNat, by omega⟩
  obtain ⟨n2, rfl⟩ : ∃ n : Nat, more = n := ⟨more.toNat, by omega⟩
  have hS6 : (begS ops).length = 6 := by unfold begS; rw [fold_len, tabS_len]
  have HRUN : Hid (∀ (n : Nat) (N : Int) (w' : World) (B F : Nat) (m : Nat) (S : List Fr), N = n → n ≤ 600 → PhM w' B F S → invS m S → Calls Tryd.prog 10 #[.pointer (some ⟨B, 0, none⟩), .int .i64 0, .agg #[.int .u32 r0, .int .u32 r1, .int .u32 r2, .int .u32 r3, .int .u32 r4, .int .u32 r5, .int .u32 r6, .int .u32 r7, .int .u32 r8], .int .i64 N] w' (RunPost m S.length B F (runR 0 n S [r0, r1, r2, r3, r4, r5, r6, r7] r8) w')) :=
    Lib.hid (fun n N w' B F m S hn hb hp hi => by subst hn; exact run_any 0 r0 r1 r2 r3 r4 r5 r6 r7 r8 n w' hp hi h8 hreg (by omega))
  have HS := Lib.hid hs
  have HNI := Lib.hid hnil
  have HR0 := Lib.hid (⟨h8, hreg⟩ : _ ∧ _)
  have hb1 : (n1 : Int) ≤ 255 := hf.2
  have hb2 : (n2 : Int) ≤ 255 := hmr.2
  clear hs hnil hf hmr h8 hreg
  have HMORE := Lib.hid (fun (S : List Fr) => (⟨runR_zero (root := 0) n1 S [r0, r1, r2, r3, r4, r5, r6, r7] r8, runR_more (root := 0) n2 n1 S [r0, r1, r2, r3, r4, r5, r6, r7] r8, runR_over (root := 0) n2 n1 S [r0, r1, r2, r3, r4, r5, r6, r7] r8⟩ : _ ∧ _ ∧ _))
  go_enter Tryd.func4, Tryd.ntmps4
  go_upto_region 1 with (fail)
  have h5 : (w.alloc (.cells #[.int .u32 r0, .int .u32 r1, .int .u32 r2, .int .u32 r3, .int .u32 r4, .int .u32 r5, .int .u32 r6, .int .u32 r7, .int .u32 r8] 26)).heap[w.heap.size]? = some (.cells ([.int .u32 r0, .int .u32 r1, .int .u32 r2, .int .u32 r3, .int .u32 r4, .int .u32 r5, .int .u32 r6, .int .u32 r7, .int .u32 r8] : List Value).toArray 26 (0, 0)) := heap_alloc_new w _
  have hm0 : Mod No w (w.alloc (.cells #[.int .u32 r0, .int .u32 r1, .int .u32 r2, .int .u32 r3, .int .u32 r4, .int .u32 r5, .int .u32 r6, .int .u32 r7, .int .u32 r8] 26)) := (Mod.refl No w).alloc _
  generalize (w.alloc (.cells #[.int .u32 r0, .int .u32 r1, .int .u32 r2, .int .u32 r3, .int .u32 r4, .int .u32 r5, .int .u32 r6, .int .u32 r7, .int .u32 r8] 26)) = w1 at h5 hm0 ⊢
  generalize hb5 : w.heap.size = b5 at h5 ⊢
  have H5 := Lib.hid h5
  have HM0 := Lib.hid hm0
  have HB5 := Lib.hid hb5
  clear h5 hm0 hb5
  go_wp2_with fail
  refine (begin19_in p ops cap w1 (HS.out.kept HM0.out) hlen HNI.out).mono ?_
  rintro e w2 ⟨B1, F1, K1, rfl, hrd1⟩
  have HRD1 := Lib.hid hrd1
  clear hrd1
  go_wp2_with fail
  refine (begin19_in p ops cap w2 (HS.out.kept (HM0.out.trans HRD1.out.mod)) hlen HNI.out).mono ?_
  rintro e w3 ⟨B2, F2, K2, rfl, hrd2⟩
  have htw : TwW w w3 B1 F1 B2 F2 b5 (begS ops) (begS ops) r0 r1 r2 r3 r4 r5 r6 r7 r8 := by
    have hm3 := HRD1.out.mod.trans hrd2.mod
    have k1 := lt_of_blk H5.out
    have k2 := HRD1.out.F
    have k3 := HRD1.out.two.p.ltF
    have k4 := hrd2.F
    have k5 := HRD1.out.mod.size
    have k6 := HB5.out
    exact ⟨HM0.out.trans hm3, HRD1.out.two.p.kept hrd2.mod (fun q => q) (fun q => q), hrd2.two.p, hm3.blk H5.out (fun q => q), by omega, by omega, by omega, by omega, by omega⟩
  have HIN := Lib.hid hrd2.two.inv
  have HTW := Lib.hid htw
  have HB := Lib.hid (Nat.le_of_eq HB5.out)
  clear hrd2 htw HRD1 HS HNI H5 HM0 HB5
  generalize begS ops = S0 at HIN HTW hS6
  have HO1 := Lib.hid (HRUN.out n1 n1 w3 B1 F1 0 S0 rfl (by omega) HTW.out.p1 HIN.out)
  have HO3 : Hid (∀ w', PhM w' B2 F2 S0 → _) := Lib.hid (fun w' hp => HRUN.out (n1 + n2) (n1 + n2) w' B2 F2 0 S0 (by omega) (by omega) hp HIN.out)
  have HMO := Lib.hid (HMORE.out S0)
  rw [hS6] at HO1
  clear HMORE hS6
  have x0 := row_cell HTW.out.h5 0
  have x1 := row_cell HTW.out.h5 1
  have x2 := row_cell HTW.out.h5 2
  have x3 := row_cell HTW.out.h5 3
  have x4 := row_cell HTW.out.h5 4
  have x5 := row_cell HTW.out.h5 5
  have x6 := row_cell HTW.out.h5 6
  have x7 := row_cell HTW.out.h5 7
  have x8 := row_cell HTW.out.h5 8
  simp only [List.getElem?_cons_zero, List.getElem?_cons_succ] at x0 x1 x2 x3 x4 x5 x6 x7 x8
  generalize runR 0 n1 S0 [r0, r1, r2, r3, r4, r5, r6, r7] r8 = o1 at HO1 HMO
  generalize runR 0 (n1 + n2) S0 [r0, r1, r2, r3, r4, r5, r6, r7] r8 = o3 at HO3 HMO
  obtain ⟨⟨R1, q8, ⟨sk, sc, s1, s2, s3, s4, s5, sy⟩, S1⟩, k1⟩ := o1
  dsimp only at HO1 HMO
  go_upto_region 6 with (go_at_call 10; refine HO1.out.mono ?_; rintro e w4 ⟨rfl, hm4, hp4, hok4⟩; obtain ⟨q0, q1, q2, q3, q4, q5, q6, q7, hR1⟩ := list8 hok4.1.regs.1; dsimp only at hR1; subst hR1; dsimp only [cpuV, Stp.L, stopL, List.map_cons, List.map_nil, List.cons_append, List.nil_append]; have HTW4 := Lib.hid (HTW.out.run1 hm4 hp4); have HOK := Lib.hid hok4; clear hm4 hp4 hok4)
  have hld := HTW4.out.laid q0 q1 q2 q3 q4 q5 q6 q7 q8 sk sc s1 s2 s3 s4 s5 sy
  generalize ((w4.alloc (.cells #[.int .u32 q0, .int .u32 q1, .int .u32 q2, .int .u32 q3, .int .u32 q4, .int .u32 q5, .int .u32 q6, .int .u32 q7, .int .u32 q8] 26)).alloc (.cells #[.int .i64 sk, .int .u32 sc, .int .u32 s1, .int .u32 s2, .int .u32 s3, .int .u32 s4, .int .u32 s5, .int .i64 sy] 34)) = w5 at hld ⊢
  have hlt := HTW4.out.lt
  generalize hg17 : w4.heap.size + 1 = b17 at hld ⊢
  generalize hg15 : w4.heap.size = b15 at hld hlt hg17 ⊢
  obtain ⟨htw5, h15, h17⟩ := hld
  have HTW := Lib.hid htw5
  have H15 := Lib.hid h15
  have H17 := Lib.hid h17
  have hbw : w.heap.size ≤ b15 := hg15 ▸ HTW4.out.m.size
  have N15 : Hid (b15 ≠ F2) := fun q => by omega
  have N17 : Hid (b17 ≠ F2) := fun q => by omega
  have HNN : Hid ((w.heap.size ≤ b15 ∧ b15 ≠ B1 ∧ b15 ≠ F1 ∧ b15 ≠ B2 ∧ b15 ≠ F2 ∧ b15 ≠ b5) ∧ (w.heap.size ≤ b17 ∧ b17 ≠ B1 ∧ b17 ≠ F1 ∧ b17 ≠ B2 ∧ b17 ≠ F2 ∧ b17 ≠ b5) ∧ b15 ≠ b17) := ⟨⟨by omega, by omega, by omega, by omega, by omega, by omega⟩, ⟨by omega, by omega, by omega, by omega, by omega, by omega⟩, by omega⟩
  clear htw5 hlt hg17 hg15 hbw HTW4 x0 x1 x2 x3 x4 x5 x6 x7 x8
  have y0 := row_cell H17.out 0
  have y1 := row_cell H17.out 1
  have y2 := row_cell H17.out 2
  have y3 := row_cell H17.out 3
  have y4 := row_cell H17.out 4
  have y5 := row_cell H17.out 5
  have y6 := row_cell H17.out 6
  have y7 := row_cell H17.out 7
  simp only [List.getElem?_cons_zero, List.getElem?_cons_succ] at y0 y1 y2 y3 y4 y5 y6 y7
  by_cases hk : sk = 0
  · have hgo := HOK.out.2 hk
    simp only [goesS, Stp.mk.injEq] at hgo
    obtain ⟨rfl, rfl, rfl, rfl, rfl, rfl, rfl, rfl⟩ := hgo
    have hk1 : k1 = n1 := HMO.out.1 rfl
    have ho3 : o3 = ((runR 0 n2 S1 [q0, q1, q2, q3, q4, q5, q6, q7] q8).1, n1 + (runR 0 n2 S1 [q0, q1, q2, q3, q4, q5, q6, q7] q8).2) := HMO.out.2.1 rfl
    subst hk1
    have HO2 : Hid (∀ w', Mod No w5 w' → _) := Lib.hid (fun w' (hm' : Mod No w5 w') => run_any 0 q0 q1 q2 q3 q4 q5 q6 q7 q8 n2 w' (HTW.out.p1.kept hm' (fun q => q) (fun q => q)) HOK.out.1.inv HOK.out.1.pc HOK.out.1.regs (by omega))
    have hkl := runR_le (root := 0) n2 S1 [q0, q1, q2, q3, q4, q5, q6, q7] q8
    rw [Int.toNat_natCast, HOK.out.1.len] at HO2
    generalize runR 0 n2 S1 [q0, q1, q2, q3, q4, q5, q6, q7] q8 = o2 at HO2 ho3 hkl
    obtain ⟨⟨R2, p8, ⟨tk, tc, t1, t2, t3, t4, t5, ty⟩, S2⟩, k2⟩ := o2
    dsimp only at HO2 ho3 hkl
    subst ho3
    have hk2 : (k2 : Int) ≤ 255 := by omega
    clear y0 y1 y2 y3 y4 y5 y6 y7
    have v0 := row_cell H15.out 0
    have v1 := row_cell H15.out 1
    have v2 := row_cell H15.out 2
    have v3 := row_cell H15.out 3
    have v4 := row_cell H15.out 4
    have v5 := row_cell H15.out 5
    have v6 := row_cell H15.out 6
    have v7 := row_cell H15.out 7
    have v8 := row_cell H15.out 8
    have y0 := row_cell H17.out 0
    have y1 := row_cell H17.out 1
    have y2 := row_cell H17.out 2
    have y3 := row_cell H17.out 3
    have y4 := row_cell H17.out 4
    have y5 := row_cell H17.out 5
    have y6 := row_cell H17.out 6
    have y7 := row_cell H17.out 7
    simp only [List.getElem?_cons_zero, List.getElem?_cons_succ] at v0 v1 v2 v3 v4 v5 v6 v7 v8 y0 y1 y2 y3 y4 y5 y6 y7
    go_upto_region 11 with (go_at_call 10; refine (HO2.out _ (Mod.refl _ _)).mono ?_; rintro e w6 ⟨rfl, hm6, hp6, hok6⟩; obtain ⟨p0, p1, p2, p3, p4, p5, p6, p7, hR2⟩ := list8 hok6.1.regs.1; dsimp only at hR2; subst hR2; dsimp only [cpuV, Stp.L, stopL, List.map_cons, List.map_nil, List.cons_append, List.nil_append]; have HTW6 := Lib.hid (HTW.out.run1 hm6 hp6); have HOK2 := Lib.hid hok6; have H156 := Lib.hid (hm6.blk H15.out HNN.out.1.2.2.1); have H176 := Lib.hid (hm6.blk H17.out HNN.out.2.1.2.2.1); clear hm6 hp6 hok6; have y0 := row_cell H156.out 0; have y1 := row_cell H156.out 1; have y2 := row_cell H156.out 2; have y3 := row_cell H156.out 3; have y4 := row_cell H156.out 4; have y5 := row_cell H156.out 5; have y6 := row_cell H156.out 6; have y7 := row_cell H156.out 7; have y8 := row_cell H156.out 8; have z0 := row_cell H176.out 0; have z1 := row_cell H176.out 1; have z2 := row_cell H176.out 2; have z3 := row_cell H176.out 3; have z4 := row_cell H176.out 4; have z5 := row_cell H176.out 5; have z6 := row_cell H176.out 6; have z7 := row_cell H176.out 7; simp only [List.getElem?_cons_zero, List.getElem?_cons_succ] at y0 y1 y2 y3 y4 y5 y6 y7 y8 z0 z1 z2 z3 z4 z5 z6 z7; have fy0 : w6.frozen? ⟨b15, 0, none⟩ = false := row_free H156.out 0; have fy1 : w6.frozen? ⟨b15, 1, none⟩ = false := row_free H156.out 1; have fy2 : w6.frozen? ⟨b15, 2, none⟩ = false := row_free H156.out 2; have fy3 : w6.frozen? ⟨b15, 3, none⟩ = false := row_free H156.out 3; have fy4 : w6.frozen? ⟨b15, 4, none⟩ = false := row_free H156.out 4; have fy5 : w6.frozen? ⟨b15, 5, none⟩ = false := row_free H156.out 5; have fy6 : w6.frozen? ⟨b15, 6, none⟩ = false := row_free H156.out 6; have fy7 : w6.frozen? ⟨b15, 7, none⟩ = false := row_free H156.out 7; have fy8 : w6.frozen? ⟨b15, 8, none⟩ = false := row_free H156.out 8; have fz0 : w6.frozen? ⟨b17, 0, none⟩ = false := row_free H176.out 0; have fz1 : w6.frozen? ⟨b17, 1, none⟩ = false := row_free H176.out 1; have fz2 : w6.frozen? ⟨b17, 2, none⟩ = false := row_free H176.out 2; have fz3 : w6.frozen? ⟨b17, 3, none⟩ = false := row_free H176.out 3; have fz4 : w6.frozen? ⟨b17, 4, none⟩ = false := row_free H176.out 4; have fz5 : w6.frozen? ⟨b17, 5, none⟩ = false := row_free H176.out 5; have fz6 : w6.frozen? ⟨b17, 6, none⟩ = false := row_free H176.out 6; have fz7 : w6.frozen? ⟨b17, 7, none⟩ = false := row_free H176.out 7; have py : b15 < w6.heap.size := lt_of_blk H156.out; have pz : b17 < w6.heap.size := lt_of_blk H176.out; have nyz : b15 ≠ b17 := HNN.out.2.2)
    have hmm : Mod (fun k => k = b15 ∨ k = b17) w6 (((((((((((((((((w6.setCell ⟨b15, 0, none⟩ (.int .u32 p0)).setCell ⟨b15, 1, none⟩ (.int .u32 p1)).setCell ⟨b15, 2, none⟩ (.int .u32 p2)).setCell ⟨b15, 3, none⟩ (.int .u32 p3)).setCell ⟨b15, 4, none⟩ (.int .u32 p4)).setCell ⟨b15, 5, none⟩ (.int .u32 p5)).setCell ⟨b15, 6, none⟩ (.int .u32 p6)).setCell ⟨b15, 7, none⟩ (.int .u32 p7)).setCell ⟨b15, 8, none⟩ (.int .u32 p8)).setCell ⟨b17, 0, none⟩ (.int .i64 tk)).setCell ⟨b17, 1, none⟩ (.int .u32 tc)).setCell ⟨b17, 2, none⟩ (.int .u32 t1)).setCell ⟨b17, 3, none⟩ (.int .u32 t2)).setCell ⟨b17, 4, none⟩ (.int .u32 t3)).setCell ⟨b17, 5, none⟩ (.int .u32 t4)).setCell ⟨b17, 6, none⟩ (.int .u32 t5)).setCell ⟨b17, 7, none⟩ (.int .i64 ty)) := ((mod_put9 (.int .u32 p0) (.int .u32 p1) (.int .u32 p2) (.int .u32 p3) (.int .u32 p4) (.int .u32 p5) (.int .u32 p6) (.int .u32 p7) (.int .u32 p8)).mono (fun _ _ q => .inl q)).trans ((mod_put8 (.int .i64 tk) (.int .u32 tc) (.int .u32 t1) (.int .u32 t2) (.int .u32 t3) (.int .u32 t4) (.int .u32 t5) (.int .i64 ty)).mono (fun _ _ q => .inr q))
    have h15 : (((((((((((((((((w6.setCell ⟨b15, 0, none⟩ (.int .u32 p0)).setCell ⟨b15, 1, none⟩ (.int .u32 p1)).setCell ⟨b15, 2, none⟩ (.int .u32 p2)).setCell ⟨b15, 3, none⟩ (.int .u32 p3)).setCell ⟨b15, 4, none⟩ (.int .u32 p4)).setCell ⟨b15, 5, none⟩ (.int .u32 p5)).setCell ⟨b15, 6, none⟩ (.int .u32 p6)).setCell ⟨b15, 7, none⟩ (.int .u32 p7)).setCell ⟨b15, 8, none⟩ (.int .u32 p8)).setCell ⟨b17, 0, none⟩ (.int .i64 tk)).setCell ⟨b17, 1, none⟩ (.int .u32 tc)).setCell ⟨b17, 2, none⟩ (.int .u32 t1)).setCell ⟨b17, 3, none⟩ (.int .u32 t2)).setCell ⟨b17, 4, none⟩ (.int .u32 t3)).setCell ⟨b17, 5, none⟩ (.int .u32 t4)).setCell ⟨b17, 6, none⟩ (.int .u32 t5)).setCell ⟨b17, 7, none⟩ (.int .i64 ty)).heap[b15]? = some (.cells ([.int .u32 p0, .int .u32 p1, .int .u32 p2, .int .u32 p3, .int .u32 p4, .int .u32 p5, .int .u32 p6, .int .u32 p7, .int .u32 p8] : List Value).toArray 26 (0, 0)) := by
      have h := set9 H156.out rfl (.int .u32 p0) (.int .u32 p1) (.int .u32 p2) (.int .u32 p3) (.int .u32 p4) (.int .u32 p5) (.int .u32 p6) (.int .u32 p7) (.int .u32 p8)
      exact (blk_setCell (blk_setCell (blk_setCell (blk_setCell (blk_setCell (blk_setCell (blk_setCell (blk_setCell h HNN.out.2.2 _) HNN.out.2.2 _) HNN.out.2.2 _) HNN.out.2.2 _) HNN.out.2.2 _) HNN.out.2.2 _) HNN.out.2.2 _) HNN.out.2.2 _)
    have h17 : (((((((((((((((((w6.setCell ⟨b15, 0, none⟩ (.int .u32 p0)).setCell ⟨b15, 1, none⟩ (.int .u32 p1)).setCell ⟨b15, 2, none⟩ (.int .u32 p2)).setCell ⟨b15, 3, none⟩ (.int .u32 p3)).setCell ⟨b15, 4, none⟩ (.int .u32 p4)).setCell ⟨b15, 5, none⟩ (.int .u32 p5)).setCell ⟨b15, 6, none⟩ (.int .u32 p6)).setCell ⟨b15, 7, none⟩ (.int .u32 p7)).setCell ⟨b15, 8, none⟩ (.int .u32 p8)).setCell ⟨b17, 0, none⟩ (.int .i64 tk)).setCell ⟨b17, 1, none⟩ (.int .u32 tc)).setCell ⟨b17, 2, none⟩ (.int .u32 t1)).setCell ⟨b17, 3, none⟩ (.int .u32 t2)).setCell ⟨b17, 4, none⟩ (.int .u32 t3)).setCell ⟨b17, 5, none⟩ (.int .u32 t4)).setCell ⟨b17, 6, none⟩ (.int .u32 t5)).setCell ⟨b17, 7, none⟩ (.int .i64 ty)).heap[b17]? = some (.cells ([.int .i64 tk, .int .u32 tc, .int .u32 t1, .int .u32 t2, .int .u32 t3, .int .u32 t4, .int .u32 t5, .int .i64 ty] : List Value).toArray 34 (0, 0)) := by
      refine set8 (w := (((((((((w6.setCell ⟨b15, 0, none⟩ (.int .u32 p0)).setCell ⟨b15, 1, none⟩ (.int .u32 p1)).setCell ⟨b15, 2, none⟩ (.int .u32 p2)).setCell ⟨b15, 3, none⟩ (.int .u32 p3)).setCell ⟨b15, 4, none⟩ (.int .u32 p4)).setCell ⟨b15, 5, none⟩ (.int .u32 p5)).setCell ⟨b15, 6, none⟩ (.int .u32 p6)).setCell ⟨b15, 7, none⟩ (.int .u32 p7)).setCell ⟨b15, 8, none⟩ (.int .u32 p8))) (L := [.int .i64 0, .int .u32 0, .int .u32 0, .int .u32 0, .int .u32 0, .int .u32 0, .int .u32 0, .int .i64 0]) ?_ rfl (.int .i64 tk) (.int .u32 tc) (.int .u32 t1) (.int .u32 t2) (.int .u32 t3) (.int .u32 t4) (.int .u32 t5) (.int .i64 ty)
      exact (blk_setCell (blk_setCell (blk_setCell (blk_setCell (blk_setCell (blk_setCell (blk_setCell (blk_setCell (blk_setCell H176.out HNN.out.2.2.symm _) HNN.out.2.2.symm _) HNN.out.2.2.symm _) HNN.out.2.2.symm _) HNN.out.2.2.symm _) HNN.out.2.2.symm _) HNN.out.2.2.symm _) HNN.out.2.2.symm _) HNN.out.2.2.symm _)
    have htw := HTW6.out.on hmm (fun k q => q.elim (fun e => e.symm ▸ HNN.out.1) (fun e => e.symm ▸ HNN.out.2.1))
    generalize (((((((((((((((((w6.setCell ⟨b15, 0, none⟩ (.int .u32 p0)).setCell ⟨b15, 1, none⟩ (.int .u32 p1)).setCell ⟨b15, 2, none⟩ (.int .u32 p2)).setCell ⟨b15, 3, none⟩ (.int .u32 p3)).setCell ⟨b15, 4, none⟩ (.int .u32 p4)).setCell ⟨b15, 5, none⟩ (.int .u32 p5)).setCell ⟨b15, 6, none⟩ (.int .u32 p6)).setCell ⟨b15, 7, none⟩ (.int .u32 p7)).setCell ⟨b15, 8, none⟩ (.int .u32 p8)).setCell ⟨b17, 0, none⟩ (.int .i64 tk)).setCell ⟨b17, 1, none⟩ (.int .u32 tc)).setCell ⟨b17, 2, none⟩ (.int .u32 t1)).setCell ⟨b17, 3, none⟩ (.int .u32 t2)).setCell ⟨b17, 4, none⟩ (.int .u32 t3)).setCell ⟨b17, 5, none⟩ (.int .u32 t4)).setCell ⟨b17, 6, none⟩ (.int .u32 t5)).setCell ⟨b17, 7, none⟩ (.int .i64 ty)) = w7 at hmm h15 h17 htw ⊢
    clear hmm HTW HTW6 H15 H17 H156 H176 y0 y1 y2 y3 y4 y5 y6 y7 y8 z0 z1 z2 z3 z4 z5 z6 z7 fy0 fy1 fy2 fy3 fy4 fy5 fy6 fy7 fy8 fz0 fz1 fz2 fz3 fz4 fz5 fz6 fz7 py pz
    have HTW := Lib.hid htw
    have H15 := Lib.hid h15
    have H17 := Lib.hid h17
    clear htw h15 h17
    have HLEN := Lib.hid HOK2.out.1.len
    have x0 := row_cell HTW.out.h5 0
    have x1 := row_cell HTW.out.h5 1
    have x2 := row_cell HTW.out.h5 2
    have x3 := row_cell HTW.out.h5 3
    have x4 := row_cell HTW.out.h5 4
    have x5 := row_cell HTW.out.h5 5
    have x6 := row_cell HTW.out.h5 6
    have x7 := row_cell HTW.out.h5 7
    have x8 := row_cell HTW.out.h5 8
    simp only [List.getElem?_cons_zero, List.getElem?_cons_succ] at x0 x1 x2 x3 x4 x5 x6 x7 x8
    go_upto_region 13 with (go_at_call 10; refine (HO3.out _ HTW.out.p2).mono ?_; rintro e w8 ⟨rfl, hm8, hp8, _⟩; dsimp only [cpuV, Stp.L, stopL, List.map_cons, List.map_nil, List.cons_append, List.nil_append]; have htw8 := HTW.out.run2 hm8 hp8; have h15 := hm8.blk H15.out N15.out; have h17 := hm8.blk H17.out N17.out; obtain ⟨htw9, h19, h21⟩ := htw8.laid p0 p1 p2 p3 p4 p5 p6 p7 p8 tk tc t1 t2 t3 t4 t5 ty; have h15 : ((w8.alloc (.cells #[.int .u32 p0, .int .u32 p1, .int .u32 p2, .int .u32 p3, .int .u32 p4, .int .u32 p5, .int .u32 p6, .int .u32 p7, .int .u32 p8] 26)).alloc (.cells #[.int .i64 tk, .int .u32 tc, .int .u32 t1, .int .u32 t2, .int .u32 t3, .int .u32 t4, .int .u32 t5, .int .i64 ty] 34)).heap[b15]? = _ := blk_alloc (blk_alloc h15 _) _; have h17 : ((w8.alloc (.cells #[.int .u32 p0, .int .u32 p1, .int .u32 p2, .int .u32 p3, .int .u32 p4, .int .u32 p5, .int .u32 p6, .int .u32 p7, .int .u32 p8] 26)).alloc (.cells #[.int .i64 tk, .int .u32 tc, .int .u32 t1, .int .u32 t2, .int .u32 t3, .int .u32 t4, .int .u32 t5, .int .i64 ty] 34)).heap[b17]? = _ := blk_alloc (blk_alloc h17 _) _; clear hm8 hp8 htw8 HTW H15 H17; have HTW := Lib.hid htw9; have HX := Lib.hid (⟨h15, h17, h19, h21⟩ : _ ∧ _ ∧ _ ∧ _); clear htw9 h15 h17 h19 h21)
    generalize ((w8.alloc (.cells #[.int .u32 p0, .int .u32 p1, .int .u32 p2, .int .u32 p3, .int .u32 p4, .int .u32 p5, .int .u32 p6, .int .u32 p7, .int .u32 p8] 26)).alloc (.cells #[.int .i64 tk, .int .u32 tc, .int .u32 t1, .int .u32 t2, .int .u32 t3, .int .u32 t4, .int .u32 t5, .int .i64 ty] 34)) = wT at HTW HX ⊢
    generalize w8.heap.size + 1 = b21 at HX ⊢
    generalize w8.heap.size = b19 at HX ⊢
    have a0 := row_cell HX.out.1 0
    have a1 := row_cell HX.out.1 1
    have a2 := row_cell HX.out.1 2
    have a3 := row_cell HX.out.1 3
    have a4 := row_cell HX.out.1 4
    have a5 := row_cell HX.out.1 5
    have a6 := row_cell HX.out.1 6
    have a7 := row_cell HX.out.1 7
    have a8 := row_cell HX.out.1 8
    have c0 := row_cell HX.out.2.1 0
    have c1 := row_cell HX.out.2.1 1
    have c2 := row_cell HX.out.2.1 2
    have c3 := row_cell HX.out.2.1 3
    have c4 := row_cell HX.out.2.1 4
    have c5 := row_cell HX.out.2.1 5
    have c6 := row_cell HX.out.2.1 6
    have c7 := row_cell HX.out.2.1 7
    have d0 := row_cell HX.out.2.2.1 0
    have d1 := row_cell HX.out.2.2.1 1
    have d2 := row_cell HX.out.2.2.1 2
    have d3 := row_cell HX.out.2.2.1 3
    have d4 := row_cell HX.out.2.2.1 4
    have d5 := row_cell HX.out.2.2.1 5
    have d6 := row_cell HX.out.2.2.1 6
    have d7 := row_cell HX.out.2.2.1 7
    have d8 := row_cell HX.out.2.2.1 8
    have g0 := row_cell HX.out.2.2.2 0
    have g1 := row_cell HX.out.2.2.2 1
    have g2 := row_cell HX.out.2.2.2 2
    have g3 := row_cell HX.out.2.2.2 3
    have g4 := row_cell HX.out.2.2.2 4
    have g5 := row_cell HX.out.2.2.2 5
    have g6 := row_cell HX.out.2.2.2 6
    have g7 := row_cell HX.out.2.2.2 7
    simp only [List.getElem?_cons_zero, List.getElem?_cons_succ] at a0 a1 a2 a3 a4 a5 a6 a7 a8 c0 c1 c2 c3 c4 c5 c6 c7 d0 d1 d2 d3 d4 d5 d6 d7 d8 g0 g1 g2 g3 g4 g5 g6 g7
    have he2 : ∀ w, (Op.equalIn 9999 24 (.agg #[.int .u32 p0, .int .u32 p1, .int .u32 p2, .int .u32 p3, .int .u32 p4, .int .u32 p5, .int .u32 p6, .int .u32 p7]) (.agg #[.int .u32 p0, .int .u32 p1, .int .u32 p2, .int .u32 p3, .int .u32 p4, .int .u32 p5, .int .u32 p6, .int .u32 p7])).run Tryd.prog w = .ok true w := fun w => (eq8b 9997 p0 p1 p2 p3 p4 p5 p6 p7 p0 p1 p2 p3 p4 p5 p6 p7 w).trans (by rw [decide_eq_true rfl])
    have he3 : ∀ w, (Op.equalIn 9999 31 (.agg #[.int .u32 t1, .int .u32 t2, .int .u32 t3, .int .u32 t4, .int .u32 t5]) (.agg #[.int .u32 t1, .int .u32 t2, .int .u32 t3, .int .u32 t4, .int .u32 t5])).run Tryd.prog w = .ok true w := fun w => eq5s 9997 t1 t2 t3 t4 t5 w
    go_upto_region 15 with (fail)
    clear a0 a1 a2 a3 a4 a5 a6 a7 a8 c0 c1 c2 c3 c4 c5 c6 c7 d0 d1 d2 d3 d4 d5 d6 d7 d8 g0 g1 g2 g3 g4 g5 g6 g7 he2 he3
    go_wp2_with fail
    go_loopw [22] (fun v wr => ∃ i : Nat, i ≤ 6 ∧ v = .int .i64 i ∧ Mod No wT wr) (fun v _ => 6 - (intOf v).toNat)
    case atStart => exact ⟨0, Nat.zero_le _, rfl, Mod.refl _ _⟩
    case round =>
      obtain ⟨i, hi, rfl, hm⟩ := hrel
      by_cases hlt : i < 6
      · have hlt' : (i : Int) < 6 := by omega
        have hlS : S2.length = 6 := HLEN.out
        obtain ⟨f, hf⟩ : ∃ f, S2[i]? = some f := ⟨_, List.getElem?_eq_getElem (by omega)⟩
        have HRD := Lib.hid (read_in i 0 256 f wr (HTW.out.p1.kept hm (fun q => q) (fun q => q)) ⟨by omega, by omega, by omega, by omega⟩ (by rw [Int.toNat_natCast]; exact hf))
        have HRD2 : Hid (∀ w', Mod No wr w' → _) := Lib.hid (fun w' (hm' : Mod No wr w') => read_in i 0 256 f w' (HTW.out.p2.kept (hm.trans hm') (fun q => q) (fun q => q)) ⟨by omega, by omega, by omega, by omega⟩ (by rw [Int.toNat_natCast]; exact hf))
        have hl := (HTW.out.p1.ok f (List.mem_of_getElem? hf)).1
        have HM := Lib.hid hm
        have HL := Lib.hid hl
        have hbe : (f.bytes.drop (0 : Int).toNat).take (256 : Int).toNat = f.bytes := List.take_of_length_le (by rw [show (f.bytes.drop (0 : Int).toNat) = f.bytes from rfl, hl]; exact Nat.le_refl _)
        have HBE := Lib.hid hbe
        clear hm hf hlS hl hbe
        go_wp2_with fail
        refine HRD.out.mono ?_
        rintro e w6 ⟨rfl, hm6, _, hg6⟩
        rw [HBE.out] at hg6
        have HM6 := Lib.hid hm6
        have HG6 := Lib.hid hg6
        clear hm6 hg6
        go_wp2_with fail
        refine (HRD2.out _ HM6.out).mono ?_
        rintro e w7 ⟨rfl, hm7, _, hg7⟩
        rw [HBE.out] at hg7
        have hv1 : (convert 37 9 (.slice (some ⟨wr.heap.size, 0, none⟩) 256 256)).run Tryd.prog w7 = .ok (.string (strOfNums f.bytes)) w7 :=
          conv_row (w := w7) (hm7.blk HG6.out (fun q => q)) 0 256 256 f.bytes (by rw [List.drop_zero, List.take_of_length_le (by rw [HL.out]; omega)]) (by rw [HL.out]; omega)
        have hv2 : (convert 37 9 (.slice (some ⟨w6.heap.size, 0, none⟩) 256 256)).run Tryd.prog w7 = .ok (.string (strOfNums f.bytes)) w7 :=
          conv_row (w := w7) hg7 0 256 256 f.bytes (by rw [List.drop_zero, List.take_of_length_le (by rw [HL.out]; omega)]) (by rw [HL.out]; omega)
        have HM7 := Lib.hid ((HM.out.trans HM6.out).trans hm7)
        clear hm7 hg7
        generalize strOfNums f.bytes = str at hv1 hv2
        go_wp2_with fail
        go_roundw
        case rel => exact ⟨i + 1, by omega, by go_num, HM7.out⟩
        case measure => simp [intOf]; omega
      · obtain rfl : i = 6 := by omega
        have HM := Lib.hid hm
        clear hm
        go_wp2_with fail
        refine (awake19_yes _).mono ?_
        rintro e w9 ⟨rfl, hm9⟩
        go_wp2
        go_ret
        exact ⟨rfl, (HTW.out.m.trans HM.out).trans hm9⟩
  · have dk : (sk == 0) = false := beq_eq_false_iff_ne.2 hk
    have ho3 := HMO.out.2.2 hk
    subst ho3
    have HLEN := Lib.hid HOK.out.1.len
    have x0 := row_cell HTW.out.h5 0
    have x1 := row_cell HTW.out.h5 1
    have x2 := row_cell HTW.out.h5 2
    have x3 := row_cell HTW.out.h5 3
    have x4 := row_cell HTW.out.h5 4
    have x5 := row_cell HTW.out.h5 5
    have x6 := row_cell HTW.out.h5 6
    have x7 := row_cell HTW.out.h5 7
    have x8 := row_cell HTW.out.h5 8
    simp only [List.getElem?_cons_zero, List.getElem?_cons_succ] at x0 x1 x2 x3 x4 x5 x6 x7 x8
    go_upto_region 13 with (go_at_call 10; refine (HO3.out _ HTW.out.p2).mono ?_; rintro e w8 ⟨rfl, hm8, hp8, _⟩; dsimp only [cpuV, Stp.L, stopL, List.map_cons, List.map_nil, List.cons_append, List.nil_append]; have htw8 := HTW.out.run2 hm8 hp8; have h15 := hm8.blk H15.out N15.out; have h17 := hm8.blk H17.out N17.out; obtain ⟨htw9, h19, h21⟩ := htw8.laid q0 q1 q2 q3 q4 q5 q6 q7 q8 sk sc s1 s2 s3 s4 s5 sy; have h15 : ((w8.alloc (.cells #[.int .u32 q0, .int .u32 q1, .int .u32 q2, .int .u32 q3, .int .u32 q4, .int .u32 q5, .int .u32 q6, .int .u32 q7, .int .u32 q8] 26)).alloc (.cells #[.int .i64 sk, .int .u32 sc, .int .u32 s1, .int .u32 s2, .int .u32 s3, .int .u32 s4, .int .u32 s5, .int .i64 sy] 34)).heap[b15]? = _ := blk_alloc (blk_alloc h15 _) _; have h17 : ((w8.alloc (.cells #[.int .u32 q0, .int .u32 q1, .int .u32 q2, .int .u32 q3, .int .u32 q4, .int .u32 q5, .int .u32 q6, .int .u32 q7, .int .u32 q8] 26)).alloc (.cells #[.int .i64 sk, .int .u32 sc, .int .u32 s1, .int .u32 s2, .int .u32 s3, .int .u32 s4, .int .u32 s5, .int .i64 sy] 34)).heap[b17]? = _ := blk_alloc (blk_alloc h17 _) _; clear hm8 hp8 htw8 HTW H15 H17; have HTW := Lib.hid htw9; have HX := Lib.hid (⟨h15, h17, h19, h21⟩ : _ ∧ _ ∧ _ ∧ _); clear htw9 h15 h17 h19 h21)
    generalize ((w8.alloc (.cells #[.int .u32 q0, .int .u32 q1, .int .u32 q2, .int .u32 q3, .int .u32 q4, .int .u32 q5, .int .u32 q6, .int .u32 q7, .int .u32 q8] 26)).alloc (.cells #[.int .i64 sk, .int .u32 sc, .int .u32 s1, .int .u32 s2, .int .u32 s3, .int .u32 s4, .int .u32 s5, .int .i64 sy] 34)) = wT at HTW HX ⊢
    generalize w8.heap.size + 1 = b21 at HX ⊢
    generalize w8.heap.size = b19 at HX ⊢
    have a0 := row_cell HX.out.1 0
    have a1 := row_cell HX.out.1 1
    have a2 := row_cell HX.out.1 2
    have a3 := row_cell HX.out.1 3
    have a4 := row_cell HX.out.1 4
    have a5 := row_cell HX.out.1 5
    have a6 := row_cell HX.out.1 6
    have a7 := row_cell HX.out.1 7
    have a8 := row_cell HX.out.1 8
    have c0 := row_cell HX.out.2.1 0
    have c1 := row_cell HX.out.2.1 1
    have c2 := row_cell HX.out.2.1 2
    have c3 := row_cell HX.out.2.1 3
    have c4 := row_cell HX.out.2.1 4
    have c5 := row_cell HX.out.2.1 5
    have c6 := row_cell HX.out.2.1 6
    have c7 := row_cell HX.out.2.1 7
    have d0 := row_cell HX.out.2.2.1 0
    have d1 := row_cell HX.out.2.2.1 1
    have d2 := row_cell HX.out.2.2.1 2
    have d3 := row_cell HX.out.2.2.1 3
    have d4 := row_cell HX.out.2.2.1 4
    have d5 := row_cell HX.out.2.2.1 5
    have d6 := row_cell HX.out.2.2.1 6
    have d7 := row_cell HX.out.2.2.1 7
    have d8 := row_cell HX.out.2.2.1 8
    have g0 := row_cell HX.out.2.2.2 0
    have g1 := row_cell HX.out.2.2.2 1
    have g2 := row_cell HX.out.2.2.2 2
    have g3 := row_cell HX.out.2.2.2 3
    have g4 := row_cell HX.out.2.2.2 4
    have g5 := row_cell HX.out.2.2.2 5
    have g6 := row_cell HX.out.2.2.2 6
    have g7 := row_cell HX.out.2.2.2 7
    simp only [List.getElem?_cons_zero, List.getElem?_cons_succ] at a0 a1 a2 a3 a4 a5 a6 a7 a8 c0 c1 c2 c3 c4 c5 c6 c7 d0 d1 d2 d3 d4 d5 d6 d7 d8 g0 g1 g2 g3 g4 g5 g6 g7
    have he2 : ∀ w, (Op.equalIn 9999 24 (.agg #[.int .u32 q0, .int .u32 q1, .int .u32 q2, .int .u32 q3, .int .u32 q4, .int .u32 q5, .int .u32 q6, .int .u32 q7]) (.agg #[.int .u32 q0, .int .u32 q1, .int .u32 q2, .int .u32 q3, .int .u32 q4, .int .u32 q5, .int .u32 q6, .int .u32 q7])).run Tryd.prog w = .ok true w := fun w => (eq8b 9997 q0 q1 q2 q3 q4 q5 q6 q7 q0 q1 q2 q3 q4 q5 q6 q7 w).trans (by rw [decide_eq_true rfl])
    have he3 : ∀ w, (Op.equalIn 9999 31 (.agg #[.int .u32 s1, .int .u32 s2, .int .u32 s3, .int .u32 s4, .int .u32 s5]) (.agg #[.int .u32 s1, .int .u32 s2, .int .u32 s3, .int .u32 s4, .int .u32 s5])).run Tryd.prog w = .ok true w := fun w => eq5s 9997 s1 s2 s3 s4 s5 w
    go_upto_region 15 with (fail)
    clear a0 a1 a2 a3 a4 a5 a6 a7 a8 c0 c1 c2 c3 c4 c5 c6 c7 d0 d1 d2 d3 d4 d5 d6 d7 d8 g0 g1 g2 g3 g4 g5 g6 g7 he2 he3
    go_wp2_with fail
    go_loopw [22] (fun v wr => ∃ i : Nat, i ≤ 6 ∧ v = .int .i64 i ∧ Mod No wT wr) (fun v _ => 6 - (intOf v).toNat)
    case atStart => exact ⟨0, Nat.zero_le _, rfl, Mod.refl _ _⟩
    case round =>
      obtain ⟨i, hi, rfl, hm⟩ := hrel
      by_cases hlt : i < 6
      · have hlt' : (i : Int) < 6 := by omega
        have hlS : S1.length = 6 := HLEN.out
        obtain ⟨f, hf⟩ : ∃ f, S1[i]? = some f := ⟨_, List.getElem?_eq_getElem (by omega)⟩
        have HRD := Lib.hid (read_in i 0 256 f wr (HTW.out.p1.kept hm (fun q => q) (fun q => q)) ⟨by omega, by omega, by omega, by omega⟩ (by rw [Int.toNat_natCast]; exact hf))
        have HRD2 : Hid (∀ w', Mod No wr w' → _) := Lib.hid (fun w' (hm' : Mod No wr w') => read_in i 0 256 f w' (HTW.out.p2.kept (hm.trans hm') (fun q => q) (fun q => q)) ⟨by omega, by omega, by omega, by omega⟩ (by rw [Int.toNat_natCast]; exact hf))
        have hl := (HTW.out.p1.ok f (List.mem_of_getElem? hf)).1
        have HM := Lib.hid hm
        have HL := Lib.hid hl
        have hbe : (f.bytes.drop (0 : Int).toNat).take (256 : Int).toNat = f.bytes := List.take_of_length_le (by rw [show (f.bytes.drop (0 : Int).toNat) = f.bytes from rfl, hl]; exact Nat.le_refl _)
        have HBE := Lib.hid hbe
        clear hm hf hlS hl hbe
        go_wp2_with fail
        refine HRD.out.mono ?_
        rintro e w6 ⟨rfl, hm6, _, hg6⟩
        rw [HBE.out] at hg6
        have HM6 := Lib.hid hm6
        have HG6 := Lib.hid hg6
        clear hm6 hg6
        go_wp2_with fail
        refine (HRD2.out _ HM6.out).mono ?_
        rintro e w7 ⟨rfl, hm7, _, hg7⟩
        rw [HBE.out] at hg7
        have hv1 : (convert 37 9 (.slice (some ⟨wr.heap.size, 0, none⟩) 256 256)).run Tryd.prog w7 = .ok (.string (strOfNums f.bytes)) w7 :=
          conv_row (w := w7) (hm7.blk HG6.out (fun q => q)) 0 256 256 f.bytes (by rw [List.drop_zero, List.take_of_length_le (by rw [HL.out]; omega)]) (by rw [HL.out]; omega)
        have hv2 : (convert 37 9 (.slice (some ⟨w6.heap.size, 0, none⟩) 256 256)).run Tryd.prog w7 = .ok (.string (strOfNums f.bytes)) w7 :=
          conv_row (w := w7) hg7 0 256 256 f.bytes (by rw [List.drop_zero, List.take_of_length_le (by rw [HL.out]; omega)]) (by rw [HL.out]; omega)
        have HM7 := Lib.hid ((HM.out.trans HM6.out).trans hm7)
        clear hm7 hg7
        generalize strOfNums f.bytes = str at hv1 hv2
        go_wp2_with fail
        go_roundw
        case rel => exact ⟨i + 1, by omega, by go_num, HM7.out⟩
        case measure => simp [intOf]; omega
      · obtain rfl : i = 6 := by omega
        have HM := Lib.hid hm
        clear hm
        go_wp2_with fail
        refine (awake19_yes _).mono ?_
        rintro e w9 ⟨rfl, hm9⟩
        go_wp2
        go_ret
        exact ⟨rfl, (HTW.out.m.trans HM.out).trans hm9⟩

end Go.Proofs.YtlbebneblmgdcaaDoor
