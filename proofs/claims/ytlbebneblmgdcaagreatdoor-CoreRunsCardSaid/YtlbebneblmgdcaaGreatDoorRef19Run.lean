/- tenementref19.Run: a program. (Printed by wip/gen_rrun.py.) -/
import Derived.Test.YtlbebneblmgdcaaGreatDoorCoreRun
import Derived.Test.YtlbebneblmgdcaaGreatDoorRef19Step
namespace Go.Proofs.YtlbebneblmgdcaaGreatDoor
open Go.RowKit
set_option maxRecDepth 100000

def RRunPost (K : RfK) (o : Out × Nat) (w : World) (e : Ending) (w' : World) : Prop :=
  e = .returned (.tuple #[cpuV o.1.R o.1.pc, .int .i64 o.2, .agg o.1.s.L.toArray]) ∧ Mod K.inn w w' ∧ RfM w' K o.1.S

structure RRunW (K : RfK) (w wr : World) (b6 b8 b10 b11 : Nat) (S : List Fr) (A : List Value) (r0 r1 r2 r3 r4 r5 r6 r7 r8 : Int) : Prop where
  m : Mod K.inn w wr
  r : RfM wr K S
  h6 : wr.heap[b6]? = some (.cells ([.int .u32 r0, .int .u32 r1, .int .u32 r2, .int .u32 r3, .int .u32 r4, .int .u32 r5, .int .u32 r6, .int .u32 r7, .int .u32 r8] : List Value).toArray 26 (0, 0))
  h8 : wr.heap[b8]? = some (.cells ([.int .u32 0, .int .u32 0, .int .u32 0, .int .u32 0, .int .u32 0, .int .u32 0, .int .u32 0, .int .u32 0, .int .u32 0] : List Value).toArray 26 (0, 0))
  h10 : wr.heap[b10]? = some (.cells ([.int .i64 0, .int .u32 0, .int .u32 0, .int .u32 0, .int .u32 0, .int .u32 0, .int .u32 0, .int .i64 0] : List Value).toArray 34 (0, 0))
  h11 : wr.heap[b11]? = some (.cells A.toArray 34 (0, 0))
  l6 : w.heap.size ≤ b6
  l8 : b6 < b8
  l10 : b8 < b10
  l11 : b10 < b11
  lK : ∀ k, K.has k → k < w.heap.size
theorem rrunW_made {K : RfK} {S : List Fr} (w : World) (r0 r1 r2 r3 r4 r5 r6 r7 r8 : Int) (hp : RfM w K S) : RRunW K w (((((w.alloc (.cells #[.int .u32 r0, .int .u32 r1, .int .u32 r2, .int .u32 r3, .int .u32 r4, .int .u32 r5, .int .u32 r6, .int .u32 r7, .int .u32 r8] 26)).alloc (.cells #[.int .u32 0, .int .u32 0, .int .u32 0, .int .u32 0, .int .u32 0, .int .u32 0, .int .u32 0, .int .u32 0, .int .u32 0] 26)).alloc (.cells #[.int .i64 0, .int .u32 0, .int .u32 0, .int .u32 0, .int .u32 0, .int .u32 0, .int .u32 0, .int .i64 0] 34))).alloc (.cells #[.int .i64 0, .int .u32 0, .int .u32 0, .int .u32 0, .int .u32 0, .int .u32 0, .int .u32 0, .int .i64 0] 34)) w.heap.size (w.heap.size + 1) (w.heap.size + 1 + 1) (w.heap.size + 1 + 1 + 1) S [.int .i64 0, .int .u32 0, .int .u32 0, .int .u32 0, .int .u32 0, .int .u32 0, .int .u32 0, .int .i64 0] r0 r1 r2 r3 r4 r5 r6 r7 r8 := by
  refine ⟨by repeat (first | exact Mod.refl _ _ | apply Mod.alloc), (((hp.alloc _).alloc _).alloc _).alloc _, blk_alloc (blk_alloc (blk_alloc (heap_alloc_new w _) _) _) _, ?_, ?_, ?_, Nat.le_refl _, by omega, by omega, by omega, fun k q => hp.lt k q⟩
  · have := blk_alloc (blk_alloc (heap_alloc_new (w.alloc (.cells #[.int .u32 r0, .int .u32 r1, .int .u32 r2, .int .u32 r3, .int .u32 r4, .int .u32 r5, .int .u32 r6, .int .u32 r7, .int .u32 r8] 26)) (.cells #[.int .u32 0, .int .u32 0, .int .u32 0, .int .u32 0, .int .u32 0, .int .u32 0, .int .u32 0, .int .u32 0, .int .u32 0] 26)) (.cells #[.int .i64 0, .int .u32 0, .int .u32 0, .int .u32 0, .int .u32 0, .int .u32 0, .int .u32 0, .int .i64 0] 34)) (.cells #[.int .i64 0, .int .u32 0, .int .u32 0, .int .u32 0, .int .u32 0, .int .u32 0, .int .u32 0, .int .i64 0] 34)
    rwa [World.size_alloc] at this
  · have := blk_alloc (heap_alloc_new ((w.alloc (.cells #[.int .u32 r0, .int .u32 r1, .int .u32 r2, .int .u32 r3, .int .u32 r4, .int .u32 r5, .int .u32 r6, .int .u32 r7, .int .u32 r8] 26)).alloc (.cells #[.int .u32 0, .int .u32 0, .int .u32 0, .int .u32 0, .int .u32 0, .int .u32 0, .int .u32 0, .int .u32 0, .int .u32 0] 26)) (.cells #[.int .i64 0, .int .u32 0, .int .u32 0, .int .u32 0, .int .u32 0, .int .u32 0, .int .u32 0, .int .i64 0] 34)) (.cells #[.int .i64 0, .int .u32 0, .int .u32 0, .int .u32 0, .int .u32 0, .int .u32 0, .int .u32 0, .int .i64 0] 34)
    rwa [World.size_alloc, World.size_alloc] at this
  · have := heap_alloc_new (((w.alloc (.cells #[.int .u32 r0, .int .u32 r1, .int .u32 r2, .int .u32 r3, .int .u32 r4, .int .u32 r5, .int .u32 r6, .int .u32 r7, .int .u32 r8] 26)).alloc (.cells #[.int .u32 0, .int .u32 0, .int .u32 0, .int .u32 0, .int .u32 0, .int .u32 0, .int .u32 0, .int .u32 0, .int .u32 0] 26)).alloc (.cells #[.int .i64 0, .int .u32 0, .int .u32 0, .int .u32 0, .int .u32 0, .int .u32 0, .int .u32 0, .int .i64 0] 34)) (.cells #[.int .i64 0, .int .u32 0, .int .u32 0, .int .u32 0, .int .u32 0, .int .u32 0, .int .u32 0, .int .i64 0] 34)
    rwa [World.size_alloc, World.size_alloc, World.size_alloc] at this
theorem RRunW.step {K : RfK} {w w1 w2 : World} {b6 b8 b10 b11 : Nat} {S S' : List Fr} {A : List Value} {r0 r1 r2 r3 r4 r5 r6 r7 r8 : Int} (h : RRunW K w w1 b6 b8 b10 b11 S A r0 r1 r2 r3 r4 r5 r6 r7 r8) (hm : Mod K.inn w1 w2) (hr : RfM w2 K S') : RRunW K w w2 b6 b8 b10 b11 S' A r0 r1 r2 r3 r4 r5 r6 r7 r8 := by
  obtain ⟨m, r, h6, h8, h10, h11, l6, l8, l10, l11, lK⟩ := h
  exact ⟨m.trans hm, hr, hm.blk h6 (fun q => by have := lK _ (RfK.inn_has q); omega), hm.blk h8 (fun q => by have := lK _ (RfK.inn_has q); omega), hm.blk h10 (fun q => by have := lK _ (RfK.inn_has q); omega), hm.blk h11 (fun q => by have := lK _ (RfK.inn_has q); omega), l6, l8, l10, l11, lK⟩
theorem RRunW.put {K : RfK} {w w1 w2 : World} {b6 b8 b10 b11 : Nat} {S : List Fr} {A A' : List Value} {r0 r1 r2 r3 r4 r5 r6 r7 r8 q0 q1 q2 q3 q4 q5 q6 q7 q8 : Int} (h : RRunW K w w1 b6 b8 b10 b11 S A r0 r1 r2 r3 r4 r5 r6 r7 r8) (hm : Mod (fun k => k = b6 ∨ k = b11) w1 w2) (h6 : w2.heap[b6]? = some (.cells ([.int .u32 q0, .int .u32 q1, .int .u32 q2, .int .u32 q3, .int .u32 q4, .int .u32 q5, .int .u32 q6, .int .u32 q7, .int .u32 q8] : List Value).toArray 26 (0, 0))) (h11 : w2.heap[b11]? = some (.cells A'.toArray 34 (0, 0))) : RRunW K w w2 b6 b8 b10 b11 S A' q0 q1 q2 q3 q4 q5 q6 q7 q8 := by
  obtain ⟨m, r, _, h8, h10, _, l6, l8, l10, l11, lK⟩ := h
  exact ⟨m.step hm (fun i hi q => by omega), r.kept hm (fun k hk q => by have := lK k hk; omega), h6, hm.blk h8 (fun q => by omega), hm.blk h10 (fun q => by omega), h11, l6, l8, l10, l11, lK⟩

set_option maxHeartbeats 8000000 in
theorem rrun_any {K : RfK} {m : Nat} {S0 : List Fr} (root p0 p1 p2 p3 p4 p5 p6 p7 p8 N : Int) (w : World) (hst : ∀ (S : List Fr) (r0 r1 r2 r3 r4 r5 r6 r7 r8 : Int) (w' : World), RfM w' K S → regOk r8 → regsIn [r0, r1, r2, r3, r4, r5, r6, r7] → Calls Tryz.prog 16 #[.pointer (some ⟨K.R, 0, none⟩), .int .i64 root, .agg #[.int .u32 r0, .int .u32 r1, .int .u32 r2, .int .u32 r3, .int .u32 r4, .int .u32 r5, .int .u32 r6, .int .u32 r7, .int .u32 r8]] w' (RStepPost K (stepR S root [r0, r1, r2, r3, r4, r5, r6, r7] r8) w'))
    (hm : RfM w K S0) (hI : invS m S0) (h8 : regOk p8) (hreg : regsIn [p0, p1, p2, p3, p4, p5, p6, p7]) (hN : N ≤ 9223372036854775807) :
    Calls Tryz.prog 6 #[.pointer (some ⟨K.R, 0, none⟩), .int .i64 root, .agg #[.int .u32 p0, .int .u32 p1, .int .u32 p2, .int .u32 p3, .int .u32 p4, .int .u32 p5, .int .u32 p6, .int .u32 p7, .int .u32 p8], .int .i64 N] w (RRunPost K (runR root N.toNat S0 [p0, p1, p2, p3, p4, p5, p6, p7] p8) w) := by
  generalize hout : runR root N.toNat S0 [p0, p1, p2, p3, p4, p5, p6, p7] p8 = out
  have hi0 : RunI root N.toNat out 0 S0 [p0, p1, p2, p3, p4, p5, p6, p7] p8 := by rw [RunI, ← hout]; rfl
  have HI0 := Lib.hid hi0
  have HS0 := Lib.hid hI
  have HR0 := Lib.hid hreg
  have HP0 := Lib.hid h8
  have HM := Lib.hid hm
  have HSTEP := Lib.hid hst
  clear hm hI h8 hreg hi0 hout hst
  go_enter Tryz.func6, Tryz.ntmps6
  go_upto_region 2 with (fail)
  have hwb := rrunW_made w p0 p1 p2 p3 p4 p5 p6 p7 p8 HM.out
  generalize (((((w.alloc (.cells #[.int .u32 p0, .int .u32 p1, .int .u32 p2, .int .u32 p3, .int .u32 p4, .int .u32 p5, .int .u32 p6, .int .u32 p7, .int .u32 p8] 26)).alloc (.cells #[.int .u32 0, .int .u32 0, .int .u32 0, .int .u32 0, .int .u32 0, .int .u32 0, .int .u32 0, .int .u32 0, .int .u32 0] 26)).alloc (.cells #[.int .i64 0, .int .u32 0, .int .u32 0, .int .u32 0, .int .u32 0, .int .u32 0, .int .u32 0, .int .i64 0] 34))).alloc (.cells #[.int .i64 0, .int .u32 0, .int .u32 0, .int .u32 0, .int .u32 0, .int .u32 0, .int .u32 0, .int .i64 0] 34)) = w1 at hwb ⊢
  generalize w.heap.size + 1 + 1 + 1 = b11 at hwb ⊢
  generalize w.heap.size + 1 + 1 = b10 at hwb ⊢
  generalize w.heap.size + 1 = b8 at hwb ⊢
  generalize w.heap.size = b6 at hwb ⊢
  have HW := Lib.hid hwb
  clear hwb
  go_wp2_with fail
  go_loopw [12] (fun v wr => ∃ j : Nat, v = .int .i64 j ∧ j ≤ N.toNat ∧ ∃ (S : List Fr) (r0 r1 r2 r3 r4 r5 r6 r7 r8 : Int), RRunW K w wr b6 b8 b10 b11 S [.int .i64 0, .int .u32 0, .int .u32 0, .int .u32 0, .int .u32 0, .int .u32 0, .int .u32 0, .int .i64 0] r0 r1 r2 r3 r4 r5 r6 r7 r8 ∧ RunI root N.toNat out j S [r0, r1, r2, r3, r4, r5, r6, r7] r8 ∧ (invS m S ∧ S.length = S0.length ∧ regsIn [r0, r1, r2, r3, r4, r5, r6, r7] ∧ regOk r8)) (fun v _ => N.toNat - (intOf v).toNat)
  case atStart => exact ⟨0, rfl, Nat.zero_le _, S0, p0, p1, p2, p3, p4, p5, p6, p7, p8, HW.out, HI0.out, HS0.out, rfl, HR0.out, HP0.out⟩
  case round =>
    clear HW HI0 HS0 HR0 HP0 HM
    obtain ⟨j, rfl, hj, S, r0, r1, r2, r3, r4, r5, r6, r7, r8, hw, hi, hI, hl, hR, hp⟩ := hrel
    by_cases hlt : (j : Int) < N
    · have dlt : decide ((j : Int) < N) = true := decide_eq_true hlt
      have hjn : j < N.toNat := by omega
      have hjw : (j : Int) + 1 ≤ 9223372036854775807 := by omega
      have HST : Hid (∀ w', Mod No wr w' → Calls Tryz.prog 16 #[.pointer (some ⟨K.R, 0, none⟩), .int .i64 root, .agg #[.int .u32 r0, .int .u32 r1, .int .u32 r2, .int .u32 r3, .int .u32 r4, .int .u32 r5, .int .u32 r6, .int .u32 r7, .int .u32 r8]] w' (RStepPost K (stepR S root [r0, r1, r2, r3, r4, r5, r6, r7] r8) w')) := fun w' hm' => HSTEP.out S r0 r1 r2 r3 r4 r5 r6 r7 r8 w' (hw.r.keptNo hm') hp hR
      have hok := stepR_ok hw.r.ok hI hl root hR hp
      have hstop := fun h => hi.stop hjn h
      have hnext := fun h => hi.next hjn h
      clear hi hI hl hR hp hlt hj
      generalize stepR S root [r0, r1, r2, r3, r4, r5, r6, r7] r8 = d at HST hok hstop hnext
      obtain ⟨R', pc', s', S'⟩ := d
      obtain ⟨⟨hokR, hokp, hokI, hokl⟩, hok0⟩ := hok
      dsimp only at hokR hokp hokI hokl hok0 HST hstop hnext
      obtain ⟨q0, q1, q2, q3, q4, q5, q6, q7, rfl⟩ := list8 hokR.1
      obtain ⟨q8, rfl⟩ : ∃ q, q = pc' := ⟨_, rfl⟩
      obtain ⟨sk, sc, s1, s2, s3, s4, s5, sy⟩ := s'
      dsimp only at hok0 hstop hnext
      have HSTOP := Lib.hid hstop
      have HNEXT := Lib.hid hnext
      have HOK := Lib.hid (⟨hokR, hokp, hokI, hokl⟩ : _ ∧ _ ∧ _ ∧ _)
      have HOK0 := Lib.hid hok0
      have HW := Lib.hid hw
      have x0 := row_cell hw.h6 0
      have x1 := row_cell hw.h6 1
      have x2 := row_cell hw.h6 2
      have x3 := row_cell hw.h6 3
      have x4 := row_cell hw.h6 4
      have x5 := row_cell hw.h6 5
      have x6 := row_cell hw.h6 6
      have x7 := row_cell hw.h6 7
      have x8 := row_cell hw.h6 8
      simp only [List.getElem?_cons_zero, List.getElem?_cons_succ] at x0 x1 x2 x3 x4 x5 x6 x7 x8
      clear hstop hnext hokR hokp hokI hokl hok0 hw
      by_cases hk : sk = 0
      · have hs0 := HOK0.out hk
        simp only [goesS, Stp.mk.injEq] at hs0
        obtain ⟨rfl, rfl, rfl, rfl, rfl, rfl, rfl, rfl⟩ := hs0
        go_upto_region 6 with (go_at_call 16; refine (HST.out _ (Mod.refl _ _)).mono ?_; rintro e w2 ⟨rfl, hm2, hp2⟩; dsimp only [cpuV, Stp.L, stopL, List.map_cons, List.map_nil, List.cons_append, List.nil_append]; have HW2 := Lib.hid (HW.out.step hm2 hp2); clear hm2 hp2 x0 x1 x2 x3 x4 x5 x6 x7 x8; have m0 := row_cell HW2.out.h6 0; have m1 := row_cell HW2.out.h6 1; have m2 := row_cell HW2.out.h6 2; have m3 := row_cell HW2.out.h6 3; have m4 := row_cell HW2.out.h6 4; have m5 := row_cell HW2.out.h6 5; have m6 := row_cell HW2.out.h6 6; have m7 := row_cell HW2.out.h6 7; have m8 := row_cell HW2.out.h6 8; have s_0 := row_cell HW2.out.h11 0; have s_1 := row_cell HW2.out.h11 1; have s_2 := row_cell HW2.out.h11 2; have s_3 := row_cell HW2.out.h11 3; have s_4 := row_cell HW2.out.h11 4; have s_5 := row_cell HW2.out.h11 5; have s_6 := row_cell HW2.out.h11 6; have s_7 := row_cell HW2.out.h11 7; simp only [List.getElem?_cons_zero, List.getElem?_cons_succ] at m0 m1 m2 m3 m4 m5 m6 m7 m8 s_0 s_1 s_2 s_3 s_4 s_5 s_6 s_7; have fm0 : w2.frozen? ⟨b6, 0, none⟩ = false := row_free HW2.out.h6 0; have fm1 : w2.frozen? ⟨b6, 1, none⟩ = false := row_free HW2.out.h6 1; have fm2 : w2.frozen? ⟨b6, 2, none⟩ = false := row_free HW2.out.h6 2; have fm3 : w2.frozen? ⟨b6, 3, none⟩ = false := row_free HW2.out.h6 3; have fm4 : w2.frozen? ⟨b6, 4, none⟩ = false := row_free HW2.out.h6 4; have fm5 : w2.frozen? ⟨b6, 5, none⟩ = false := row_free HW2.out.h6 5; have fm6 : w2.frozen? ⟨b6, 6, none⟩ = false := row_free HW2.out.h6 6; have fm7 : w2.frozen? ⟨b6, 7, none⟩ = false := row_free HW2.out.h6 7; have fm8 : w2.frozen? ⟨b6, 8, none⟩ = false := row_free HW2.out.h6 8; have fs0 : w2.frozen? ⟨b11, 0, none⟩ = false := row_free HW2.out.h11 0; have fs1 : w2.frozen? ⟨b11, 1, none⟩ = false := row_free HW2.out.h11 1; have fs2 : w2.frozen? ⟨b11, 2, none⟩ = false := row_free HW2.out.h11 2; have fs3 : w2.frozen? ⟨b11, 3, none⟩ = false := row_free HW2.out.h11 3; have fs4 : w2.frozen? ⟨b11, 4, none⟩ = false := row_free HW2.out.h11 4; have fs5 : w2.frozen? ⟨b11, 5, none⟩ = false := row_free HW2.out.h11 5; have fs6 : w2.frozen? ⟨b11, 6, none⟩ = false := row_free HW2.out.h11 6; have fs7 : w2.frozen? ⟨b11, 7, none⟩ = false := row_free HW2.out.h11 7; have pm : b6 < w2.heap.size := lt_of_blk HW2.out.h6; have ps : b11 < w2.heap.size := lt_of_blk HW2.out.h11; have n611 : b6 ≠ b11 := by have := HW2.out.l8; have := HW2.out.l10; have := HW2.out.l11; omega)
        have n611 : b6 ≠ b11 := by have := HW2.out.l8; have := HW2.out.l10; have := HW2.out.l11; omega
        have hmm : Mod (fun k => k = b6 ∨ k = b11) w2 (((((((((((((((((w2.setCell ⟨b6, 0, none⟩ (.int .u32 q0)).setCell ⟨b6, 1, none⟩ (.int .u32 q1)).setCell ⟨b6, 2, none⟩ (.int .u32 q2)).setCell ⟨b6, 3, none⟩ (.int .u32 q3)).setCell ⟨b6, 4, none⟩ (.int .u32 q4)).setCell ⟨b6, 5, none⟩ (.int .u32 q5)).setCell ⟨b6, 6, none⟩ (.int .u32 q6)).setCell ⟨b6, 7, none⟩ (.int .u32 q7)).setCell ⟨b6, 8, none⟩ (.int .u32 q8)).setCell ⟨b11, 0, none⟩ (.int .i64 0)).setCell ⟨b11, 1, none⟩ (.int .u32 0)).setCell ⟨b11, 2, none⟩ (.int .u32 0)).setCell ⟨b11, 3, none⟩ (.int .u32 0)).setCell ⟨b11, 4, none⟩ (.int .u32 0)).setCell ⟨b11, 5, none⟩ (.int .u32 0)).setCell ⟨b11, 6, none⟩ (.int .u32 0)).setCell ⟨b11, 7, none⟩ (.int .i64 0)) := ((mod_put9 (.int .u32 q0) (.int .u32 q1) (.int .u32 q2) (.int .u32 q3) (.int .u32 q4) (.int .u32 q5) (.int .u32 q6) (.int .u32 q7) (.int .u32 q8)).mono (fun _ _ q => .inl q)).trans ((mod_put8 (.int .i64 0) (.int .u32 0) (.int .u32 0) (.int .u32 0) (.int .u32 0) (.int .u32 0) (.int .u32 0) (.int .i64 0)).mono (fun _ _ q => .inr q))
        have h6 : (((((((((((((((((w2.setCell ⟨b6, 0, none⟩ (.int .u32 q0)).setCell ⟨b6, 1, none⟩ (.int .u32 q1)).setCell ⟨b6, 2, none⟩ (.int .u32 q2)).setCell ⟨b6, 3, none⟩ (.int .u32 q3)).setCell ⟨b6, 4, none⟩ (.int .u32 q4)).setCell ⟨b6, 5, none⟩ (.int .u32 q5)).setCell ⟨b6, 6, none⟩ (.int .u32 q6)).setCell ⟨b6, 7, none⟩ (.int .u32 q7)).setCell ⟨b6, 8, none⟩ (.int .u32 q8)).setCell ⟨b11, 0, none⟩ (.int .i64 0)).setCell ⟨b11, 1, none⟩ (.int .u32 0)).setCell ⟨b11, 2, none⟩ (.int .u32 0)).setCell ⟨b11, 3, none⟩ (.int .u32 0)).setCell ⟨b11, 4, none⟩ (.int .u32 0)).setCell ⟨b11, 5, none⟩ (.int .u32 0)).setCell ⟨b11, 6, none⟩ (.int .u32 0)).setCell ⟨b11, 7, none⟩ (.int .i64 0)).heap[b6]? = some (.cells ([.int .u32 q0, .int .u32 q1, .int .u32 q2, .int .u32 q3, .int .u32 q4, .int .u32 q5, .int .u32 q6, .int .u32 q7, .int .u32 q8] : List Value).toArray 26 (0, 0)) := by
          have h := set9 HW2.out.h6 rfl (.int .u32 q0) (.int .u32 q1) (.int .u32 q2) (.int .u32 q3) (.int .u32 q4) (.int .u32 q5) (.int .u32 q6) (.int .u32 q7) (.int .u32 q8)
          exact (blk_setCell (blk_setCell (blk_setCell (blk_setCell (blk_setCell (blk_setCell (blk_setCell (blk_setCell h n611 _) n611 _) n611 _) n611 _) n611 _) n611 _) n611 _) n611 _)
        have h11 : (((((((((((((((((w2.setCell ⟨b6, 0, none⟩ (.int .u32 q0)).setCell ⟨b6, 1, none⟩ (.int .u32 q1)).setCell ⟨b6, 2, none⟩ (.int .u32 q2)).setCell ⟨b6, 3, none⟩ (.int .u32 q3)).setCell ⟨b6, 4, none⟩ (.int .u32 q4)).setCell ⟨b6, 5, none⟩ (.int .u32 q5)).setCell ⟨b6, 6, none⟩ (.int .u32 q6)).setCell ⟨b6, 7, none⟩ (.int .u32 q7)).setCell ⟨b6, 8, none⟩ (.int .u32 q8)).setCell ⟨b11, 0, none⟩ (.int .i64 0)).setCell ⟨b11, 1, none⟩ (.int .u32 0)).setCell ⟨b11, 2, none⟩ (.int .u32 0)).setCell ⟨b11, 3, none⟩ (.int .u32 0)).setCell ⟨b11, 4, none⟩ (.int .u32 0)).setCell ⟨b11, 5, none⟩ (.int .u32 0)).setCell ⟨b11, 6, none⟩ (.int .u32 0)).setCell ⟨b11, 7, none⟩ (.int .i64 0)).heap[b11]? = some (.cells ([.int .i64 0, .int .u32 0, .int .u32 0, .int .u32 0, .int .u32 0, .int .u32 0, .int .u32 0, .int .i64 0] : List Value).toArray 34 (0, 0)) := by
          refine set8 (w := (((((((((w2.setCell ⟨b6, 0, none⟩ (.int .u32 q0)).setCell ⟨b6, 1, none⟩ (.int .u32 q1)).setCell ⟨b6, 2, none⟩ (.int .u32 q2)).setCell ⟨b6, 3, none⟩ (.int .u32 q3)).setCell ⟨b6, 4, none⟩ (.int .u32 q4)).setCell ⟨b6, 5, none⟩ (.int .u32 q5)).setCell ⟨b6, 6, none⟩ (.int .u32 q6)).setCell ⟨b6, 7, none⟩ (.int .u32 q7)).setCell ⟨b6, 8, none⟩ (.int .u32 q8))) (L := [.int .i64 0, .int .u32 0, .int .u32 0, .int .u32 0, .int .u32 0, .int .u32 0, .int .u32 0, .int .i64 0]) ?_ rfl (.int .i64 0) (.int .u32 0) (.int .u32 0) (.int .u32 0) (.int .u32 0) (.int .u32 0) (.int .u32 0) (.int .i64 0)
          exact (blk_setCell (blk_setCell (blk_setCell (blk_setCell (blk_setCell (blk_setCell (blk_setCell (blk_setCell (blk_setCell HW2.out.h11 n611.symm _) n611.symm _) n611.symm _) n611.symm _) n611.symm _) n611.symm _) n611.symm _) n611.symm _) n611.symm _)
        have hw3 := HW2.out.put hmm h6 h11
        generalize (((((((((((((((((w2.setCell ⟨b6, 0, none⟩ (.int .u32 q0)).setCell ⟨b6, 1, none⟩ (.int .u32 q1)).setCell ⟨b6, 2, none⟩ (.int .u32 q2)).setCell ⟨b6, 3, none⟩ (.int .u32 q3)).setCell ⟨b6, 4, none⟩ (.int .u32 q4)).setCell ⟨b6, 5, none⟩ (.int .u32 q5)).setCell ⟨b6, 6, none⟩ (.int .u32 q6)).setCell ⟨b6, 7, none⟩ (.int .u32 q7)).setCell ⟨b6, 8, none⟩ (.int .u32 q8)).setCell ⟨b11, 0, none⟩ (.int .i64 0)).setCell ⟨b11, 1, none⟩ (.int .u32 0)).setCell ⟨b11, 2, none⟩ (.int .u32 0)).setCell ⟨b11, 3, none⟩ (.int .u32 0)).setCell ⟨b11, 4, none⟩ (.int .u32 0)).setCell ⟨b11, 5, none⟩ (.int .u32 0)).setCell ⟨b11, 6, none⟩ (.int .u32 0)).setCell ⟨b11, 7, none⟩ (.int .i64 0)) = w3 at hw3 ⊢
        have HW3 := Lib.hid hw3
        clear hw3 hmm h6 h11 n611 m0 m1 m2 m3 m4 m5 m6 m7 m8 s_0 s_1 s_2 s_3 s_4 s_5 s_6 s_7 fm0 fm1 fm2 fm3 fm4 fm5 fm6 fm7 fm8 fs0 fs1 fs2 fs3 fs4 fs5 fs6 fs7 pm ps
        have n0 : w3.cell? ⟨b11, 0, none⟩ = some (.int .i64 0) := row_cell HW3.out.h11 0
        go_wp2_with fail
        go_roundw
        case rel => exact ⟨j + 1, by go_num, by omega, _, q0, q1, q2, q3, q4, q5, q6, q7, q8, HW3.out, HNEXT.out rfl, HOK.out.2.2.1, HOK.out.2.2.2, HOK.out.1, HOK.out.2.1⟩
        case measure => simp [intOf]; omega
      · have dk : (sk != 0) = true := bne_iff_ne.2 hk
        go_upto_region 6 with (go_at_call 16; refine (HST.out _ (Mod.refl _ _)).mono ?_; rintro e w2 ⟨rfl, hm2, hp2⟩; dsimp only [cpuV, Stp.L, stopL, List.map_cons, List.map_nil, List.cons_append, List.nil_append]; have HW2 := Lib.hid (HW.out.step hm2 hp2); clear hm2 hp2 x0 x1 x2 x3 x4 x5 x6 x7 x8; have m0 := row_cell HW2.out.h6 0; have m1 := row_cell HW2.out.h6 1; have m2 := row_cell HW2.out.h6 2; have m3 := row_cell HW2.out.h6 3; have m4 := row_cell HW2.out.h6 4; have m5 := row_cell HW2.out.h6 5; have m6 := row_cell HW2.out.h6 6; have m7 := row_cell HW2.out.h6 7; have m8 := row_cell HW2.out.h6 8; have s_0 := row_cell HW2.out.h11 0; have s_1 := row_cell HW2.out.h11 1; have s_2 := row_cell HW2.out.h11 2; have s_3 := row_cell HW2.out.h11 3; have s_4 := row_cell HW2.out.h11 4; have s_5 := row_cell HW2.out.h11 5; have s_6 := row_cell HW2.out.h11 6; have s_7 := row_cell HW2.out.h11 7; simp only [List.getElem?_cons_zero, List.getElem?_cons_succ] at m0 m1 m2 m3 m4 m5 m6 m7 m8 s_0 s_1 s_2 s_3 s_4 s_5 s_6 s_7; have fm0 : w2.frozen? ⟨b6, 0, none⟩ = false := row_free HW2.out.h6 0; have fm1 : w2.frozen? ⟨b6, 1, none⟩ = false := row_free HW2.out.h6 1; have fm2 : w2.frozen? ⟨b6, 2, none⟩ = false := row_free HW2.out.h6 2; have fm3 : w2.frozen? ⟨b6, 3, none⟩ = false := row_free HW2.out.h6 3; have fm4 : w2.frozen? ⟨b6, 4, none⟩ = false := row_free HW2.out.h6 4; have fm5 : w2.frozen? ⟨b6, 5, none⟩ = false := row_free HW2.out.h6 5; have fm6 : w2.frozen? ⟨b6, 6, none⟩ = false := row_free HW2.out.h6 6; have fm7 : w2.frozen? ⟨b6, 7, none⟩ = false := row_free HW2.out.h6 7; have fm8 : w2.frozen? ⟨b6, 8, none⟩ = false := row_free HW2.out.h6 8; have fs0 : w2.frozen? ⟨b11, 0, none⟩ = false := row_free HW2.out.h11 0; have fs1 : w2.frozen? ⟨b11, 1, none⟩ = false := row_free HW2.out.h11 1; have fs2 : w2.frozen? ⟨b11, 2, none⟩ = false := row_free HW2.out.h11 2; have fs3 : w2.frozen? ⟨b11, 3, none⟩ = false := row_free HW2.out.h11 3; have fs4 : w2.frozen? ⟨b11, 4, none⟩ = false := row_free HW2.out.h11 4; have fs5 : w2.frozen? ⟨b11, 5, none⟩ = false := row_free HW2.out.h11 5; have fs6 : w2.frozen? ⟨b11, 6, none⟩ = false := row_free HW2.out.h11 6; have fs7 : w2.frozen? ⟨b11, 7, none⟩ = false := row_free HW2.out.h11 7; have pm : b6 < w2.heap.size := lt_of_blk HW2.out.h6; have ps : b11 < w2.heap.size := lt_of_blk HW2.out.h11; have n611 : b6 ≠ b11 := by have := HW2.out.l8; have := HW2.out.l10; have := HW2.out.l11; omega)
        have n611 : b6 ≠ b11 := by have := HW2.out.l8; have := HW2.out.l10; have := HW2.out.l11; omega
        have hmm : Mod (fun k => k = b6 ∨ k = b11) w2 (((((((((((((((((w2.setCell ⟨b6, 0, none⟩ (.int .u32 q0)).setCell ⟨b6, 1, none⟩ (.int .u32 q1)).setCell ⟨b6, 2, none⟩ (.int .u32 q2)).setCell ⟨b6, 3, none⟩ (.int .u32 q3)).setCell ⟨b6, 4, none⟩ (.int .u32 q4)).setCell ⟨b6, 5, none⟩ (.int .u32 q5)).setCell ⟨b6, 6, none⟩ (.int .u32 q6)).setCell ⟨b6, 7, none⟩ (.int .u32 q7)).setCell ⟨b6, 8, none⟩ (.int .u32 q8)).setCell ⟨b11, 0, none⟩ (.int .i64 sk)).setCell ⟨b11, 1, none⟩ (.int .u32 sc)).setCell ⟨b11, 2, none⟩ (.int .u32 s1)).setCell ⟨b11, 3, none⟩ (.int .u32 s2)).setCell ⟨b11, 4, none⟩ (.int .u32 s3)).setCell ⟨b11, 5, none⟩ (.int .u32 s4)).setCell ⟨b11, 6, none⟩ (.int .u32 s5)).setCell ⟨b11, 7, none⟩ (.int .i64 sy)) := ((mod_put9 (.int .u32 q0) (.int .u32 q1) (.int .u32 q2) (.int .u32 q3) (.int .u32 q4) (.int .u32 q5) (.int .u32 q6) (.int .u32 q7) (.int .u32 q8)).mono (fun _ _ q => .inl q)).trans ((mod_put8 (.int .i64 sk) (.int .u32 sc) (.int .u32 s1) (.int .u32 s2) (.int .u32 s3) (.int .u32 s4) (.int .u32 s5) (.int .i64 sy)).mono (fun _ _ q => .inr q))
        have h6 : (((((((((((((((((w2.setCell ⟨b6, 0, none⟩ (.int .u32 q0)).setCell ⟨b6, 1, none⟩ (.int .u32 q1)).setCell ⟨b6, 2, none⟩ (.int .u32 q2)).setCell ⟨b6, 3, none⟩ (.int .u32 q3)).setCell ⟨b6, 4, none⟩ (.int .u32 q4)).setCell ⟨b6, 5, none⟩ (.int .u32 q5)).setCell ⟨b6, 6, none⟩ (.int .u32 q6)).setCell ⟨b6, 7, none⟩ (.int .u32 q7)).setCell ⟨b6, 8, none⟩ (.int .u32 q8)).setCell ⟨b11, 0, none⟩ (.int .i64 sk)).setCell ⟨b11, 1, none⟩ (.int .u32 sc)).setCell ⟨b11, 2, none⟩ (.int .u32 s1)).setCell ⟨b11, 3, none⟩ (.int .u32 s2)).setCell ⟨b11, 4, none⟩ (.int .u32 s3)).setCell ⟨b11, 5, none⟩ (.int .u32 s4)).setCell ⟨b11, 6, none⟩ (.int .u32 s5)).setCell ⟨b11, 7, none⟩ (.int .i64 sy)).heap[b6]? = some (.cells ([.int .u32 q0, .int .u32 q1, .int .u32 q2, .int .u32 q3, .int .u32 q4, .int .u32 q5, .int .u32 q6, .int .u32 q7, .int .u32 q8] : List Value).toArray 26 (0, 0)) := by
          have h := set9 HW2.out.h6 rfl (.int .u32 q0) (.int .u32 q1) (.int .u32 q2) (.int .u32 q3) (.int .u32 q4) (.int .u32 q5) (.int .u32 q6) (.int .u32 q7) (.int .u32 q8)
          exact (blk_setCell (blk_setCell (blk_setCell (blk_setCell (blk_setCell (blk_setCell (blk_setCell (blk_setCell h n611 _) n611 _) n611 _) n611 _) n611 _) n611 _) n611 _) n611 _)
        have h11 : (((((((((((((((((w2.setCell ⟨b6, 0, none⟩ (.int .u32 q0)).setCell ⟨b6, 1, none⟩ (.int .u32 q1)).setCell ⟨b6, 2, none⟩ (.int .u32 q2)).setCell ⟨b6, 3, none⟩ (.int .u32 q3)).setCell ⟨b6, 4, none⟩ (.int .u32 q4)).setCell ⟨b6, 5, none⟩ (.int .u32 q5)).setCell ⟨b6, 6, none⟩ (.int .u32 q6)).setCell ⟨b6, 7, none⟩ (.int .u32 q7)).setCell ⟨b6, 8, none⟩ (.int .u32 q8)).setCell ⟨b11, 0, none⟩ (.int .i64 sk)).setCell ⟨b11, 1, none⟩ (.int .u32 sc)).setCell ⟨b11, 2, none⟩ (.int .u32 s1)).setCell ⟨b11, 3, none⟩ (.int .u32 s2)).setCell ⟨b11, 4, none⟩ (.int .u32 s3)).setCell ⟨b11, 5, none⟩ (.int .u32 s4)).setCell ⟨b11, 6, none⟩ (.int .u32 s5)).setCell ⟨b11, 7, none⟩ (.int .i64 sy)).heap[b11]? = some (.cells ([.int .i64 sk, .int .u32 sc, .int .u32 s1, .int .u32 s2, .int .u32 s3, .int .u32 s4, .int .u32 s5, .int .i64 sy] : List Value).toArray 34 (0, 0)) := by
          refine set8 (w := (((((((((w2.setCell ⟨b6, 0, none⟩ (.int .u32 q0)).setCell ⟨b6, 1, none⟩ (.int .u32 q1)).setCell ⟨b6, 2, none⟩ (.int .u32 q2)).setCell ⟨b6, 3, none⟩ (.int .u32 q3)).setCell ⟨b6, 4, none⟩ (.int .u32 q4)).setCell ⟨b6, 5, none⟩ (.int .u32 q5)).setCell ⟨b6, 6, none⟩ (.int .u32 q6)).setCell ⟨b6, 7, none⟩ (.int .u32 q7)).setCell ⟨b6, 8, none⟩ (.int .u32 q8))) (L := [.int .i64 0, .int .u32 0, .int .u32 0, .int .u32 0, .int .u32 0, .int .u32 0, .int .u32 0, .int .i64 0]) ?_ rfl (.int .i64 sk) (.int .u32 sc) (.int .u32 s1) (.int .u32 s2) (.int .u32 s3) (.int .u32 s4) (.int .u32 s5) (.int .i64 sy)
          exact (blk_setCell (blk_setCell (blk_setCell (blk_setCell (blk_setCell (blk_setCell (blk_setCell (blk_setCell (blk_setCell HW2.out.h11 n611.symm _) n611.symm _) n611.symm _) n611.symm _) n611.symm _) n611.symm _) n611.symm _) n611.symm _) n611.symm _)
        have hw3 := HW2.out.put hmm h6 h11
        generalize (((((((((((((((((w2.setCell ⟨b6, 0, none⟩ (.int .u32 q0)).setCell ⟨b6, 1, none⟩ (.int .u32 q1)).setCell ⟨b6, 2, none⟩ (.int .u32 q2)).setCell ⟨b6, 3, none⟩ (.int .u32 q3)).setCell ⟨b6, 4, none⟩ (.int .u32 q4)).setCell ⟨b6, 5, none⟩ (.int .u32 q5)).setCell ⟨b6, 6, none⟩ (.int .u32 q6)).setCell ⟨b6, 7, none⟩ (.int .u32 q7)).setCell ⟨b6, 8, none⟩ (.int .u32 q8)).setCell ⟨b11, 0, none⟩ (.int .i64 sk)).setCell ⟨b11, 1, none⟩ (.int .u32 sc)).setCell ⟨b11, 2, none⟩ (.int .u32 s1)).setCell ⟨b11, 3, none⟩ (.int .u32 s2)).setCell ⟨b11, 4, none⟩ (.int .u32 s3)).setCell ⟨b11, 5, none⟩ (.int .u32 s4)).setCell ⟨b11, 6, none⟩ (.int .u32 s5)).setCell ⟨b11, 7, none⟩ (.int .i64 sy)) = w3 at hw3 ⊢
        have HW3 := Lib.hid hw3
        clear hw3 hmm h6 h11 n611 m0 m1 m2 m3 m4 m5 m6 m7 m8 s_0 s_1 s_2 s_3 s_4 s_5 s_6 s_7 fm0 fm1 fm2 fm3 fm4 fm5 fm6 fm7 fm8 fs0 fs1 fs2 fs3 fs4 fs5 fs6 fs7 pm ps
        have n0 : w3.cell? ⟨b11, 0, none⟩ = some (.int .i64 sk) := row_cell HW3.out.h11 0
        go_upto_region 7 with (fail)
        clear n0
        have y0 := row_cell HW3.out.h6 0
        have y1 := row_cell HW3.out.h6 1
        have y2 := row_cell HW3.out.h6 2
        have y3 := row_cell HW3.out.h6 3
        have y4 := row_cell HW3.out.h6 4
        have y5 := row_cell HW3.out.h6 5
        have y6 := row_cell HW3.out.h6 6
        have y7 := row_cell HW3.out.h6 7
        have y8 := row_cell HW3.out.h6 8
        have u0 := row_cell HW3.out.h8 0
        have u1 := row_cell HW3.out.h8 1
        have u2 := row_cell HW3.out.h8 2
        have u3 := row_cell HW3.out.h8 3
        have u4 := row_cell HW3.out.h8 4
        have u5 := row_cell HW3.out.h8 5
        have u6 := row_cell HW3.out.h8 6
        have u7 := row_cell HW3.out.h8 7
        have u8 := row_cell HW3.out.h8 8
        have v0 := row_cell HW3.out.h10 0
        have v1 := row_cell HW3.out.h10 1
        have v2 := row_cell HW3.out.h10 2
        have v3 := row_cell HW3.out.h10 3
        have v4 := row_cell HW3.out.h10 4
        have v5 := row_cell HW3.out.h10 5
        have v6 := row_cell HW3.out.h10 6
        have v7 := row_cell HW3.out.h10 7
        have n0 := row_cell HW3.out.h11 0
        have n1 := row_cell HW3.out.h11 1
        have n2 := row_cell HW3.out.h11 2
        have n3 := row_cell HW3.out.h11 3
        have n4 := row_cell HW3.out.h11 4
        have n5 := row_cell HW3.out.h11 5
        have n6 := row_cell HW3.out.h11 6
        have n7 := row_cell HW3.out.h11 7
        simp only [List.getElem?_cons_zero, List.getElem?_cons_succ] at y0 y1 y2 y3 y4 y5 y6 y7 y8 u0 u1 u2 u3 u4 u5 u6 u7 u8 v0 v1 v2 v3 v4 v5 v6 v7 n0 n1 n2 n3 n4 n5 n6 n7
        have fu0 : w3.frozen? ⟨b8, 0, none⟩ = false := row_free HW3.out.h8 0
        have fu1 : w3.frozen? ⟨b8, 1, none⟩ = false := row_free HW3.out.h8 1
        have fu2 : w3.frozen? ⟨b8, 2, none⟩ = false := row_free HW3.out.h8 2
        have fu3 : w3.frozen? ⟨b8, 3, none⟩ = false := row_free HW3.out.h8 3
        have fu4 : w3.frozen? ⟨b8, 4, none⟩ = false := row_free HW3.out.h8 4
        have fu5 : w3.frozen? ⟨b8, 5, none⟩ = false := row_free HW3.out.h8 5
        have fu6 : w3.frozen? ⟨b8, 6, none⟩ = false := row_free HW3.out.h8 6
        have fu7 : w3.frozen? ⟨b8, 7, none⟩ = false := row_free HW3.out.h8 7
        have fu8 : w3.frozen? ⟨b8, 8, none⟩ = false := row_free HW3.out.h8 8
        have fv0 : w3.frozen? ⟨b10, 0, none⟩ = false := row_free HW3.out.h10 0
        have fv1 : w3.frozen? ⟨b10, 1, none⟩ = false := row_free HW3.out.h10 1
        have fv2 : w3.frozen? ⟨b10, 2, none⟩ = false := row_free HW3.out.h10 2
        have fv3 : w3.frozen? ⟨b10, 3, none⟩ = false := row_free HW3.out.h10 3
        have fv4 : w3.frozen? ⟨b10, 4, none⟩ = false := row_free HW3.out.h10 4
        have fv5 : w3.frozen? ⟨b10, 5, none⟩ = false := row_free HW3.out.h10 5
        have fv6 : w3.frozen? ⟨b10, 6, none⟩ = false := row_free HW3.out.h10 6
        have fv7 : w3.frozen? ⟨b10, 7, none⟩ = false := row_free HW3.out.h10 7
        have p8 : b8 < w3.heap.size := lt_of_blk HW3.out.h8
        have p10 : b10 < w3.heap.size := lt_of_blk HW3.out.h10
        have n68 : b6 ≠ b8 := by have := HW3.out.l8; have := HW3.out.l10; have := HW3.out.l11; omega
        have n610 : b6 ≠ b10 := by have := HW3.out.l8; have := HW3.out.l10; have := HW3.out.l11; omega
        have n810 : b8 ≠ b10 := by have := HW3.out.l8; have := HW3.out.l10; have := HW3.out.l11; omega
        have n811 : b8 ≠ b11 := by have := HW3.out.l8; have := HW3.out.l10; have := HW3.out.l11; omega
        have n1011 : b10 ≠ b11 := by have := HW3.out.l8; have := HW3.out.l10; have := HW3.out.l11; omega
        have n611 : b6 ≠ b11 := by have := HW3.out.l8; have := HW3.out.l10; have := HW3.out.l11; omega
        go_region
        have n810 : b8 ≠ b10 := by have := HW3.out.l10; omega
        have hE1 : ((((((((((((((((((w3.setCell ⟨b8, 0, none⟩ (.int .u32 q0)).setCell ⟨b8, 1, none⟩ (.int .u32 q1)).setCell ⟨b8, 2, none⟩ (.int .u32 q2)).setCell ⟨b8, 3, none⟩ (.int .u32 q3)).setCell ⟨b8, 4, none⟩ (.int .u32 q4)).setCell ⟨b8, 5, none⟩ (.int .u32 q5)).setCell ⟨b8, 6, none⟩ (.int .u32 q6)).setCell ⟨b8, 7, none⟩ (.int .u32 q7)).setCell ⟨b8, 8, none⟩ (.int .u32 q8)).setCell ⟨b10, 0, none⟩ (.int .i64 sk)).setCell ⟨b10, 1, none⟩ (.int .u32 sc)).setCell ⟨b10, 2, none⟩ (.int .u32 s1)).setCell ⟨b10, 3, none⟩ (.int .u32 s2)).setCell ⟨b10, 4, none⟩ (.int .u32 s3)).setCell ⟨b10, 5, none⟩ (.int .u32 s4)).setCell ⟨b10, 6, none⟩ (.int .u32 s5)).setCell ⟨b10, 7, none⟩ (.int .i64 sy)).drew).heap[b8]? = some (.cells ([.int .u32 q0, .int .u32 q1, .int .u32 q2, .int .u32 q3, .int .u32 q4, .int .u32 q5, .int .u32 q6, .int .u32 q7, .int .u32 q8] : List Value).toArray 26 (0, 0)) := by
          have h := set9 HW3.out.h8 rfl (.int .u32 q0) (.int .u32 q1) (.int .u32 q2) (.int .u32 q3) (.int .u32 q4) (.int .u32 q5) (.int .u32 q6) (.int .u32 q7) (.int .u32 q8)
          exact blk_drew (blk_setCell (blk_setCell (blk_setCell (blk_setCell (blk_setCell (blk_setCell (blk_setCell (blk_setCell h n810 _) n810 _) n810 _) n810 _) n810 _) n810 _) n810 _) n810 _)
        have hE2 : ((((((((((((((((((w3.setCell ⟨b8, 0, none⟩ (.int .u32 q0)).setCell ⟨b8, 1, none⟩ (.int .u32 q1)).setCell ⟨b8, 2, none⟩ (.int .u32 q2)).setCell ⟨b8, 3, none⟩ (.int .u32 q3)).setCell ⟨b8, 4, none⟩ (.int .u32 q4)).setCell ⟨b8, 5, none⟩ (.int .u32 q5)).setCell ⟨b8, 6, none⟩ (.int .u32 q6)).setCell ⟨b8, 7, none⟩ (.int .u32 q7)).setCell ⟨b8, 8, none⟩ (.int .u32 q8)).setCell ⟨b10, 0, none⟩ (.int .i64 sk)).setCell ⟨b10, 1, none⟩ (.int .u32 sc)).setCell ⟨b10, 2, none⟩ (.int .u32 s1)).setCell ⟨b10, 3, none⟩ (.int .u32 s2)).setCell ⟨b10, 4, none⟩ (.int .u32 s3)).setCell ⟨b10, 5, none⟩ (.int .u32 s4)).setCell ⟨b10, 6, none⟩ (.int .u32 s5)).setCell ⟨b10, 7, none⟩ (.int .i64 sy)).drew).heap[b10]? = some (.cells ([.int .i64 sk, .int .u32 sc, .int .u32 s1, .int .u32 s2, .int .u32 s3, .int .u32 s4, .int .u32 s5, .int .i64 sy] : List Value).toArray 34 (0, 0)) := by
          refine blk_drew (set8 (w := (((((((((w3.setCell ⟨b8, 0, none⟩ (.int .u32 q0)).setCell ⟨b8, 1, none⟩ (.int .u32 q1)).setCell ⟨b8, 2, none⟩ (.int .u32 q2)).setCell ⟨b8, 3, none⟩ (.int .u32 q3)).setCell ⟨b8, 4, none⟩ (.int .u32 q4)).setCell ⟨b8, 5, none⟩ (.int .u32 q5)).setCell ⟨b8, 6, none⟩ (.int .u32 q6)).setCell ⟨b8, 7, none⟩ (.int .u32 q7)).setCell ⟨b8, 8, none⟩ (.int .u32 q8))) (L := [.int .i64 0, .int .u32 0, .int .u32 0, .int .u32 0, .int .u32 0, .int .u32 0, .int .u32 0, .int .i64 0]) ?_ rfl (.int .i64 sk) (.int .u32 sc) (.int .u32 s1) (.int .u32 s2) (.int .u32 s3) (.int .u32 s4) (.int .u32 s5) (.int .i64 sy))
          exact (blk_setCell (blk_setCell (blk_setCell (blk_setCell (blk_setCell (blk_setCell (blk_setCell (blk_setCell (blk_setCell HW3.out.h10 n810.symm _) n810.symm _) n810.symm _) n810.symm _) n810.symm _) n810.symm _) n810.symm _) n810.symm _) n810.symm _)
        have hend : Mod (fun k => k = b8 ∨ k = b10) w3 ((((((((((((((((((w3.setCell ⟨b8, 0, none⟩ (.int .u32 q0)).setCell ⟨b8, 1, none⟩ (.int .u32 q1)).setCell ⟨b8, 2, none⟩ (.int .u32 q2)).setCell ⟨b8, 3, none⟩ (.int .u32 q3)).setCell ⟨b8, 4, none⟩ (.int .u32 q4)).setCell ⟨b8, 5, none⟩ (.int .u32 q5)).setCell ⟨b8, 6, none⟩ (.int .u32 q6)).setCell ⟨b8, 7, none⟩ (.int .u32 q7)).setCell ⟨b8, 8, none⟩ (.int .u32 q8)).setCell ⟨b10, 0, none⟩ (.int .i64 sk)).setCell ⟨b10, 1, none⟩ (.int .u32 sc)).setCell ⟨b10, 2, none⟩ (.int .u32 s1)).setCell ⟨b10, 3, none⟩ (.int .u32 s2)).setCell ⟨b10, 4, none⟩ (.int .u32 s3)).setCell ⟨b10, 5, none⟩ (.int .u32 s4)).setCell ⟨b10, 6, none⟩ (.int .u32 s5)).setCell ⟨b10, 7, none⟩ (.int .i64 sy)).drew) := (((mod_put9 (.int .u32 q0) (.int .u32 q1) (.int .u32 q2) (.int .u32 q3) (.int .u32 q4) (.int .u32 q5) (.int .u32 q6) (.int .u32 q7) (.int .u32 q8)).mono (fun _ _ q => .inl q)).trans ((mod_put8 (.int .i64 sk) (.int .u32 sc) (.int .u32 s1) (.int .u32 s2) (.int .u32 s3) (.int .u32 s4) (.int .u32 s5) (.int .i64 sy)).mono (fun _ _ q => .inr q))).drew
        generalize (((((((((((((((((w3.setCell ⟨b8, 0, none⟩ (.int .u32 q0)).setCell ⟨b8, 1, none⟩ (.int .u32 q1)).setCell ⟨b8, 2, none⟩ (.int .u32 q2)).setCell ⟨b8, 3, none⟩ (.int .u32 q3)).setCell ⟨b8, 4, none⟩ (.int .u32 q4)).setCell ⟨b8, 5, none⟩ (.int .u32 q5)).setCell ⟨b8, 6, none⟩ (.int .u32 q6)).setCell ⟨b8, 7, none⟩ (.int .u32 q7)).setCell ⟨b8, 8, none⟩ (.int .u32 q8)).setCell ⟨b10, 0, none⟩ (.int .i64 sk)).setCell ⟨b10, 1, none⟩ (.int .u32 sc)).setCell ⟨b10, 2, none⟩ (.int .u32 s1)).setCell ⟨b10, 3, none⟩ (.int .u32 s2)).setCell ⟨b10, 4, none⟩ (.int .u32 s3)).setCell ⟨b10, 5, none⟩ (.int .u32 s4)).setCell ⟨b10, 6, none⟩ (.int .u32 s5)).setCell ⟨b10, 7, none⟩ (.int .i64 sy)).drew = wE at hE1 hE2 hend ⊢
        have e0 := row_cell hE1 0
        have e1 := row_cell hE1 1
        have e2 := row_cell hE1 2
        have e3 := row_cell hE1 3
        have e4 := row_cell hE1 4
        have e5 := row_cell hE1 5
        have e6 := row_cell hE1 6
        have e7 := row_cell hE1 7
        have e8 := row_cell hE1 8
        have g0 := row_cell hE2 0
        have g1 := row_cell hE2 1
        have g2 := row_cell hE2 2
        have g3 := row_cell hE2 3
        have g4 := row_cell hE2 4
        have g5 := row_cell hE2 5
        have g6 := row_cell hE2 6
        have g7 := row_cell hE2 7
        simp only [List.getElem?_cons_zero, List.getElem?_cons_succ] at e0 e1 e2 e3 e4 e5 e6 e7 e8 g0 g1 g2 g3 g4 g5 g6 g7
        go_wp2
        refine bodyPost_ret (v := .tuple #[.agg #[.int .u32 q0, .int .u32 q1, .int .u32 q2, .int .u32 q3, .int .u32 q4, .int .u32 q5, .int .u32 q6, .int .u32 q7, .int .u32 q8], .int .i64 (j + 1), .agg #[.int .i64 sk, .int .u32 sc, .int .u32 s1, .int .u32 s2, .int .u32 s3, .int .u32 s4, .int .u32 s5, .int .i64 sy]]) (by simp [results, Tryz.results6, go_sem, e0, e1, e2, e3, e4, e5, e6, e7, e8, g0, g1, g2, g3, g4, g5, g6, g7]) rfl ?_
        have hmE : Mod K.inn w wE := HW3.out.m.step hend (fun i hi q => by have := HW3.out.l6; have := HW3.out.l8; have := HW3.out.l10; rcases q with q | q <;> omega)
        have hrE : RfM wE K _ := HW3.out.r.kept hend (fun k hk q => by have := HW3.out.lK k hk; have := HW3.out.l6; have := HW3.out.l8; have := HW3.out.l10; rcases q with q | q <;> omega)
        have ho := HSTOP.out hk
        subst ho
        exact ⟨rfl, hmE, hrE⟩
    · have dlt : decide ((j : Int) < N) = false := decide_eq_false hlt
      have HW := Lib.hid hw
      have hdone : out = (⟨[r0, r1, r2, r3, r4, r5, r6, r7], r8, goesS, S⟩, j) := by
        by_cases hjn : j = N.toNat
        · subst hjn; exact hi.done
        · exfalso; omega
      have HDONE := Lib.hid hdone
      have hjN : (j : Int) = N ∨ (N < 0 ∧ j = 0) := by omega
      have hmx : max N 0 = (j : Int) := by omega
      have y0 := row_cell hw.h6 0
      have y1 := row_cell hw.h6 1
      have y2 := row_cell hw.h6 2
      have y3 := row_cell hw.h6 3
      have y4 := row_cell hw.h6 4
      have y5 := row_cell hw.h6 5
      have y6 := row_cell hw.h6 6
      have y7 := row_cell hw.h6 7
      have y8 := row_cell hw.h6 8
      have u0 := row_cell hw.h8 0
      have u1 := row_cell hw.h8 1
      have u2 := row_cell hw.h8 2
      have u3 := row_cell hw.h8 3
      have u4 := row_cell hw.h8 4
      have u5 := row_cell hw.h8 5
      have u6 := row_cell hw.h8 6
      have u7 := row_cell hw.h8 7
      have u8 := row_cell hw.h8 8
      have v0 := row_cell hw.h10 0
      have v1 := row_cell hw.h10 1
      have v2 := row_cell hw.h10 2
      have v3 := row_cell hw.h10 3
      have v4 := row_cell hw.h10 4
      have v5 := row_cell hw.h10 5
      have v6 := row_cell hw.h10 6
      have v7 := row_cell hw.h10 7
      have n0 := row_cell hw.h11 0
      have n1 := row_cell hw.h11 1
      have n2 := row_cell hw.h11 2
      have n3 := row_cell hw.h11 3
      have n4 := row_cell hw.h11 4
      have n5 := row_cell hw.h11 5
      have n6 := row_cell hw.h11 6
      have n7 := row_cell hw.h11 7
      simp only [List.getElem?_cons_zero, List.getElem?_cons_succ] at y0 y1 y2 y3 y4 y5 y6 y7 y8 u0 u1 u2 u3 u4 u5 u6 u7 u8 v0 v1 v2 v3 v4 v5 v6 v7 n0 n1 n2 n3 n4 n5 n6 n7
      have fu0 : wr.frozen? ⟨b8, 0, none⟩ = false := row_free hw.h8 0
      have fu1 : wr.frozen? ⟨b8, 1, none⟩ = false := row_free hw.h8 1
      have fu2 : wr.frozen? ⟨b8, 2, none⟩ = false := row_free hw.h8 2
      have fu3 : wr.frozen? ⟨b8, 3, none⟩ = false := row_free hw.h8 3
      have fu4 : wr.frozen? ⟨b8, 4, none⟩ = false := row_free hw.h8 4
      have fu5 : wr.frozen? ⟨b8, 5, none⟩ = false := row_free hw.h8 5
      have fu6 : wr.frozen? ⟨b8, 6, none⟩ = false := row_free hw.h8 6
      have fu7 : wr.frozen? ⟨b8, 7, none⟩ = false := row_free hw.h8 7
      have fu8 : wr.frozen? ⟨b8, 8, none⟩ = false := row_free hw.h8 8
      have fv0 : wr.frozen? ⟨b10, 0, none⟩ = false := row_free hw.h10 0
      have fv1 : wr.frozen? ⟨b10, 1, none⟩ = false := row_free hw.h10 1
      have fv2 : wr.frozen? ⟨b10, 2, none⟩ = false := row_free hw.h10 2
      have fv3 : wr.frozen? ⟨b10, 3, none⟩ = false := row_free hw.h10 3
      have fv4 : wr.frozen? ⟨b10, 4, none⟩ = false := row_free hw.h10 4
      have fv5 : wr.frozen? ⟨b10, 5, none⟩ = false := row_free hw.h10 5
      have fv6 : wr.frozen? ⟨b10, 6, none⟩ = false := row_free hw.h10 6
      have fv7 : wr.frozen? ⟨b10, 7, none⟩ = false := row_free hw.h10 7
      have p8 : b8 < wr.heap.size := lt_of_blk hw.h8
      have p10 : b10 < wr.heap.size := lt_of_blk hw.h10
      have n68 : b6 ≠ b8 := by have := hw.l8; have := hw.l10; have := hw.l11; omega
      have n610 : b6 ≠ b10 := by have := hw.l8; have := hw.l10; have := hw.l11; omega
      have n810 : b8 ≠ b10 := by have := hw.l8; have := hw.l10; have := hw.l11; omega
      have n811 : b8 ≠ b11 := by have := hw.l8; have := hw.l10; have := hw.l11; omega
      have n1011 : b10 ≠ b11 := by have := hw.l8; have := hw.l10; have := hw.l11; omega
      have n611 : b6 ≠ b11 := by have := hw.l8; have := hw.l10; have := hw.l11; omega
      clear hi hI hl hR hp hj hw hdone
      go_upto_region 8 with (fail)
      have HJN := Lib.hid hjN
      clear hjN hlt hmx
      go_region
      have n810 : b8 ≠ b10 := by have := HW.out.l10; omega
      have hE1 : ((((((((((((((((((wr.setCell ⟨b8, 0, none⟩ (.int .u32 r0)).setCell ⟨b8, 1, none⟩ (.int .u32 r1)).setCell ⟨b8, 2, none⟩ (.int .u32 r2)).setCell ⟨b8, 3, none⟩ (.int .u32 r3)).setCell ⟨b8, 4, none⟩ (.int .u32 r4)).setCell ⟨b8, 5, none⟩ (.int .u32 r5)).setCell ⟨b8, 6, none⟩ (.int .u32 r6)).setCell ⟨b8, 7, none⟩ (.int .u32 r7)).setCell ⟨b8, 8, none⟩ (.int .u32 r8)).setCell ⟨b10, 0, none⟩ (.int .i64 0)).setCell ⟨b10, 1, none⟩ (.int .u32 0)).setCell ⟨b10, 2, none⟩ (.int .u32 0)).setCell ⟨b10, 3, none⟩ (.int .u32 0)).setCell ⟨b10, 4, none⟩ (.int .u32 0)).setCell ⟨b10, 5, none⟩ (.int .u32 0)).setCell ⟨b10, 6, none⟩ (.int .u32 0)).setCell ⟨b10, 7, none⟩ (.int .i64 0)).drew).heap[b8]? = some (.cells ([.int .u32 r0, .int .u32 r1, .int .u32 r2, .int .u32 r3, .int .u32 r4, .int .u32 r5, .int .u32 r6, .int .u32 r7, .int .u32 r8] : List Value).toArray 26 (0, 0)) := by
        have h := set9 HW.out.h8 rfl (.int .u32 r0) (.int .u32 r1) (.int .u32 r2) (.int .u32 r3) (.int .u32 r4) (.int .u32 r5) (.int .u32 r6) (.int .u32 r7) (.int .u32 r8)
        exact blk_drew (blk_setCell (blk_setCell (blk_setCell (blk_setCell (blk_setCell (blk_setCell (blk_setCell (blk_setCell h n810 _) n810 _) n810 _) n810 _) n810 _) n810 _) n810 _) n810 _)
      have hE2 : ((((((((((((((((((wr.setCell ⟨b8, 0, none⟩ (.int .u32 r0)).setCell ⟨b8, 1, none⟩ (.int .u32 r1)).setCell ⟨b8, 2, none⟩ (.int .u32 r2)).setCell ⟨b8, 3, none⟩ (.int .u32 r3)).setCell ⟨b8, 4, none⟩ (.int .u32 r4)).setCell ⟨b8, 5, none⟩ (.int .u32 r5)).setCell ⟨b8, 6, none⟩ (.int .u32 r6)).setCell ⟨b8, 7, none⟩ (.int .u32 r7)).setCell ⟨b8, 8, none⟩ (.int .u32 r8)).setCell ⟨b10, 0, none⟩ (.int .i64 0)).setCell ⟨b10, 1, none⟩ (.int .u32 0)).setCell ⟨b10, 2, none⟩ (.int .u32 0)).setCell ⟨b10, 3, none⟩ (.int .u32 0)).setCell ⟨b10, 4, none⟩ (.int .u32 0)).setCell ⟨b10, 5, none⟩ (.int .u32 0)).setCell ⟨b10, 6, none⟩ (.int .u32 0)).setCell ⟨b10, 7, none⟩ (.int .i64 0)).drew).heap[b10]? = some (.cells ([.int .i64 0, .int .u32 0, .int .u32 0, .int .u32 0, .int .u32 0, .int .u32 0, .int .u32 0, .int .i64 0] : List Value).toArray 34 (0, 0)) := by
        refine blk_drew (set8 (w := (((((((((wr.setCell ⟨b8, 0, none⟩ (.int .u32 r0)).setCell ⟨b8, 1, none⟩ (.int .u32 r1)).setCell ⟨b8, 2, none⟩ (.int .u32 r2)).setCell ⟨b8, 3, none⟩ (.int .u32 r3)).setCell ⟨b8, 4, none⟩ (.int .u32 r4)).setCell ⟨b8, 5, none⟩ (.int .u32 r5)).setCell ⟨b8, 6, none⟩ (.int .u32 r6)).setCell ⟨b8, 7, none⟩ (.int .u32 r7)).setCell ⟨b8, 8, none⟩ (.int .u32 r8))) (L := [.int .i64 0, .int .u32 0, .int .u32 0, .int .u32 0, .int .u32 0, .int .u32 0, .int .u32 0, .int .i64 0]) ?_ rfl (.int .i64 0) (.int .u32 0) (.int .u32 0) (.int .u32 0) (.int .u32 0) (.int .u32 0) (.int .u32 0) (.int .i64 0))
        exact (blk_setCell (blk_setCell (blk_setCell (blk_setCell (blk_setCell (blk_setCell (blk_setCell (blk_setCell (blk_setCell HW.out.h10 n810.symm _) n810.symm _) n810.symm _) n810.symm _) n810.symm _) n810.symm _) n810.symm _) n810.symm _) n810.symm _)
      have hend : Mod (fun k => k = b8 ∨ k = b10) wr ((((((((((((((((((wr.setCell ⟨b8, 0, none⟩ (.int .u32 r0)).setCell ⟨b8, 1, none⟩ (.int .u32 r1)).setCell ⟨b8, 2, none⟩ (.int .u32 r2)).setCell ⟨b8, 3, none⟩ (.int .u32 r3)).setCell ⟨b8, 4, none⟩ (.int .u32 r4)).setCell ⟨b8, 5, none⟩ (.int .u32 r5)).setCell ⟨b8, 6, none⟩ (.int .u32 r6)).setCell ⟨b8, 7, none⟩ (.int .u32 r7)).setCell ⟨b8, 8, none⟩ (.int .u32 r8)).setCell ⟨b10, 0, none⟩ (.int .i64 0)).setCell ⟨b10, 1, none⟩ (.int .u32 0)).setCell ⟨b10, 2, none⟩ (.int .u32 0)).setCell ⟨b10, 3, none⟩ (.int .u32 0)).setCell ⟨b10, 4, none⟩ (.int .u32 0)).setCell ⟨b10, 5, none⟩ (.int .u32 0)).setCell ⟨b10, 6, none⟩ (.int .u32 0)).setCell ⟨b10, 7, none⟩ (.int .i64 0)).drew) := (((mod_put9 (.int .u32 r0) (.int .u32 r1) (.int .u32 r2) (.int .u32 r3) (.int .u32 r4) (.int .u32 r5) (.int .u32 r6) (.int .u32 r7) (.int .u32 r8)).mono (fun _ _ q => .inl q)).trans ((mod_put8 (.int .i64 0) (.int .u32 0) (.int .u32 0) (.int .u32 0) (.int .u32 0) (.int .u32 0) (.int .u32 0) (.int .i64 0)).mono (fun _ _ q => .inr q))).drew
      generalize (((((((((((((((((wr.setCell ⟨b8, 0, none⟩ (.int .u32 r0)).setCell ⟨b8, 1, none⟩ (.int .u32 r1)).setCell ⟨b8, 2, none⟩ (.int .u32 r2)).setCell ⟨b8, 3, none⟩ (.int .u32 r3)).setCell ⟨b8, 4, none⟩ (.int .u32 r4)).setCell ⟨b8, 5, none⟩ (.int .u32 r5)).setCell ⟨b8, 6, none⟩ (.int .u32 r6)).setCell ⟨b8, 7, none⟩ (.int .u32 r7)).setCell ⟨b8, 8, none⟩ (.int .u32 r8)).setCell ⟨b10, 0, none⟩ (.int .i64 0)).setCell ⟨b10, 1, none⟩ (.int .u32 0)).setCell ⟨b10, 2, none⟩ (.int .u32 0)).setCell ⟨b10, 3, none⟩ (.int .u32 0)).setCell ⟨b10, 4, none⟩ (.int .u32 0)).setCell ⟨b10, 5, none⟩ (.int .u32 0)).setCell ⟨b10, 6, none⟩ (.int .u32 0)).setCell ⟨b10, 7, none⟩ (.int .i64 0)).drew = wE at hE1 hE2 hend ⊢
      have e0 := row_cell hE1 0
      have e1 := row_cell hE1 1
      have e2 := row_cell hE1 2
      have e3 := row_cell hE1 3
      have e4 := row_cell hE1 4
      have e5 := row_cell hE1 5
      have e6 := row_cell hE1 6
      have e7 := row_cell hE1 7
      have e8 := row_cell hE1 8
      have g0 := row_cell hE2 0
      have g1 := row_cell hE2 1
      have g2 := row_cell hE2 2
      have g3 := row_cell hE2 3
      have g4 := row_cell hE2 4
      have g5 := row_cell hE2 5
      have g6 := row_cell hE2 6
      have g7 := row_cell hE2 7
      simp only [List.getElem?_cons_zero, List.getElem?_cons_succ] at e0 e1 e2 e3 e4 e5 e6 e7 e8 g0 g1 g2 g3 g4 g5 g6 g7
      go_wp2
      · refine bodyPost_ret (v := .tuple #[.agg #[.int .u32 r0, .int .u32 r1, .int .u32 r2, .int .u32 r3, .int .u32 r4, .int .u32 r5, .int .u32 r6, .int .u32 r7, .int .u32 r8], .int .i64 0, .agg #[.int .i64 0, .int .u32 0, .int .u32 0, .int .u32 0, .int .u32 0, .int .u32 0, .int .u32 0, .int .i64 0]]) (by simp [results, Tryz.results6, go_sem, e0, e1, e2, e3, e4, e5, e6, e7, e8, g0, g1, g2, g3, g4, g5, g6, g7]) rfl ?_
        have hmE : Mod K.inn w wE := HW.out.m.step hend (fun i hi q => by have := HW.out.l6; have := HW.out.l8; have := HW.out.l10; rcases q with q | q <;> omega)
        have hrE : RfM wE K _ := HW.out.r.kept hend (fun k hk q => by have := HW.out.lK k hk; have := HW.out.l6; have := HW.out.l8; have := HW.out.l10; rcases q with q | q <;> omega)
        have ho := HDONE.out
        subst ho
        exact ⟨by rw [show ((j : Nat) : Int) = 0 by have := HJN.out; omega]; rfl, hmE, hrE⟩
      · refine bodyPost_ret (v := .tuple #[.agg #[.int .u32 r0, .int .u32 r1, .int .u32 r2, .int .u32 r3, .int .u32 r4, .int .u32 r5, .int .u32 r6, .int .u32 r7, .int .u32 r8], .int .i64 N, .agg #[.int .i64 0, .int .u32 0, .int .u32 0, .int .u32 0, .int .u32 0, .int .u32 0, .int .u32 0, .int .i64 0]]) (by simp [results, Tryz.results6, go_sem, e0, e1, e2, e3, e4, e5, e6, e7, e8, g0, g1, g2, g3, g4, g5, g6, g7]) rfl ?_
        have hmE : Mod K.inn w wE := HW.out.m.step hend (fun i hi q => by have := HW.out.l6; have := HW.out.l8; have := HW.out.l10; rcases q with q | q <;> omega)
        have hrE : RfM wE K _ := HW.out.r.kept hend (fun k hk q => by have := HW.out.lK k hk; have := HW.out.l6; have := HW.out.l8; have := HW.out.l10; rcases q with q | q <;> omega)
        have ho := HDONE.out
        subst ho
        exact ⟨by rw [show ((j : Nat) : Int) = N by have := HJN.out; omega]; rfl, hmE, hrE⟩
end Go.Proofs.YtlbebneblmgdcaaGreatDoor
