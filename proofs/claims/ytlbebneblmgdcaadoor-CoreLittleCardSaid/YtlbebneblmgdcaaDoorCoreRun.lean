/- core.Run: a program. (Printed by wip/gen_run.py.) -/
import Derived.Test.YtlbebneblmgdcaaDoorCoreRunP
import Derived.Deep.DeepCutAuto
import Derived.WalkMore
import Derived.ChangeKeysEq
import Derived.RegionTactic
import Derived.ChangeAlike
namespace Go.Proofs.YtlbebneblmgdcaaDoor
open Go.RowKit
set_option maxRecDepth 100000

theorem eq8b (d : Nat) (a0 a1 a2 a3 a4 a5 a6 a7 b0 b1 b2 b3 b4 b5 b6 b7 : Int) (w : World) : (Op.equalIn (d + 2) 24 (.agg #[.int .u32 a0, .int .u32 a1, .int .u32 a2, .int .u32 a3, .int .u32 a4, .int .u32 a5, .int .u32 a6, .int .u32 a7]) (.agg #[.int .u32 b0, .int .u32 b1, .int .u32 b2, .int .u32 b3, .int .u32 b4, .int .u32 b5, .int .u32 b6, .int .u32 b7])).run Tryd.prog w = .ok (decide ([a0, a1, a2, a3, a4, a5, a6, a7] = [b0, b1, b2, b3, b4, b5, b6, b7])) w := by
  obtain ⟨i, hi⟩ : ∃ i, Tryd.prog.info? 23 = some i := Option.isSome_iff_exists.1 (show (Tryd.prog.info? 23).isSome = true by kernel_rfl)
  rw [run_equalIn_array w (d + 1) _ _ Tryd.underlying24 hi, show Tryd.prog.cellsOf 23 = 1 by kernel_rfl]
  have hp : ∀ (xs : Array Value) (j : Nat) (v : Value) (w : World), xs[j]? = some v → (part 23 xs (j * 1)).run Tryd.prog w = .ok v w := fun xs j v w h => by
    rw [Nat.mul_one]
    simp [part, h, go_sem]
  simp [Op.eqItems, List.range, List.range.loop, go_sem, Tryd.underlying23]
  by_cases h0 : a0 = b0
  · by_cases h1 : a1 = b1
    · by_cases h2 : a2 = b2
      · by_cases h3 : a3 = b3
        · by_cases h4 : a4 = b4
          · by_cases h5 : a5 = b5
            · by_cases h6 : a6 = b6
              · by_cases h7 : a7 = b7
                · simp [h0, h1, h2, h3, h4, h5, h6, h7]
                · simp [h0, h1, h2, h3, h4, h5, h6, h7]
              · simp [h0, h1, h2, h3, h4, h5, h6]
            · simp [h0, h1, h2, h3, h4, h5]
          · simp [h0, h1, h2, h3, h4]
        · simp [h0, h1, h2, h3]
      · simp [h0, h1, h2]
    · simp [h0, h1]
  · simp [h0]
theorem eq5z (d : Nat) (w : World) : (Op.equalIn (d + 2) 31 (.agg #[.int .u32 0, .int .u32 0, .int .u32 0, .int .u32 0, .int .u32 0]) (.agg #[.int .u32 0, .int .u32 0, .int .u32 0, .int .u32 0, .int .u32 0])).run Tryd.prog w = .ok true w := by
  obtain ⟨i, hi⟩ : ∃ i, Tryd.prog.info? 23 = some i := Option.isSome_iff_exists.1 (show (Tryd.prog.info? 23).isSome = true by kernel_rfl)
  rw [run_equalIn_array w (d + 1) _ _ Tryd.underlying31 hi, show Tryd.prog.cellsOf 23 = 1 by kernel_rfl]
  have hp : ∀ (xs : Array Value) (j : Nat) (v : Value) (w : World), xs[j]? = some v → (part 23 xs (j * 1)).run Tryd.prog w = .ok v w := fun xs j v w h => by
    rw [Nat.mul_one]
    simp [part, h, go_sem]
  simp [Op.eqItems, List.range, List.range.loop, go_sem, Tryd.underlying23]

theorem blk_drew {w : World} {b : Nat} {o : Option Obj} (h : w.heap[b]? = o) : w.drew.heap[b]? = o := h
def RunPost (m l B F : Nat) (o : Out × Nat) (w : World) (e : Ending) (w' : World) : Prop :=
  e = .returned (.tuple #[cpuV o.1.R o.1.pc, .int .i64 o.2, .agg o.1.s.L.toArray]) ∧ Mod (One F) w w' ∧ PhM w' B F o.1.S ∧ OutP m l o.1

/-- The blocks of core.Run: the registers, its answers. -/
structure RunW (w wr : World) (B F b6 b8 b10 : Nat) (S : List Fr) (r0 r1 r2 r3 r4 r5 r6 r7 r8 : Int) : Prop where
  m : Mod (One F) w wr
  p : PhM wr B F S
  h6 : wr.heap[b6]? = some (.cells ([.int .u32 r0, .int .u32 r1, .int .u32 r2, .int .u32 r3, .int .u32 r4, .int .u32 r5, .int .u32 r6, .int .u32 r7, .int .u32 r8] : List Value).toArray 26 (0, 0))
  h8 : wr.heap[b8]? = some (.cells ([.int .u32 0, .int .u32 0, .int .u32 0, .int .u32 0, .int .u32 0, .int .u32 0, .int .u32 0, .int .u32 0, .int .u32 0] : List Value).toArray 26 (0, 0))
  h10 : wr.heap[b10]? = some (.cells ([.int .i64 0, .int .u32 0, .int .u32 0, .int .u32 0, .int .u32 0, .int .u32 0, .int .u32 0, .int .i64 0] : List Value).toArray 34 (0, 0))
  l6 : w.heap.size ≤ b6
  l8 : b6 < b8
  l10 : b8 < b10
  lF : F < w.heap.size
  lB : B < w.heap.size
theorem runW_made {B F : Nat} {S : List Fr} (w : World) (r0 r1 r2 r3 r4 r5 r6 r7 r8 : Int) (hp : PhM w B F S) : RunW w (((w.alloc (.cells #[.int .u32 r0, .int .u32 r1, .int .u32 r2, .int .u32 r3, .int .u32 r4, .int .u32 r5, .int .u32 r6, .int .u32 r7, .int .u32 r8] 26)).alloc (.cells #[.int .u32 0, .int .u32 0, .int .u32 0, .int .u32 0, .int .u32 0, .int .u32 0, .int .u32 0, .int .u32 0, .int .u32 0] 26)).alloc (.cells #[.int .i64 0, .int .u32 0, .int .u32 0, .int .u32 0, .int .u32 0, .int .u32 0, .int .u32 0, .int .i64 0] 34)) B F w.heap.size (w.heap.size + 1) (w.heap.size + 1 + 1) S r0 r1 r2 r3 r4 r5 r6 r7 r8 := by
  refine ⟨by repeat (first | exact Mod.refl _ _ | apply Mod.alloc), ((hp.alloc _).alloc _).alloc _, blk_alloc (blk_alloc (heap_alloc_new w _) _) _, ?_, ?_, Nat.le_refl _, by omega, by omega, hp.ltF, hp.ltB⟩
  · have := blk_alloc (heap_alloc_new (w.alloc (.cells #[.int .u32 r0, .int .u32 r1, .int .u32 r2, .int .u32 r3, .int .u32 r4, .int .u32 r5, .int .u32 r6, .int .u32 r7, .int .u32 r8] 26)) (.cells #[.int .u32 0, .int .u32 0, .int .u32 0, .int .u32 0, .int .u32 0, .int .u32 0, .int .u32 0, .int .u32 0, .int .u32 0] 26)) (.cells #[.int .i64 0, .int .u32 0, .int .u32 0, .int .u32 0, .int .u32 0, .int .u32 0, .int .u32 0, .int .i64 0] 34)
    rwa [World.size_alloc] at this
  · have := heap_alloc_new ((w.alloc (.cells #[.int .u32 r0, .int .u32 r1, .int .u32 r2, .int .u32 r3, .int .u32 r4, .int .u32 r5, .int .u32 r6, .int .u32 r7, .int .u32 r8] 26)).alloc (.cells #[.int .u32 0, .int .u32 0, .int .u32 0, .int .u32 0, .int .u32 0, .int .u32 0, .int .u32 0, .int .u32 0, .int .u32 0] 26)) (.cells #[.int .i64 0, .int .u32 0, .int .u32 0, .int .u32 0, .int .u32 0, .int .u32 0, .int .u32 0, .int .i64 0] 34)
    rwa [World.size_alloc, World.size_alloc] at this
/-- A step behind which its answers are laid. -/
structure RunT (w w3 : World) (B F b6 b8 b10 b12 b13 : Nat) (S : List Fr) (r0 r1 r2 r3 r4 r5 r6 r7 r8 q0 q1 q2 q3 q4 q5 q6 q7 q8 sk sc s1 s2 s3 s4 s5 sy : Int) : Prop where
  r : RunW w w3 B F b6 b8 b10 S r0 r1 r2 r3 r4 r5 r6 r7 r8
  h12 : w3.heap[b12]? = some (.cells ([.int .u32 q0, .int .u32 q1, .int .u32 q2, .int .u32 q3, .int .u32 q4, .int .u32 q5, .int .u32 q6, .int .u32 q7, .int .u32 q8] : List Value).toArray 26 (0, 0))
  h13 : w3.heap[b13]? = some (.cells ([.int .i64 sk, .int .u32 sc, .int .u32 s1, .int .u32 s2, .int .u32 s3, .int .u32 s4, .int .u32 s5, .int .i64 sy] : List Value).toArray 34 (0, 0))
  l12 : b10 < b12
  l13 : b12 < b13
theorem RunW.next {w wr w2 : World} {B F b6 b8 b10 : Nat} {S S' : List Fr} {r0 r1 r2 r3 r4 r5 r6 r7 r8 : Int} (h : RunW w wr B F b6 b8 b10 S r0 r1 r2 r3 r4 r5 r6 r7 r8) (hm : Mod (One F) wr w2) (hp : PhM w2 B F S') (q0 q1 q2 q3 q4 q5 q6 q7 q8 sk sc s1 s2 s3 s4 s5 sy : Int) :
    RunT w ((w2.alloc (.cells #[.int .u32 q0, .int .u32 q1, .int .u32 q2, .int .u32 q3, .int .u32 q4, .int .u32 q5, .int .u32 q6, .int .u32 q7, .int .u32 q8] 26)).alloc (.cells #[.int .i64 sk, .int .u32 sc, .int .u32 s1, .int .u32 s2, .int .u32 s3, .int .u32 s4, .int .u32 s5, .int .i64 sy] 34)) B F b6 b8 b10 w2.heap.size (w2.heap.size + 1) S' r0 r1 r2 r3 r4 r5 r6 r7 r8 q0 q1 q2 q3 q4 q5 q6 q7 q8 sk sc s1 s2 s3 s4 s5 sy := by
  have hs := hm.size
  have n6 : b6 ≠ F := fun q => by have := h.lF; have := h.l6; omega
  have n8 : b8 ≠ F := fun q => by have := h.lF; have := h.l6; have := h.l8; omega
  have n10 : b10 ≠ F := fun q => by have := h.lF; have := h.l6; have := h.l8; have := h.l10; omega
  refine ⟨⟨((h.m.trans hm).alloc _).alloc _, (hp.alloc _).alloc _, blk_alloc (blk_alloc (hm.blk h.h6 n6) _) _, blk_alloc (blk_alloc (hm.blk h.h8 n8) _) _, blk_alloc (blk_alloc (hm.blk h.h10 n10) _) _, h.l6, h.l8, h.l10, h.lF, h.lB⟩, blk_alloc (heap_alloc_new w2 _) _, ?_, ?_, by omega⟩
  · have := heap_alloc_new (w2.alloc (.cells #[.int .u32 q0, .int .u32 q1, .int .u32 q2, .int .u32 q3, .int .u32 q4, .int .u32 q5, .int .u32 q6, .int .u32 q7, .int .u32 q8] 26)) (.cells #[.int .i64 sk, .int .u32 sc, .int .u32 s1, .int .u32 s2, .int .u32 s3, .int .u32 s4, .int .u32 s5, .int .i64 sy] 34)
    rwa [World.size_alloc] at this
  · have := lt_of_blk h.h10
    omega
theorem mod_put9 {w : World} {b : Nat} (v0 v1 v2 v3 v4 v5 v6 v7 v8 : Value) : Mod (fun k => k = b) w (((((((((w.setCell ⟨b, 0, none⟩ (v0)).setCell ⟨b, 1, none⟩ (v1)).setCell ⟨b, 2, none⟩ (v2)).setCell ⟨b, 3, none⟩ (v3)).setCell ⟨b, 4, none⟩ (v4)).setCell ⟨b, 5, none⟩ (v5)).setCell ⟨b, 6, none⟩ (v6)).setCell ⟨b, 7, none⟩ (v7)).setCell ⟨b, 8, none⟩ (v8)) := (Mod.put (Mod.put (Mod.put (Mod.put (Mod.put (Mod.put (Mod.put (Mod.put (Mod.put (Mod.refl (fun k => k = b) w) (show b = b from rfl) 0 _) (show b = b from rfl) 1 _) (show b = b from rfl) 2 _) (show b = b from rfl) 3 _) (show b = b from rfl) 4 _) (show b = b from rfl) 5 _) (show b = b from rfl) 6 _) (show b = b from rfl) 7 _) (show b = b from rfl) 8 _)
theorem mod_put8 {w : World} {b : Nat} (v0 v1 v2 v3 v4 v5 v6 v7 : Value) : Mod (fun k => k = b) w ((((((((w.setCell ⟨b, 0, none⟩ (v0)).setCell ⟨b, 1, none⟩ (v1)).setCell ⟨b, 2, none⟩ (v2)).setCell ⟨b, 3, none⟩ (v3)).setCell ⟨b, 4, none⟩ (v4)).setCell ⟨b, 5, none⟩ (v5)).setCell ⟨b, 6, none⟩ (v6)).setCell ⟨b, 7, none⟩ (v7)) := (Mod.put (Mod.put (Mod.put (Mod.put (Mod.put (Mod.put (Mod.put (Mod.put (Mod.refl (fun k => k = b) w) (show b = b from rfl) 0 _) (show b = b from rfl) 1 _) (show b = b from rfl) 2 _) (show b = b from rfl) 3 _) (show b = b from rfl) 4 _) (show b = b from rfl) 5 _) (show b = b from rfl) 6 _) (show b = b from rfl) 7 _)
theorem RunT.on {w w3 w4 : World} {B F b6 b8 b10 b12 b13 : Nat} {S : List Fr} {r0 r1 r2 r3 r4 r5 r6 r7 r8 q0 q1 q2 q3 q4 q5 q6 q7 q8 sk sc s1 s2 s3 s4 s5 sy : Int} (h : RunT w w3 B F b6 b8 b10 b12 b13 S r0 r1 r2 r3 r4 r5 r6 r7 r8 q0 q1 q2 q3 q4 q5 q6 q7 q8 sk sc s1 s2 s3 s4 s5 sy) (hm : Mod (fun k => k = b6) w3 w4)
    (h6 : w4.heap[b6]? = some (.cells ([.int .u32 q0, .int .u32 q1, .int .u32 q2, .int .u32 q3, .int .u32 q4, .int .u32 q5, .int .u32 q6, .int .u32 q7, .int .u32 q8] : List Value).toArray 26 (0, 0))) : RunW w w4 B F b6 b8 b10 S q0 q1 q2 q3 q4 q5 q6 q7 q8 := by
  obtain ⟨⟨m, p, _, h8, h10, l6, l8, l10, lF, lB⟩, _, _, _, _⟩ := h
  exact ⟨m.step hm (fun i hi q => by omega), p.kept hm (fun q => by omega) (fun q => by omega), h6, hm.blk h8 (fun q => by omega), hm.blk h10 (fun q => by omega), l6, l8, l10, lF, lB⟩

def RunI (root : Int) (n : Nat) (o : Out × Nat) (j : Nat) (S : List Fr) (R : List Int) (pc : Int) : Prop :=
  o = ((runR root (n - j) S R pc).1, (runR root (n - j) S R pc).2 + j)
theorem RunI.stop {root : Int} {n j : Nat} {o : Out × Nat} {S : List Fr} {R : List Int} {pc : Int} (h : RunI root n o j S R pc) (hj : j < n) (hk : (stepR S root R pc).s.k ≠ 0) : o = (stepR S root R pc, j + 1) := by
  unfold RunI at h
  rw [h, show n - j = (n - j - 1) + 1 by omega, runR, if_pos hk, Nat.add_comm 1 j]
theorem RunI.next {root : Int} {n j : Nat} {o : Out × Nat} {S : List Fr} {R : List Int} {pc : Int} (h : RunI root n o j S R pc) (hj : j < n) (hk : (stepR S root R pc).s.k = 0) : RunI root n o (j + 1) (stepR S root R pc).S (stepR S root R pc).R (stepR S root R pc).pc := by
  unfold RunI at h ⊢
  rw [h, show n - j = (n - (j + 1)) + 1 by omega, runR, if_neg (fun q => q hk)]
  dsimp only
  rw [Nat.add_assoc, Nat.add_comm 1 j]
theorem RunI.stuck {root : Int} {n j : Nat} {o : Out × Nat} {S : List Fr} {R : List Int} {pc : Int} (h : RunI root n o j S R pc) (hj : j ≤ n) (hs : stepR S root R pc = ⟨R, pc, goesS, S⟩) : o = (⟨R, pc, goesS, S⟩, n) := by
  unfold RunI at h
  rw [h, runR_stuck hs, show n - j + j = n by omega]
theorem RunI.done {root : Int} {n : Nat} {o : Out × Nat} {S : List Fr} {R : List Int} {pc : Int} (h : RunI root n o n S R pc) : o = (⟨R, pc, goesS, S⟩, n) := by
  unfold RunI at h
  rw [h, Nat.sub_self, runR, Nat.zero_add]
theorem list8 {R : List Int} (h : R.length = 8) : ∃ q0 q1 q2 q3 q4 q5 q6 q7, R = [q0, q1, q2, q3, q4, q5, q6, q7] := by
  match R, h with
  | [q0, q1, q2, q3, q4, q5, q6, q7], _ => exact ⟨q0, q1, q2, q3, q4, q5, q6, q7, rfl⟩

set_option maxHeartbeats 8000000 in
theorem run_any {B F m : Nat} {S0 : List Fr} (root p0 p1 p2 p3 p4 p5 p6 p7 p8 N : Int) (w : World) (hm : PhM w B F S0) (hI : invS m S0) (h8 : regOk p8) (hreg : regsIn [p0, p1, p2, p3, p4, p5, p6, p7]) (hN : N ≤ 9223372036854775807) :
    Calls Tryd.prog 10 #[.pointer (some ⟨B, 0, none⟩), .int .i64 root, .agg #[.int .u32 p0, .int .u32 p1, .int .u32 p2, .int .u32 p3, .int .u32 p4, .int .u32 p5, .int .u32 p6, .int .u32 p7, .int .u32 p8], .int .i64 N] w (RunPost m S0.length B F (runR root N.toNat S0 [p0, p1, p2, p3, p4, p5, p6, p7] p8) w) := by
  generalize hout : runR root N.toNat S0 [p0, p1, p2, p3, p4, p5, p6, p7] p8 = out
  have hi0 : RunI root N.toNat out 0 S0 [p0, p1, p2, p3, p4, p5, p6, p7] p8 := by rw [RunI, ← hout]; rfl
  have HI0 := Lib.hid hi0
  have HS0 := Lib.hid hI
  have HR0 := Lib.hid hreg
  have HP0 := Lib.hid h8
  have HM := Lib.hid hm
  clear hm hI h8 hreg hi0 hout
  go_enter Tryd.func10, Tryd.ntmps10
  go_upto_region 1 with (fail)
  have hwb := runW_made w p0 p1 p2 p3 p4 p5 p6 p7 p8 HM.out
  generalize (((w.alloc (.cells #[.int .u32 p0, .int .u32 p1, .int .u32 p2, .int .u32 p3, .int .u32 p4, .int .u32 p5, .int .u32 p6, .int .u32 p7, .int .u32 p8] 26)).alloc (.cells #[.int .u32 0, .int .u32 0, .int .u32 0, .int .u32 0, .int .u32 0, .int .u32 0, .int .u32 0, .int .u32 0, .int .u32 0] 26)).alloc (.cells #[.int .i64 0, .int .u32 0, .int .u32 0, .int .u32 0, .int .u32 0, .int .u32 0, .int .u32 0, .int .i64 0] 34)) = w1 at hwb ⊢
  generalize w.heap.size + 1 + 1 = b10 at hwb ⊢
  generalize w.heap.size + 1 = b8 at hwb ⊢
  generalize w.heap.size = b6 at hwb ⊢
  have HW := Lib.hid hwb
  clear hwb
  go_wp2_with fail
  go_loopw [11] (fun v wr => ∃ j : Nat, v = .int .i64 j ∧ j ≤ N.toNat ∧ ∃ (S : List Fr) (r0 r1 r2 r3 r4 r5 r6 r7 r8 : Int), RunW w wr B F b6 b8 b10 S r0 r1 r2 r3 r4 r5 r6 r7 r8 ∧ RunI root N.toNat out j S [r0, r1, r2, r3, r4, r5, r6, r7] r8 ∧ (invS m S ∧ S.length = S0.length ∧ regsIn [r0, r1, r2, r3, r4, r5, r6, r7] ∧ regOk r8)) (fun v _ => N.toNat - (intOf v).toNat)
  case atStart => exact ⟨0, rfl, Nat.zero_le _, S0, p0, p1, p2, p3, p4, p5, p6, p7, p8, HW.out, HI0.out, HS0.out, rfl, HR0.out, HP0.out⟩
  case round =>
    clear HW HI0 HS0 HR0 HP0 HM
    obtain ⟨j, rfl, hj, S, r0, r1, r2, r3, r4, r5, r6, r7, r8, hw, hi, hI, hl, hR, hp⟩ := hrel
    by_cases hlt : (j : Int) < N
    · have dlt : decide ((j : Int) < N) = true := decide_eq_true hlt
      have hjn : j < N.toNat := by omega
      have hjw : (j : Int) + 1 ≤ 9223372036854775807 := by omega
      have HST : Hid (∀ w', Mod No wr w' → Calls Tryd.prog 6 #[.pointer (some ⟨B, 0, none⟩), .int .i64 root, .agg #[.int .u32 r0, .int .u32 r1, .int .u32 r2, .int .u32 r3, .int .u32 r4, .int .u32 r5, .int .u32 r6, .int .u32 r7, .int .u32 r8]] w' (StepPost B F (stepR S root [r0, r1, r2, r3, r4, r5, r6, r7] r8) w')) := fun w' hm' => step_any root r0 r1 r2 r3 r4 r5 r6 r7 r8 w' (hw.p.kept hm' (fun q => q) (fun q => q)) hp hR.2
      have hok := stepR_ok hw.p.ok hI hl root hR hp
      have hsame := stepR_same S root [r0, r1, r2, r3, r4, r5, r6, r7] r8
      have hstop := fun h => hi.stop hjn h
      have hnext := fun h => hi.next hjn h
      have hstuck := fun h => hi.stuck hj h
      clear hi hI hl hR hp hlt hj
      generalize stepR S root [r0, r1, r2, r3, r4, r5, r6, r7] r8 = d at HST hok hsame hstop hnext hstuck
      obtain ⟨R', pc', s', S'⟩ := d
      obtain ⟨⟨hokR, hokp, hokI, hokl⟩, hok0⟩ := hok
      dsimp only at hokR hokp hokI hokl hok0 HST hsame hstop hnext hstuck
      obtain ⟨q0, q1, q2, q3, q4, q5, q6, q7, rfl⟩ := list8 hokR.1
      obtain ⟨q8, rfl⟩ : ∃ q, q = pc' := ⟨_, rfl⟩
      obtain ⟨sk, sc, s1, s2, s3, s4, s5, sy⟩ := s'
      dsimp only at hok0 hsame hstop hnext hstuck
      have HSAME := Lib.hid hsame
      have HSTOP := Lib.hid hstop
      have HNEXT := Lib.hid hnext
      have HSTUCK := Lib.hid hstuck
      have HOK := Lib.hid (⟨hokR, hokp, hokI, hokl⟩ : _ ∧ _ ∧ _ ∧ _)
      have HOK0 := Lib.hid hok0
      have HW := Lib.hid hw
      have x0 := row_cell hw.h6 0
      have x1 := row_cell hw.h6 1
      have x2 := row_cell hw.h6 2
      have x3 := row_cell hw.h6 3
      have x4 := row_cell hw.h6 4
      have x5 := row_cell hw.h6 5
      have x6 := row_cell hw.h6 6
      have x7 := row_cell hw.h6 7
      have x8 := row_cell hw.h6 8
      simp only [List.getElem?_cons_zero, List.getElem?_cons_succ] at x0 x1 x2 x3 x4 x5 x6 x7 x8
      clear hsame hstop hnext hstuck hokR hokp hokI hokl hok0 hw
      go_upto_region 4 with (go_at_call 6; refine (HST.out _ (Mod.refl _ _)).mono ?_; rintro e w2 ⟨rfl, hm2, hp2⟩; dsimp only [cpuV, Stp.L, stopL, List.map_cons, List.map_nil, List.cons_append, List.nil_append]; have HM2 := Lib.hid hm2; have HP2 := Lib.hid hp2; clear hm2 hp2)
      have ht := HW.out.next HM2.out HP2.out q0 q1 q2 q3 q4 q5 q6 q7 q8 sk sc s1 s2 s3 s4 s5 sy
      generalize ((w2.alloc (.cells #[.int .u32 q0, .int .u32 q1, .int .u32 q2, .int .u32 q3, .int .u32 q4, .int .u32 q5, .int .u32 q6, .int .u32 q7, .int .u32 q8] 26)).alloc (.cells #[.int .i64 sk, .int .u32 sc, .int .u32 s1, .int .u32 s2, .int .u32 s3, .int .u32 s4, .int .u32 s5, .int .i64 sy] 34)) = w3 at ht ⊢
      generalize w2.heap.size + 1 = b13 at ht ⊢
      generalize w2.heap.size = b12 at ht ⊢
      have HT := Lib.hid ht
      clear ht x0 x1 x2 x3 x4 x5 x6 x7 x8 HST HM2 HP2 HW
      by_cases hk : sk = 0
      · have hs0 := HOK0.out hk
        simp only [goesS, Stp.mk.injEq] at hs0
        obtain ⟨rfl, rfl, rfl, rfl, rfl, rfl, rfl, rfl⟩ := hs0
        have he3 : ∀ w, (Op.equalIn 9999 31 (.agg #[.int .u32 0, .int .u32 0, .int .u32 0, .int .u32 0, .int .u32 0]) (.agg #[.int .u32 0, .int .u32 0, .int .u32 0, .int .u32 0, .int .u32 0])).run Tryd.prog w = .ok true w := fun w => eq5z 9997 w
        by_cases hR : [r0, r1, r2, r3, r4, r5, r6, r7] = [q0, q1, q2, q3, q4, q5, q6, q7]
        · simp only [List.cons.injEq, and_true] at hR
          obtain ⟨rfl, rfl, rfl, rfl, rfl, rfl, rfl, rfl⟩ := hR
          have n68 : b6 ≠ b8 := by have := HT.out.r.l8; have := HT.out.r.l10; have := HT.out.l12; have := HT.out.l13; omega
          have n610 : b6 ≠ b10 := by have := HT.out.r.l8; have := HT.out.r.l10; have := HT.out.l12; have := HT.out.l13; omega
          have n810 : b8 ≠ b10 := by have := HT.out.r.l8; have := HT.out.r.l10; have := HT.out.l12; have := HT.out.l13; omega
          have n612 : b6 ≠ b12 := by have := HT.out.r.l8; have := HT.out.r.l10; have := HT.out.l12; have := HT.out.l13; omega
          have n613 : b6 ≠ b13 := by have := HT.out.r.l8; have := HT.out.r.l10; have := HT.out.l12; have := HT.out.l13; omega
          have n812 : b8 ≠ b12 := by have := HT.out.r.l8; have := HT.out.r.l10; have := HT.out.l12; have := HT.out.l13; omega
          have n813 : b8 ≠ b13 := by have := HT.out.r.l8; have := HT.out.r.l10; have := HT.out.l12; have := HT.out.l13; omega
          have n1012 : b10 ≠ b12 := by have := HT.out.r.l8; have := HT.out.r.l10; have := HT.out.l12; have := HT.out.l13; omega
          have n1013 : b10 ≠ b13 := by have := HT.out.r.l8; have := HT.out.r.l10; have := HT.out.l12; have := HT.out.l13; omega
          have n1213 : b12 ≠ b13 := by have := HT.out.r.l8; have := HT.out.r.l10; have := HT.out.l12; have := HT.out.l13; omega
          have y0 := row_cell HT.out.r.h6 0
          have y1 := row_cell HT.out.r.h6 1
          have y2 := row_cell HT.out.r.h6 2
          have y3 := row_cell HT.out.r.h6 3
          have y4 := row_cell HT.out.r.h6 4
          have y5 := row_cell HT.out.r.h6 5
          have y6 := row_cell HT.out.r.h6 6
          have y7 := row_cell HT.out.r.h6 7
          have y8 := row_cell HT.out.r.h6 8
          have u0 := row_cell HT.out.r.h8 0
          have u1 := row_cell HT.out.r.h8 1
          have u2 := row_cell HT.out.r.h8 2
          have u3 := row_cell HT.out.r.h8 3
          have u4 := row_cell HT.out.r.h8 4
          have u5 := row_cell HT.out.r.h8 5
          have u6 := row_cell HT.out.r.h8 6
          have u7 := row_cell HT.out.r.h8 7
          have u8 := row_cell HT.out.r.h8 8
          have v0 := row_cell HT.out.r.h10 0
          have v1 := row_cell HT.out.r.h10 1
          have v2 := row_cell HT.out.r.h10 2
          have v3 := row_cell HT.out.r.h10 3
          have v4 := row_cell HT.out.r.h10 4
          have v5 := row_cell HT.out.r.h10 5
          have v6 := row_cell HT.out.r.h10 6
          have v7 := row_cell HT.out.r.h10 7
          have m0 := row_cell HT.out.h12 0
          have m1 := row_cell HT.out.h12 1
          have m2 := row_cell HT.out.h12 2
          have m3 := row_cell HT.out.h12 3
          have m4 := row_cell HT.out.h12 4
          have m5 := row_cell HT.out.h12 5
          have m6 := row_cell HT.out.h12 6
          have m7 := row_cell HT.out.h12 7
          have m8 := row_cell HT.out.h12 8
          have n0 := row_cell HT.out.h13 0
          have n1 := row_cell HT.out.h13 1
          have n2 := row_cell HT.out.h13 2
          have n3 := row_cell HT.out.h13 3
          have n4 := row_cell HT.out.h13 4
          have n5 := row_cell HT.out.h13 5
          have n6 := row_cell HT.out.h13 6
          have n7 := row_cell HT.out.h13 7
          simp only [List.getElem?_cons_zero, List.getElem?_cons_succ] at y0 y1 y2 y3 y4 y5 y6 y7 y8 u0 u1 u2 u3 u4 u5 u6 u7 u8 v0 v1 v2 v3 v4 v5 v6 v7 m0 m1 m2 m3 m4 m5 m6 m7 m8 n0 n1 n2 n3 n4 n5 n6 n7
          have fy0 : w3.frozen? ⟨b6, 0, none⟩ = false := row_free HT.out.r.h6 0
          have fy1 : w3.frozen? ⟨b6, 1, none⟩ = false := row_free HT.out.r.h6 1
          have fy2 : w3.frozen? ⟨b6, 2, none⟩ = false := row_free HT.out.r.h6 2
          have fy3 : w3.frozen? ⟨b6, 3, none⟩ = false := row_free HT.out.r.h6 3
          have fy4 : w3.frozen? ⟨b6, 4, none⟩ = false := row_free HT.out.r.h6 4
          have fy5 : w3.frozen? ⟨b6, 5, none⟩ = false := row_free HT.out.r.h6 5
          have fy6 : w3.frozen? ⟨b6, 6, none⟩ = false := row_free HT.out.r.h6 6
          have fy7 : w3.frozen? ⟨b6, 7, none⟩ = false := row_free HT.out.r.h6 7
          have fy8 : w3.frozen? ⟨b6, 8, none⟩ = false := row_free HT.out.r.h6 8
          have fu0 : w3.frozen? ⟨b8, 0, none⟩ = false := row_free HT.out.r.h8 0
          have fu1 : w3.frozen? ⟨b8, 1, none⟩ = false := row_free HT.out.r.h8 1
          have fu2 : w3.frozen? ⟨b8, 2, none⟩ = false := row_free HT.out.r.h8 2
          have fu3 : w3.frozen? ⟨b8, 3, none⟩ = false := row_free HT.out.r.h8 3
          have fu4 : w3.frozen? ⟨b8, 4, none⟩ = false := row_free HT.out.r.h8 4
          have fu5 : w3.frozen? ⟨b8, 5, none⟩ = false := row_free HT.out.r.h8 5
          have fu6 : w3.frozen? ⟨b8, 6, none⟩ = false := row_free HT.out.r.h8 6
          have fu7 : w3.frozen? ⟨b8, 7, none⟩ = false := row_free HT.out.r.h8 7
          have fu8 : w3.frozen? ⟨b8, 8, none⟩ = false := row_free HT.out.r.h8 8
          have fv0 : w3.frozen? ⟨b10, 0, none⟩ = false := row_free HT.out.r.h10 0
          have fv1 : w3.frozen? ⟨b10, 1, none⟩ = false := row_free HT.out.r.h10 1
          have fv2 : w3.frozen? ⟨b10, 2, none⟩ = false := row_free HT.out.r.h10 2
          have fv3 : w3.frozen? ⟨b10, 3, none⟩ = false := row_free HT.out.r.h10 3
          have fv4 : w3.frozen? ⟨b10, 4, none⟩ = false := row_free HT.out.r.h10 4
          have fv5 : w3.frozen? ⟨b10, 5, none⟩ = false := row_free HT.out.r.h10 5
          have fv6 : w3.frozen? ⟨b10, 6, none⟩ = false := row_free HT.out.r.h10 6
          have fv7 : w3.frozen? ⟨b10, 7, none⟩ = false := row_free HT.out.r.h10 7
          have p6 : b6 < w3.heap.size := lt_of_blk HT.out.r.h6
          have p8 : b8 < w3.heap.size := lt_of_blk HT.out.r.h8
          have p10 : b10 < w3.heap.size := lt_of_blk HT.out.r.h10
          have he1 : ∀ w, (Op.equalIn 10000 24 (.agg #[.int .u32 r0, .int .u32 r1, .int .u32 r2, .int .u32 r3, .int .u32 r4, .int .u32 r5, .int .u32 r6, .int .u32 r7]) (.agg #[.int .u32 r0, .int .u32 r1, .int .u32 r2, .int .u32 r3, .int .u32 r4, .int .u32 r5, .int .u32 r6, .int .u32 r7])).run Tryd.prog w = .ok true w := fun w => (eq8b 9998 r0 r1 r2 r3 r4 r5 r6 r7 r0 r1 r2 r3 r4 r5 r6 r7 w).trans (by rw [decide_eq_true rfl])
          by_cases hp8 : r8 = q8
          · subst hp8
            have d2 : (r8 == r8) = true := beq_self_eq_true _
            go_upto_region 6 with (fail)
            clear he1 he3 d2 m0 m1 m2 m3 m4 m5 m6 m7 m8 fy0 fy1 fy2 fy3 fy4 fy5 fy6 fy7 fy8
            go_region
            have hE1 : ((((((((((((((((((w3.setCell ⟨b8, 0, none⟩ (.int .u32 r0)).setCell ⟨b8, 1, none⟩ (.int .u32 r1)).setCell ⟨b8, 2, none⟩ (.int .u32 r2)).setCell ⟨b8, 3, none⟩ (.int .u32 r3)).setCell ⟨b8, 4, none⟩ (.int .u32 r4)).setCell ⟨b8, 5, none⟩ (.int .u32 r5)).setCell ⟨b8, 6, none⟩ (.int .u32 r6)).setCell ⟨b8, 7, none⟩ (.int .u32 r7)).setCell ⟨b8, 8, none⟩ (.int .u32 r8)).setCell ⟨b10, 0, none⟩ (.int .i64 0)).setCell ⟨b10, 1, none⟩ (.int .u32 0)).setCell ⟨b10, 2, none⟩ (.int .u32 0)).setCell ⟨b10, 3, none⟩ (.int .u32 0)).setCell ⟨b10, 4, none⟩ (.int .u32 0)).setCell ⟨b10, 5, none⟩ (.int .u32 0)).setCell ⟨b10, 6, none⟩ (.int .u32 0)).setCell ⟨b10, 7, none⟩ (.int .i64 0)).drew).heap[b8]? = some (.cells ([.int .u32 r0, .int .u32 r1, .int .u32 r2, .int .u32 r3, .int .u32 r4, .int .u32 r5, .int .u32 r6, .int .u32 r7, .int .u32 r8] : List Value).toArray 26 (0, 0)) := by
              have h := set9 HT.out.r.h8 rfl (.int .u32 r0) (.int .u32 r1) (.int .u32 r2) (.int .u32 r3) (.int .u32 r4) (.int .u32 r5) (.int .u32 r6) (.int .u32 r7) (.int .u32 r8)
              exact blk_drew (blk_setCell (blk_setCell (blk_setCell (blk_setCell (blk_setCell (blk_setCell (blk_setCell (blk_setCell h n810 _) n810 _) n810 _) n810 _) n810 _) n810 _) n810 _) n810 _)
            have hE2 : ((((((((((((((((((w3.setCell ⟨b8, 0, none⟩ (.int .u32 r0)).setCell ⟨b8, 1, none⟩ (.int .u32 r1)).setCell ⟨b8, 2, none⟩ (.int .u32 r2)).setCell ⟨b8, 3, none⟩ (.int .u32 r3)).setCell ⟨b8, 4, none⟩ (.int .u32 r4)).setCell ⟨b8, 5, none⟩ (.int .u32 r5)).setCell ⟨b8, 6, none⟩ (.int .u32 r6)).setCell ⟨b8, 7, none⟩ (.int .u32 r7)).setCell ⟨b8, 8, none⟩ (.int .u32 r8)).setCell ⟨b10, 0, none⟩ (.int .i64 0)).setCell ⟨b10, 1, none⟩ (.int .u32 0)).setCell ⟨b10, 2, none⟩ (.int .u32 0)).setCell ⟨b10, 3, none⟩ (.int .u32 0)).setCell ⟨b10, 4, none⟩ (.int .u32 0)).setCell ⟨b10, 5, none⟩ (.int .u32 0)).setCell ⟨b10, 6, none⟩ (.int .u32 0)).setCell ⟨b10, 7, none⟩ (.int .i64 0)).drew).heap[b10]? = some (.cells ([.int .i64 0, .int .u32 0, .int .u32 0, .int .u32 0, .int .u32 0, .int .u32 0, .int .u32 0, .int .i64 0] : List Value).toArray 34 (0, 0)) := by
              refine blk_drew (set8 (w := (((((((((w3.setCell ⟨b8, 0, none⟩ (.int .u32 r0)).setCell ⟨b8, 1, none⟩ (.int .u32 r1)).setCell ⟨b8, 2, none⟩ (.int .u32 r2)).setCell ⟨b8, 3, none⟩ (.int .u32 r3)).setCell ⟨b8, 4, none⟩ (.int .u32 r4)).setCell ⟨b8, 5, none⟩ (.int .u32 r5)).setCell ⟨b8, 6, none⟩ (.int .u32 r6)).setCell ⟨b8, 7, none⟩ (.int .u32 r7)).setCell ⟨b8, 8, none⟩ (.int .u32 r8))) (L := [.int .i64 0, .int .u32 0, .int .u32 0, .int .u32 0, .int .u32 0, .int .u32 0, .int .u32 0, .int .i64 0]) ?_ rfl (.int .i64 0) (.int .u32 0) (.int .u32 0) (.int .u32 0) (.int .u32 0) (.int .u32 0) (.int .u32 0) (.int .i64 0))
              exact (blk_setCell (blk_setCell (blk_setCell (blk_setCell (blk_setCell (blk_setCell (blk_setCell (blk_setCell (blk_setCell HT.out.r.h10 n810.symm _) n810.symm _) n810.symm _) n810.symm _) n810.symm _) n810.symm _) n810.symm _) n810.symm _) n810.symm _)
            have hend : Mod (fun k => k = b8 ∨ k = b10) w3 ((((((((((((((((((w3.setCell ⟨b8, 0, none⟩ (.int .u32 r0)).setCell ⟨b8, 1, none⟩ (.int .u32 r1)).setCell ⟨b8, 2, none⟩ (.int .u32 r2)).setCell ⟨b8, 3, none⟩ (.int .u32 r3)).setCell ⟨b8, 4, none⟩ (.int .u32 r4)).setCell ⟨b8, 5, none⟩ (.int .u32 r5)).setCell ⟨b8, 6, none⟩ (.int .u32 r6)).setCell ⟨b8, 7, none⟩ (.int .u32 r7)).setCell ⟨b8, 8, none⟩ (.int .u32 r8)).setCell ⟨b10, 0, none⟩ (.int .i64 0)).setCell ⟨b10, 1, none⟩ (.int .u32 0)).setCell ⟨b10, 2, none⟩ (.int .u32 0)).setCell ⟨b10, 3, none⟩ (.int .u32 0)).setCell ⟨b10, 4, none⟩ (.int .u32 0)).setCell ⟨b10, 5, none⟩ (.int .u32 0)).setCell ⟨b10, 6, none⟩ (.int .u32 0)).setCell ⟨b10, 7, none⟩ (.int .i64 0)).drew) := (((mod_put9 (.int .u32 r0) (.int .u32 r1) (.int .u32 r2) (.int .u32 r3) (.int .u32 r4) (.int .u32 r5) (.int .u32 r6) (.int .u32 r7) (.int .u32 r8)).mono (fun _ _ q => .inl q)).trans ((mod_put8 (.int .i64 0) (.int .u32 0) (.int .u32 0) (.int .u32 0) (.int .u32 0) (.int .u32 0) (.int .u32 0) (.int .i64 0)).mono (fun _ _ q => .inr q))).drew
            generalize (((((((((((((((((w3.setCell ⟨b8, 0, none⟩ (.int .u32 r0)).setCell ⟨b8, 1, none⟩ (.int .u32 r1)).setCell ⟨b8, 2, none⟩ (.int .u32 r2)).setCell ⟨b8, 3, none⟩ (.int .u32 r3)).setCell ⟨b8, 4, none⟩ (.int .u32 r4)).setCell ⟨b8, 5, none⟩ (.int .u32 r5)).setCell ⟨b8, 6, none⟩ (.int .u32 r6)).setCell ⟨b8, 7, none⟩ (.int .u32 r7)).setCell ⟨b8, 8, none⟩ (.int .u32 r8)).setCell ⟨b10, 0, none⟩ (.int .i64 0)).setCell ⟨b10, 1, none⟩ (.int .u32 0)).setCell ⟨b10, 2, none⟩ (.int .u32 0)).setCell ⟨b10, 3, none⟩ (.int .u32 0)).setCell ⟨b10, 4, none⟩ (.int .u32 0)).setCell ⟨b10, 5, none⟩ (.int .u32 0)).setCell ⟨b10, 6, none⟩ (.int .u32 0)).setCell ⟨b10, 7, none⟩ (.int .i64 0)).drew = wE at hE1 hE2 hend ⊢
            have e0 := row_cell hE1 0
            have e1 := row_cell hE1 1
            have e2 := row_cell hE1 2
            have e3 := row_cell hE1 3
            have e4 := row_cell hE1 4
            have e5 := row_cell hE1 5
            have e6 := row_cell hE1 6
            have e7 := row_cell hE1 7
            have e8 := row_cell hE1 8
            have g0 := row_cell hE2 0
            have g1 := row_cell hE2 1
            have g2 := row_cell hE2 2
            have g3 := row_cell hE2 3
            have g4 := row_cell hE2 4
            have g5 := row_cell hE2 5
            have g6 := row_cell hE2 6
            have g7 := row_cell hE2 7
            simp only [List.getElem?_cons_zero, List.getElem?_cons_succ] at e0 e1 e2 e3 e4 e5 e6 e7 e8 g0 g1 g2 g3 g4 g5 g6 g7
            go_wp2
            refine bodyPost_ret (v := .tuple #[.agg #[.int .u32 r0, .int .u32 r1, .int .u32 r2, .int .u32 r3, .int .u32 r4, .int .u32 r5, .int .u32 r6, .int .u32 r7, .int .u32 r8], .int .i64 N, .agg #[.int .i64 0, .int .u32 0, .int .u32 0, .int .u32 0, .int .u32 0, .int .u32 0, .int .u32 0, .int .i64 0]]) (by simp [results, Tryd.results10, go_sem, e0, e1, e2, e3, e4, e5, e6, e7, e8, g0, g1, g2, g3, g4, g5, g6, g7]) rfl ?_
            have hmE : Mod (One F) w wE := HT.out.r.m.step hend (fun i hi q => by have := HT.out.r.l6; have := HT.out.r.l8; have := HT.out.r.l10; rcases q with q | q <;> omega)
            have hpE : PhM wE B F _ := HT.out.r.p.kept hend (fun q => by have := HT.out.r.lB; have := HT.out.r.l6; have := HT.out.r.l8; have := HT.out.r.l10; rcases q with q | q <;> omega) (fun q => by have := HT.out.r.lF; have := HT.out.r.l6; have := HT.out.r.l8; have := HT.out.r.l10; rcases q with q | q <;> omega)
            have hSS := HSAME.out rfl rfl
            dsimp only at hSS
            subst hSS
            have ho := HSTUCK.out rfl
            subst ho
            exact ⟨by rw [show (N.toNat : Int) = N by omega]; rfl, hmE, hpE, ⟨⟨HOK.out.1, HOK.out.2.1, HOK.out.2.2.1, HOK.out.2.2.2⟩, fun _ => rfl⟩⟩
          · have d2 : (q8 == r8) = false := beq_eq_false_iff_ne.2 (fun h => hp8 h.symm)
            go_upto_region 8 with (fail)
            have hmm : Mod (fun k => k = b6) w3 (((((((((w3.setCell ⟨b6, 0, none⟩ (.int .u32 r0)).setCell ⟨b6, 1, none⟩ (.int .u32 r1)).setCell ⟨b6, 2, none⟩ (.int .u32 r2)).setCell ⟨b6, 3, none⟩ (.int .u32 r3)).setCell ⟨b6, 4, none⟩ (.int .u32 r4)).setCell ⟨b6, 5, none⟩ (.int .u32 r5)).setCell ⟨b6, 6, none⟩ (.int .u32 r6)).setCell ⟨b6, 7, none⟩ (.int .u32 r7)).setCell ⟨b6, 8, none⟩ (.int .u32 q8)) := mod_put9 (.int .u32 r0) (.int .u32 r1) (.int .u32 r2) (.int .u32 r3) (.int .u32 r4) (.int .u32 r5) (.int .u32 r6) (.int .u32 r7) (.int .u32 q8)
            have hw4 := HT.out.on hmm (set9 HT.out.r.h6 rfl (.int .u32 r0) (.int .u32 r1) (.int .u32 r2) (.int .u32 r3) (.int .u32 r4) (.int .u32 r5) (.int .u32 r6) (.int .u32 r7) (.int .u32 q8))
            have h134 := hmm.blk HT.out.h13 (by have := HT.out.l13; have := HT.out.l12; have := HT.out.r.l10; have := HT.out.r.l8; omega)
            generalize (((((((((w3.setCell ⟨b6, 0, none⟩ (.int .u32 r0)).setCell ⟨b6, 1, none⟩ (.int .u32 r1)).setCell ⟨b6, 2, none⟩ (.int .u32 r2)).setCell ⟨b6, 3, none⟩ (.int .u32 r3)).setCell ⟨b6, 4, none⟩ (.int .u32 r4)).setCell ⟨b6, 5, none⟩ (.int .u32 r5)).setCell ⟨b6, 6, none⟩ (.int .u32 r6)).setCell ⟨b6, 7, none⟩ (.int .u32 r7)).setCell ⟨b6, 8, none⟩ (.int .u32 q8)) = w4 at hw4 h134 hmm ⊢
            have HW4 := Lib.hid hw4
            clear y0 y1 y2 y3 y4 y5 y6 y7 y8 u0 u1 u2 u3 u4 u5 u6 u7 u8 v0 v1 v2 v3 v4 v5 v6 v7 m0 m1 m2 m3 m4 m5 m6 m7 m8 n0 n1 n2 n3 n4 n5 n6 n7 fy0 fy1 fy2 fy3 fy4 fy5 fy6 fy7 fy8 fu0 fu1 fu2 fu3 fu4 fu5 fu6 fu7 fu8 fv0 fv1 fv2 fv3 fv4 fv5 fv6 fv7 hw4 hmm p6 p8 p10 HT
            have n0 := row_cell h134 0
            have n1 := row_cell h134 1
            have n2 := row_cell h134 2
            have n3 := row_cell h134 3
            have n4 := row_cell h134 4
            have n5 := row_cell h134 5
            have n6 := row_cell h134 6
            have n7 := row_cell h134 7
            simp only [List.getElem?_cons_zero, List.getElem?_cons_succ] at n0 n1 n2 n3 n4 n5 n6 n7
            clear h134
            go_wp2_with fail
            go_roundw
            case rel => exact ⟨j + 1, by go_num, by omega, _, r0, r1, r2, r3, r4, r5, r6, r7, q8, HW4.out, HNEXT.out rfl, HOK.out.2.2.1, HOK.out.2.2.2, HOK.out.1, HOK.out.2.1⟩
            case measure => simp [intOf]; omega
        · have n68 : b6 ≠ b8 := by have := HT.out.r.l8; have := HT.out.r.l10; have := HT.out.l12; have := HT.out.l13; omega
          have n610 : b6 ≠ b10 := by have := HT.out.r.l8; have := HT.out.r.l10; have := HT.out.l12; have := HT.out.l13; omega
          have n810 : b8 ≠ b10 := by have := HT.out.r.l8; have := HT.out.r.l10; have := HT.out.l12; have := HT.out.l13; omega
          have n612 : b6 ≠ b12 := by have := HT.out.r.l8; have := HT.out.r.l10; have := HT.out.l12; have := HT.out.l13; omega
          have n613 : b6 ≠ b13 := by have := HT.out.r.l8; have := HT.out.r.l10; have := HT.out.l12; have := HT.out.l13; omega
          have n812 : b8 ≠ b12 := by have := HT.out.r.l8; have := HT.out.r.l10; have := HT.out.l12; have := HT.out.l13; omega
          have n813 : b8 ≠ b13 := by have := HT.out.r.l8; have := HT.out.r.l10; have := HT.out.l12; have := HT.out.l13; omega
          have n1012 : b10 ≠ b12 := by have := HT.out.r.l8; have := HT.out.r.l10; have := HT.out.l12; have := HT.out.l13; omega
          have n1013 : b10 ≠ b13 := by have := HT.out.r.l8; have := HT.out.r.l10; have := HT.out.l12; have := HT.out.l13; omega
          have n1213 : b12 ≠ b13 := by have := HT.out.r.l8; have := HT.out.r.l10; have := HT.out.l12; have := HT.out.l13; omega
          have y0 := row_cell HT.out.r.h6 0
          have y1 := row_cell HT.out.r.h6 1
          have y2 := row_cell HT.out.r.h6 2
          have y3 := row_cell HT.out.r.h6 3
          have y4 := row_cell HT.out.r.h6 4
          have y5 := row_cell HT.out.r.h6 5
          have y6 := row_cell HT.out.r.h6 6
          have y7 := row_cell HT.out.r.h6 7
          have y8 := row_cell HT.out.r.h6 8
          have u0 := row_cell HT.out.r.h8 0
          have u1 := row_cell HT.out.r.h8 1
          have u2 := row_cell HT.out.r.h8 2
          have u3 := row_cell HT.out.r.h8 3
          have u4 := row_cell HT.out.r.h8 4
          have u5 := row_cell HT.out.r.h8 5
          have u6 := row_cell HT.out.r.h8 6
          have u7 := row_cell HT.out.r.h8 7
          have u8 := row_cell HT.out.r.h8 8
          have v0 := row_cell HT.out.r.h10 0
          have v1 := row_cell HT.out.r.h10 1
          have v2 := row_cell HT.out.r.h10 2
          have v3 := row_cell HT.out.r.h10 3
          have v4 := row_cell HT.out.r.h10 4
          have v5 := row_cell HT.out.r.h10 5
          have v6 := row_cell HT.out.r.h10 6
          have v7 := row_cell HT.out.r.h10 7
          have m0 := row_cell HT.out.h12 0
          have m1 := row_cell HT.out.h12 1
          have m2 := row_cell HT.out.h12 2
          have m3 := row_cell HT.out.h12 3
          have m4 := row_cell HT.out.h12 4
          have m5 := row_cell HT.out.h12 5
          have m6 := row_cell HT.out.h12 6
          have m7 := row_cell HT.out.h12 7
          have m8 := row_cell HT.out.h12 8
          have n0 := row_cell HT.out.h13 0
          have n1 := row_cell HT.out.h13 1
          have n2 := row_cell HT.out.h13 2
          have n3 := row_cell HT.out.h13 3
          have n4 := row_cell HT.out.h13 4
          have n5 := row_cell HT.out.h13 5
          have n6 := row_cell HT.out.h13 6
          have n7 := row_cell HT.out.h13 7
          simp only [List.getElem?_cons_zero, List.getElem?_cons_succ] at y0 y1 y2 y3 y4 y5 y6 y7 y8 u0 u1 u2 u3 u4 u5 u6 u7 u8 v0 v1 v2 v3 v4 v5 v6 v7 m0 m1 m2 m3 m4 m5 m6 m7 m8 n0 n1 n2 n3 n4 n5 n6 n7
          have fy0 : w3.frozen? ⟨b6, 0, none⟩ = false := row_free HT.out.r.h6 0
          have fy1 : w3.frozen? ⟨b6, 1, none⟩ = false := row_free HT.out.r.h6 1
          have fy2 : w3.frozen? ⟨b6, 2, none⟩ = false := row_free HT.out.r.h6 2
          have fy3 : w3.frozen? ⟨b6, 3, none⟩ = false := row_free HT.out.r.h6 3
          have fy4 : w3.frozen? ⟨b6, 4, none⟩ = false := row_free HT.out.r.h6 4
          have fy5 : w3.frozen? ⟨b6, 5, none⟩ = false := row_free HT.out.r.h6 5
          have fy6 : w3.frozen? ⟨b6, 6, none⟩ = false := row_free HT.out.r.h6 6
          have fy7 : w3.frozen? ⟨b6, 7, none⟩ = false := row_free HT.out.r.h6 7
          have fy8 : w3.frozen? ⟨b6, 8, none⟩ = false := row_free HT.out.r.h6 8
          have fu0 : w3.frozen? ⟨b8, 0, none⟩ = false := row_free HT.out.r.h8 0
          have fu1 : w3.frozen? ⟨b8, 1, none⟩ = false := row_free HT.out.r.h8 1
          have fu2 : w3.frozen? ⟨b8, 2, none⟩ = false := row_free HT.out.r.h8 2
          have fu3 : w3.frozen? ⟨b8, 3, none⟩ = false := row_free HT.out.r.h8 3
          have fu4 : w3.frozen? ⟨b8, 4, none⟩ = false := row_free HT.out.r.h8 4
          have fu5 : w3.frozen? ⟨b8, 5, none⟩ = false := row_free HT.out.r.h8 5
          have fu6 : w3.frozen? ⟨b8, 6, none⟩ = false := row_free HT.out.r.h8 6
          have fu7 : w3.frozen? ⟨b8, 7, none⟩ = false := row_free HT.out.r.h8 7
          have fu8 : w3.frozen? ⟨b8, 8, none⟩ = false := row_free HT.out.r.h8 8
          have fv0 : w3.frozen? ⟨b10, 0, none⟩ = false := row_free HT.out.r.h10 0
          have fv1 : w3.frozen? ⟨b10, 1, none⟩ = false := row_free HT.out.r.h10 1
          have fv2 : w3.frozen? ⟨b10, 2, none⟩ = false := row_free HT.out.r.h10 2
          have fv3 : w3.frozen? ⟨b10, 3, none⟩ = false := row_free HT.out.r.h10 3
          have fv4 : w3.frozen? ⟨b10, 4, none⟩ = false := row_free HT.out.r.h10 4
          have fv5 : w3.frozen? ⟨b10, 5, none⟩ = false := row_free HT.out.r.h10 5
          have fv6 : w3.frozen? ⟨b10, 6, none⟩ = false := row_free HT.out.r.h10 6
          have fv7 : w3.frozen? ⟨b10, 7, none⟩ = false := row_free HT.out.r.h10 7
          have p6 : b6 < w3.heap.size := lt_of_blk HT.out.r.h6
          have p8 : b8 < w3.heap.size := lt_of_blk HT.out.r.h8
          have p10 : b10 < w3.heap.size := lt_of_blk HT.out.r.h10
          have he1 : ∀ w, (Op.equalIn 10000 24 (.agg #[.int .u32 q0, .int .u32 q1, .int .u32 q2, .int .u32 q3, .int .u32 q4, .int .u32 q5, .int .u32 q6, .int .u32 q7]) (.agg #[.int .u32 r0, .int .u32 r1, .int .u32 r2, .int .u32 r3, .int .u32 r4, .int .u32 r5, .int .u32 r6, .int .u32 r7])).run Tryd.prog w = .ok false w := fun w => (eq8b 9998 q0 q1 q2 q3 q4 q5 q6 q7 r0 r1 r2 r3 r4 r5 r6 r7 w).trans (by rw [decide_eq_false (fun h => hR h.symm)])
          go_upto_region 8 with (fail)
          have hmm : Mod (fun k => k = b6) w3 (((((((((w3.setCell ⟨b6, 0, none⟩ (.int .u32 q0)).setCell ⟨b6, 1, none⟩ (.int .u32 q1)).setCell ⟨b6, 2, none⟩ (.int .u32 q2)).setCell ⟨b6, 3, none⟩ (.int .u32 q3)).setCell ⟨b6, 4, none⟩ (.int .u32 q4)).setCell ⟨b6, 5, none⟩ (.int .u32 q5)).setCell ⟨b6, 6, none⟩ (.int .u32 q6)).setCell ⟨b6, 7, none⟩ (.int .u32 q7)).setCell ⟨b6, 8, none⟩ (.int .u32 q8)) := mod_put9 (.int .u32 q0) (.int .u32 q1) (.int .u32 q2) (.int .u32 q3) (.int .u32 q4) (.int .u32 q5) (.int .u32 q6) (.int .u32 q7) (.int .u32 q8)
          have hw4 := HT.out.on hmm (set9 HT.out.r.h6 rfl (.int .u32 q0) (.int .u32 q1) (.int .u32 q2) (.int .u32 q3) (.int .u32 q4) (.int .u32 q5) (.int .u32 q6) (.int .u32 q7) (.int .u32 q8))
          have h134 := hmm.blk HT.out.h13 (by have := HT.out.l13; have := HT.out.l12; have := HT.out.r.l10; have := HT.out.r.l8; omega)
          generalize (((((((((w3.setCell ⟨b6, 0, none⟩ (.int .u32 q0)).setCell ⟨b6, 1, none⟩ (.int .u32 q1)).setCell ⟨b6, 2, none⟩ (.int .u32 q2)).setCell ⟨b6, 3, none⟩ (.int .u32 q3)).setCell ⟨b6, 4, none⟩ (.int .u32 q4)).setCell ⟨b6, 5, none⟩ (.int .u32 q5)).setCell ⟨b6, 6, none⟩ (.int .u32 q6)).setCell ⟨b6, 7, none⟩ (.int .u32 q7)).setCell ⟨b6, 8, none⟩ (.int .u32 q8)) = w4 at hw4 h134 hmm ⊢
          have HW4 := Lib.hid hw4
          clear y0 y1 y2 y3 y4 y5 y6 y7 y8 u0 u1 u2 u3 u4 u5 u6 u7 u8 v0 v1 v2 v3 v4 v5 v6 v7 m0 m1 m2 m3 m4 m5 m6 m7 m8 n0 n1 n2 n3 n4 n5 n6 n7 fy0 fy1 fy2 fy3 fy4 fy5 fy6 fy7 fy8 fu0 fu1 fu2 fu3 fu4 fu5 fu6 fu7 fu8 fv0 fv1 fv2 fv3 fv4 fv5 fv6 fv7 hw4 hmm p6 p8 p10 HT
          have n0 := row_cell h134 0
          have n1 := row_cell h134 1
          have n2 := row_cell h134 2
          have n3 := row_cell h134 3
          have n4 := row_cell h134 4
          have n5 := row_cell h134 5
          have n6 := row_cell h134 6
          have n7 := row_cell h134 7
          simp only [List.getElem?_cons_zero, List.getElem?_cons_succ] at n0 n1 n2 n3 n4 n5 n6 n7
          clear h134
          go_wp2_with fail
          go_roundw
          case rel => exact ⟨j + 1, by go_num, by omega, _, q0, q1, q2, q3, q4, q5, q6, q7, q8, HW4.out, HNEXT.out rfl, HOK.out.2.2.1, HOK.out.2.2.2, HOK.out.1, HOK.out.2.1⟩
          case measure => simp [intOf]; omega
      · have dk : (sk == 0) = false := beq_eq_false_iff_ne.2 hk
        by_cases hR : [r0, r1, r2, r3, r4, r5, r6, r7] = [q0, q1, q2, q3, q4, q5, q6, q7]
        · simp only [List.cons.injEq, and_true] at hR
          obtain ⟨rfl, rfl, rfl, rfl, rfl, rfl, rfl, rfl⟩ := hR
          have n68 : b6 ≠ b8 := by have := HT.out.r.l8; have := HT.out.r.l10; have := HT.out.l12; have := HT.out.l13; omega
          have n610 : b6 ≠ b10 := by have := HT.out.r.l8; have := HT.out.r.l10; have := HT.out.l12; have := HT.out.l13; omega
          have n810 : b8 ≠ b10 := by have := HT.out.r.l8; have := HT.out.r.l10; have := HT.out.l12; have := HT.out.l13; omega
          have n612 : b6 ≠ b12 := by have := HT.out.r.l8; have := HT.out.r.l10; have := HT.out.l12; have := HT.out.l13; omega
          have n613 : b6 ≠ b13 := by have := HT.out.r.l8; have := HT.out.r.l10; have := HT.out.l12; have := HT.out.l13; omega
          have n812 : b8 ≠ b12 := by have := HT.out.r.l8; have := HT.out.r.l10; have := HT.out.l12; have := HT.out.l13; omega
          have n813 : b8 ≠ b13 := by have := HT.out.r.l8; have := HT.out.r.l10; have := HT.out.l12; have := HT.out.l13; omega
          have n1012 : b10 ≠ b12 := by have := HT.out.r.l8; have := HT.out.r.l10; have := HT.out.l12; have := HT.out.l13; omega
          have n1013 : b10 ≠ b13 := by have := HT.out.r.l8; have := HT.out.r.l10; have := HT.out.l12; have := HT.out.l13; omega
          have n1213 : b12 ≠ b13 := by have := HT.out.r.l8; have := HT.out.r.l10; have := HT.out.l12; have := HT.out.l13; omega
          have y0 := row_cell HT.out.r.h6 0
          have y1 := row_cell HT.out.r.h6 1
          have y2 := row_cell HT.out.r.h6 2
          have y3 := row_cell HT.out.r.h6 3
          have y4 := row_cell HT.out.r.h6 4
          have y5 := row_cell HT.out.r.h6 5
          have y6 := row_cell HT.out.r.h6 6
          have y7 := row_cell HT.out.r.h6 7
          have y8 := row_cell HT.out.r.h6 8
          have u0 := row_cell HT.out.r.h8 0
          have u1 := row_cell HT.out.r.h8 1
          have u2 := row_cell HT.out.r.h8 2
          have u3 := row_cell HT.out.r.h8 3
          have u4 := row_cell HT.out.r.h8 4
          have u5 := row_cell HT.out.r.h8 5
          have u6 := row_cell HT.out.r.h8 6
          have u7 := row_cell HT.out.r.h8 7
          have u8 := row_cell HT.out.r.h8 8
          have v0 := row_cell HT.out.r.h10 0
          have v1 := row_cell HT.out.r.h10 1
          have v2 := row_cell HT.out.r.h10 2
          have v3 := row_cell HT.out.r.h10 3
          have v4 := row_cell HT.out.r.h10 4
          have v5 := row_cell HT.out.r.h10 5
          have v6 := row_cell HT.out.r.h10 6
          have v7 := row_cell HT.out.r.h10 7
          have m0 := row_cell HT.out.h12 0
          have m1 := row_cell HT.out.h12 1
          have m2 := row_cell HT.out.h12 2
          have m3 := row_cell HT.out.h12 3
          have m4 := row_cell HT.out.h12 4
          have m5 := row_cell HT.out.h12 5
          have m6 := row_cell HT.out.h12 6
          have m7 := row_cell HT.out.h12 7
          have m8 := row_cell HT.out.h12 8
          have n0 := row_cell HT.out.h13 0
          have n1 := row_cell HT.out.h13 1
          have n2 := row_cell HT.out.h13 2
          have n3 := row_cell HT.out.h13 3
          have n4 := row_cell HT.out.h13 4
          have n5 := row_cell HT.out.h13 5
          have n6 := row_cell HT.out.h13 6
          have n7 := row_cell HT.out.h13 7
          simp only [List.getElem?_cons_zero, List.getElem?_cons_succ] at y0 y1 y2 y3 y4 y5 y6 y7 y8 u0 u1 u2 u3 u4 u5 u6 u7 u8 v0 v1 v2 v3 v4 v5 v6 v7 m0 m1 m2 m3 m4 m5 m6 m7 m8 n0 n1 n2 n3 n4 n5 n6 n7
          have fy0 : w3.frozen? ⟨b6, 0, none⟩ = false := row_free HT.out.r.h6 0
          have fy1 : w3.frozen? ⟨b6, 1, none⟩ = false := row_free HT.out.r.h6 1
          have fy2 : w3.frozen? ⟨b6, 2, none⟩ = false := row_free HT.out.r.h6 2
          have fy3 : w3.frozen? ⟨b6, 3, none⟩ = false := row_free HT.out.r.h6 3
          have fy4 : w3.frozen? ⟨b6, 4, none⟩ = false := row_free HT.out.r.h6 4
          have fy5 : w3.frozen? ⟨b6, 5, none⟩ = false := row_free HT.out.r.h6 5
          have fy6 : w3.frozen? ⟨b6, 6, none⟩ = false := row_free HT.out.r.h6 6
          have fy7 : w3.frozen? ⟨b6, 7, none⟩ = false := row_free HT.out.r.h6 7
          have fy8 : w3.frozen? ⟨b6, 8, none⟩ = false := row_free HT.out.r.h6 8
          have fu0 : w3.frozen? ⟨b8, 0, none⟩ = false := row_free HT.out.r.h8 0
          have fu1 : w3.frozen? ⟨b8, 1, none⟩ = false := row_free HT.out.r.h8 1
          have fu2 : w3.frozen? ⟨b8, 2, none⟩ = false := row_free HT.out.r.h8 2
          have fu3 : w3.frozen? ⟨b8, 3, none⟩ = false := row_free HT.out.r.h8 3
          have fu4 : w3.frozen? ⟨b8, 4, none⟩ = false := row_free HT.out.r.h8 4
          have fu5 : w3.frozen? ⟨b8, 5, none⟩ = false := row_free HT.out.r.h8 5
          have fu6 : w3.frozen? ⟨b8, 6, none⟩ = false := row_free HT.out.r.h8 6
          have fu7 : w3.frozen? ⟨b8, 7, none⟩ = false := row_free HT.out.r.h8 7
          have fu8 : w3.frozen? ⟨b8, 8, none⟩ = false := row_free HT.out.r.h8 8
          have fv0 : w3.frozen? ⟨b10, 0, none⟩ = false := row_free HT.out.r.h10 0
          have fv1 : w3.frozen? ⟨b10, 1, none⟩ = false := row_free HT.out.r.h10 1
          have fv2 : w3.frozen? ⟨b10, 2, none⟩ = false := row_free HT.out.r.h10 2
          have fv3 : w3.frozen? ⟨b10, 3, none⟩ = false := row_free HT.out.r.h10 3
          have fv4 : w3.frozen? ⟨b10, 4, none⟩ = false := row_free HT.out.r.h10 4
          have fv5 : w3.frozen? ⟨b10, 5, none⟩ = false := row_free HT.out.r.h10 5
          have fv6 : w3.frozen? ⟨b10, 6, none⟩ = false := row_free HT.out.r.h10 6
          have fv7 : w3.frozen? ⟨b10, 7, none⟩ = false := row_free HT.out.r.h10 7
          have p6 : b6 < w3.heap.size := lt_of_blk HT.out.r.h6
          have p8 : b8 < w3.heap.size := lt_of_blk HT.out.r.h8
          have p10 : b10 < w3.heap.size := lt_of_blk HT.out.r.h10
          have he1 : ∀ w, (Op.equalIn 10000 24 (.agg #[.int .u32 r0, .int .u32 r1, .int .u32 r2, .int .u32 r3, .int .u32 r4, .int .u32 r5, .int .u32 r6, .int .u32 r7]) (.agg #[.int .u32 r0, .int .u32 r1, .int .u32 r2, .int .u32 r3, .int .u32 r4, .int .u32 r5, .int .u32 r6, .int .u32 r7])).run Tryd.prog w = .ok true w := fun w => (eq8b 9998 r0 r1 r2 r3 r4 r5 r6 r7 r0 r1 r2 r3 r4 r5 r6 r7 w).trans (by rw [decide_eq_true rfl])
          by_cases hp8 : r8 = q8
          · subst hp8
            have d2 : (r8 == r8) = true := beq_self_eq_true _
            go_upto_region 8 with (fail)
            have hmm : Mod (fun k => k = b6) w3 (((((((((w3.setCell ⟨b6, 0, none⟩ (.int .u32 r0)).setCell ⟨b6, 1, none⟩ (.int .u32 r1)).setCell ⟨b6, 2, none⟩ (.int .u32 r2)).setCell ⟨b6, 3, none⟩ (.int .u32 r3)).setCell ⟨b6, 4, none⟩ (.int .u32 r4)).setCell ⟨b6, 5, none⟩ (.int .u32 r5)).setCell ⟨b6, 6, none⟩ (.int .u32 r6)).setCell ⟨b6, 7, none⟩ (.int .u32 r7)).setCell ⟨b6, 8, none⟩ (.int .u32 r8)) := mod_put9 (.int .u32 r0) (.int .u32 r1) (.int .u32 r2) (.int .u32 r3) (.int .u32 r4) (.int .u32 r5) (.int .u32 r6) (.int .u32 r7) (.int .u32 r8)
            have hw4 := HT.out.on hmm (set9 HT.out.r.h6 rfl (.int .u32 r0) (.int .u32 r1) (.int .u32 r2) (.int .u32 r3) (.int .u32 r4) (.int .u32 r5) (.int .u32 r6) (.int .u32 r7) (.int .u32 r8))
            have h134 := hmm.blk HT.out.h13 (by have := HT.out.l13; have := HT.out.l12; have := HT.out.r.l10; have := HT.out.r.l8; omega)
            generalize (((((((((w3.setCell ⟨b6, 0, none⟩ (.int .u32 r0)).setCell ⟨b6, 1, none⟩ (.int .u32 r1)).setCell ⟨b6, 2, none⟩ (.int .u32 r2)).setCell ⟨b6, 3, none⟩ (.int .u32 r3)).setCell ⟨b6, 4, none⟩ (.int .u32 r4)).setCell ⟨b6, 5, none⟩ (.int .u32 r5)).setCell ⟨b6, 6, none⟩ (.int .u32 r6)).setCell ⟨b6, 7, none⟩ (.int .u32 r7)).setCell ⟨b6, 8, none⟩ (.int .u32 r8)) = w4 at hw4 h134 hmm ⊢
            have HW4 := Lib.hid hw4
            clear y0 y1 y2 y3 y4 y5 y6 y7 y8 u0 u1 u2 u3 u4 u5 u6 u7 u8 v0 v1 v2 v3 v4 v5 v6 v7 m0 m1 m2 m3 m4 m5 m6 m7 m8 n0 n1 n2 n3 n4 n5 n6 n7 fy0 fy1 fy2 fy3 fy4 fy5 fy6 fy7 fy8 fu0 fu1 fu2 fu3 fu4 fu5 fu6 fu7 fu8 fv0 fv1 fv2 fv3 fv4 fv5 fv6 fv7 hw4 hmm p6 p8 p10 HT
            have y0 := row_cell HW4.out.h6 0
            have y1 := row_cell HW4.out.h6 1
            have y2 := row_cell HW4.out.h6 2
            have y3 := row_cell HW4.out.h6 3
            have y4 := row_cell HW4.out.h6 4
            have y5 := row_cell HW4.out.h6 5
            have y6 := row_cell HW4.out.h6 6
            have y7 := row_cell HW4.out.h6 7
            have y8 := row_cell HW4.out.h6 8
            have u0 := row_cell HW4.out.h8 0
            have u1 := row_cell HW4.out.h8 1
            have u2 := row_cell HW4.out.h8 2
            have u3 := row_cell HW4.out.h8 3
            have u4 := row_cell HW4.out.h8 4
            have u5 := row_cell HW4.out.h8 5
            have u6 := row_cell HW4.out.h8 6
            have u7 := row_cell HW4.out.h8 7
            have u8 := row_cell HW4.out.h8 8
            have v0 := row_cell HW4.out.h10 0
            have v1 := row_cell HW4.out.h10 1
            have v2 := row_cell HW4.out.h10 2
            have v3 := row_cell HW4.out.h10 3
            have v4 := row_cell HW4.out.h10 4
            have v5 := row_cell HW4.out.h10 5
            have v6 := row_cell HW4.out.h10 6
            have v7 := row_cell HW4.out.h10 7
            have n0 := row_cell h134 0
            have n1 := row_cell h134 1
            have n2 := row_cell h134 2
            have n3 := row_cell h134 3
            have n4 := row_cell h134 4
            have n5 := row_cell h134 5
            have n6 := row_cell h134 6
            have n7 := row_cell h134 7
            simp only [List.getElem?_cons_zero, List.getElem?_cons_succ] at y0 y1 y2 y3 y4 y5 y6 y7 y8 u0 u1 u2 u3 u4 u5 u6 u7 u8 v0 v1 v2 v3 v4 v5 v6 v7 n0 n1 n2 n3 n4 n5 n6 n7
            clear h134
            have fu0 : w4.frozen? ⟨b8, 0, none⟩ = false := row_free HW4.out.h8 0
            have fu1 : w4.frozen? ⟨b8, 1, none⟩ = false := row_free HW4.out.h8 1
            have fu2 : w4.frozen? ⟨b8, 2, none⟩ = false := row_free HW4.out.h8 2
            have fu3 : w4.frozen? ⟨b8, 3, none⟩ = false := row_free HW4.out.h8 3
            have fu4 : w4.frozen? ⟨b8, 4, none⟩ = false := row_free HW4.out.h8 4
            have fu5 : w4.frozen? ⟨b8, 5, none⟩ = false := row_free HW4.out.h8 5
            have fu6 : w4.frozen? ⟨b8, 6, none⟩ = false := row_free HW4.out.h8 6
            have fu7 : w4.frozen? ⟨b8, 7, none⟩ = false := row_free HW4.out.h8 7
            have fu8 : w4.frozen? ⟨b8, 8, none⟩ = false := row_free HW4.out.h8 8
            have fv0 : w4.frozen? ⟨b10, 0, none⟩ = false := row_free HW4.out.h10 0
            have fv1 : w4.frozen? ⟨b10, 1, none⟩ = false := row_free HW4.out.h10 1
            have fv2 : w4.frozen? ⟨b10, 2, none⟩ = false := row_free HW4.out.h10 2
            have fv3 : w4.frozen? ⟨b10, 3, none⟩ = false := row_free HW4.out.h10 3
            have fv4 : w4.frozen? ⟨b10, 4, none⟩ = false := row_free HW4.out.h10 4
            have fv5 : w4.frozen? ⟨b10, 5, none⟩ = false := row_free HW4.out.h10 5
            have fv6 : w4.frozen? ⟨b10, 6, none⟩ = false := row_free HW4.out.h10 6
            have fv7 : w4.frozen? ⟨b10, 7, none⟩ = false := row_free HW4.out.h10 7
            have p8 : b8 < w4.heap.size := lt_of_blk HW4.out.h8
            have p10 : b10 < w4.heap.size := lt_of_blk HW4.out.h10
            go_upto_region 9 with (fail)
            go_region
            have hE1 : ((((((((((((((((((w4.setCell ⟨b8, 0, none⟩ (.int .u32 r0)).setCell ⟨b8, 1, none⟩ (.int .u32 r1)).setCell ⟨b8, 2, none⟩ (.int .u32 r2)).setCell ⟨b8, 3, none⟩ (.int .u32 r3)).setCell ⟨b8, 4, none⟩ (.int .u32 r4)).setCell ⟨b8, 5, none⟩ (.int .u32 r5)).setCell ⟨b8, 6, none⟩ (.int .u32 r6)).setCell ⟨b8, 7, none⟩ (.int .u32 r7)).setCell ⟨b8, 8, none⟩ (.int .u32 r8)).setCell ⟨b10, 0, none⟩ (.int .i64 sk)).setCell ⟨b10, 1, none⟩ (.int .u32 sc)).setCell ⟨b10, 2, none⟩ (.int .u32 s1)).setCell ⟨b10, 3, none⟩ (.int .u32 s2)).setCell ⟨b10, 4, none⟩ (.int .u32 s3)).setCell ⟨b10, 5, none⟩ (.int .u32 s4)).setCell ⟨b10, 6, none⟩ (.int .u32 s5)).setCell ⟨b10, 7, none⟩ (.int .i64 sy)).drew).heap[b8]? = some (.cells ([.int .u32 r0, .int .u32 r1, .int .u32 r2, .int .u32 r3, .int .u32 r4, .int .u32 r5, .int .u32 r6, .int .u32 r7, .int .u32 r8] : List Value).toArray 26 (0, 0)) := by
              have h := set9 HW4.out.h8 rfl (.int .u32 r0) (.int .u32 r1) (.int .u32 r2) (.int .u32 r3) (.int .u32 r4) (.int .u32 r5) (.int .u32 r6) (.int .u32 r7) (.int .u32 r8)
              exact blk_drew (blk_setCell (blk_setCell (blk_setCell (blk_setCell (blk_setCell (blk_setCell (blk_setCell (blk_setCell h n810 _) n810 _) n810 _) n810 _) n810 _) n810 _) n810 _) n810 _)
            have hE2 : ((((((((((((((((((w4.setCell ⟨b8, 0, none⟩ (.int .u32 r0)).setCell ⟨b8, 1, none⟩ (.int .u32 r1)).setCell ⟨b8, 2, none⟩ (.int .u32 r2)).setCell ⟨b8, 3, none⟩ (.int .u32 r3)).setCell ⟨b8, 4, none⟩ (.int .u32 r4)).setCell ⟨b8, 5, none⟩ (.int .u32 r5)).setCell ⟨b8, 6, none⟩ (.int .u32 r6)).setCell ⟨b8, 7, none⟩ (.int .u32 r7)).setCell ⟨b8, 8, none⟩ (.int .u32 r8)).setCell ⟨b10, 0, none⟩ (.int .i64 sk)).setCell ⟨b10, 1, none⟩ (.int .u32 sc)).setCell ⟨b10, 2, none⟩ (.int .u32 s1)).setCell ⟨b10, 3, none⟩ (.int .u32 s2)).setCell ⟨b10, 4, none⟩ (.int .u32 s3)).setCell ⟨b10, 5, none⟩ (.int .u32 s4)).setCell ⟨b10, 6, none⟩ (.int .u32 s5)).setCell ⟨b10, 7, none⟩ (.int .i64 sy)).drew).heap[b10]? = some (.cells ([.int .i64 sk, .int .u32 sc, .int .u32 s1, .int .u32 s2, .int .u32 s3, .int .u32 s4, .int .u32 s5, .int .i64 sy] : List Value).toArray 34 (0, 0)) := by
              refine blk_drew (set8 (w := (((((((((w4.setCell ⟨b8, 0, none⟩ (.int .u32 r0)).setCell ⟨b8, 1, none⟩ (.int .u32 r1)).setCell ⟨b8, 2, none⟩ (.int .u32 r2)).setCell ⟨b8, 3, none⟩ (.int .u32 r3)).setCell ⟨b8, 4, none⟩ (.int .u32 r4)).setCell ⟨b8, 5, none⟩ (.int .u32 r5)).setCell ⟨b8, 6, none⟩ (.int .u32 r6)).setCell ⟨b8, 7, none⟩ (.int .u32 r7)).setCell ⟨b8, 8, none⟩ (.int .u32 r8))) (L := [.int .i64 0, .int .u32 0, .int .u32 0, .int .u32 0, .int .u32 0, .int .u32 0, .int .u32 0, .int .i64 0]) ?_ rfl (.int .i64 sk) (.int .u32 sc) (.int .u32 s1) (.int .u32 s2) (.int .u32 s3) (.int .u32 s4) (.int .u32 s5) (.int .i64 sy))
              exact (blk_setCell (blk_setCell (blk_setCell (blk_setCell (blk_setCell (blk_setCell (blk_setCell (blk_setCell (blk_setCell HW4.out.h10 n810.symm _) n810.symm _) n810.symm _) n810.symm _) n810.symm _) n810.symm _) n810.symm _) n810.symm _) n810.symm _)
            have hend : Mod (fun k => k = b8 ∨ k = b10) w4 ((((((((((((((((((w4.setCell ⟨b8, 0, none⟩ (.int .u32 r0)).setCell ⟨b8, 1, none⟩ (.int .u32 r1)).setCell ⟨b8, 2, none⟩ (.int .u32 r2)).setCell ⟨b8, 3, none⟩ (.int .u32 r3)).setCell ⟨b8, 4, none⟩ (.int .u32 r4)).setCell ⟨b8, 5, none⟩ (.int .u32 r5)).setCell ⟨b8, 6, none⟩ (.int .u32 r6)).setCell ⟨b8, 7, none⟩ (.int .u32 r7)).setCell ⟨b8, 8, none⟩ (.int .u32 r8)).setCell ⟨b10, 0, none⟩ (.int .i64 sk)).setCell ⟨b10, 1, none⟩ (.int .u32 sc)).setCell ⟨b10, 2, none⟩ (.int .u32 s1)).setCell ⟨b10, 3, none⟩ (.int .u32 s2)).setCell ⟨b10, 4, none⟩ (.int .u32 s3)).setCell ⟨b10, 5, none⟩ (.int .u32 s4)).setCell ⟨b10, 6, none⟩ (.int .u32 s5)).setCell ⟨b10, 7, none⟩ (.int .i64 sy)).drew) := (((mod_put9 (.int .u32 r0) (.int .u32 r1) (.int .u32 r2) (.int .u32 r3) (.int .u32 r4) (.int .u32 r5) (.int .u32 r6) (.int .u32 r7) (.int .u32 r8)).mono (fun _ _ q => .inl q)).trans ((mod_put8 (.int .i64 sk) (.int .u32 sc) (.int .u32 s1) (.int .u32 s2) (.int .u32 s3) (.int .u32 s4) (.int .u32 s5) (.int .i64 sy)).mono (fun _ _ q => .inr q))).drew
            generalize (((((((((((((((((w4.setCell ⟨b8, 0, none⟩ (.int .u32 r0)).setCell ⟨b8, 1, none⟩ (.int .u32 r1)).setCell ⟨b8, 2, none⟩ (.int .u32 r2)).setCell ⟨b8, 3, none⟩ (.int .u32 r3)).setCell ⟨b8, 4, none⟩ (.int .u32 r4)).setCell ⟨b8, 5, none⟩ (.int .u32 r5)).setCell ⟨b8, 6, none⟩ (.int .u32 r6)).setCell ⟨b8, 7, none⟩ (.int .u32 r7)).setCell ⟨b8, 8, none⟩ (.int .u32 r8)).setCell ⟨b10, 0, none⟩ (.int .i64 sk)).setCell ⟨b10, 1, none⟩ (.int .u32 sc)).setCell ⟨b10, 2, none⟩ (.int .u32 s1)).setCell ⟨b10, 3, none⟩ (.int .u32 s2)).setCell ⟨b10, 4, none⟩ (.int .u32 s3)).setCell ⟨b10, 5, none⟩ (.int .u32 s4)).setCell ⟨b10, 6, none⟩ (.int .u32 s5)).setCell ⟨b10, 7, none⟩ (.int .i64 sy)).drew = wE at hE1 hE2 hend ⊢
            have e0 := row_cell hE1 0
            have e1 := row_cell hE1 1
            have e2 := row_cell hE1 2
            have e3 := row_cell hE1 3
            have e4 := row_cell hE1 4
            have e5 := row_cell hE1 5
            have e6 := row_cell hE1 6
            have e7 := row_cell hE1 7
            have e8 := row_cell hE1 8
            have g0 := row_cell hE2 0
            have g1 := row_cell hE2 1
            have g2 := row_cell hE2 2
            have g3 := row_cell hE2 3
            have g4 := row_cell hE2 4
            have g5 := row_cell hE2 5
            have g6 := row_cell hE2 6
            have g7 := row_cell hE2 7
            simp only [List.getElem?_cons_zero, List.getElem?_cons_succ] at e0 e1 e2 e3 e4 e5 e6 e7 e8 g0 g1 g2 g3 g4 g5 g6 g7
            go_wp2
            refine bodyPost_ret (v := .tuple #[.agg #[.int .u32 r0, .int .u32 r1, .int .u32 r2, .int .u32 r3, .int .u32 r4, .int .u32 r5, .int .u32 r6, .int .u32 r7, .int .u32 r8], .int .i64 (j + 1), .agg #[.int .i64 sk, .int .u32 sc, .int .u32 s1, .int .u32 s2, .int .u32 s3, .int .u32 s4, .int .u32 s5, .int .i64 sy]]) (by simp [results, Tryd.results10, go_sem, e0, e1, e2, e3, e4, e5, e6, e7, e8, g0, g1, g2, g3, g4, g5, g6, g7]) rfl ?_
            have hmE : Mod (One F) w wE := HW4.out.m.step hend (fun i hi q => by have := HW4.out.l6; have := HW4.out.l8; have := HW4.out.l10; rcases q with q | q <;> omega)
            have hpE : PhM wE B F _ := HW4.out.p.kept hend (fun q => by have := HW4.out.lB; have := HW4.out.l6; have := HW4.out.l8; have := HW4.out.l10; rcases q with q | q <;> omega) (fun q => by have := HW4.out.lF; have := HW4.out.l6; have := HW4.out.l8; have := HW4.out.l10; rcases q with q | q <;> omega)
            have ho := HSTOP.out hk
            subst ho
            exact ⟨rfl, hmE, hpE, ⟨⟨HOK.out.1, HOK.out.2.1, HOK.out.2.2.1, HOK.out.2.2.2⟩, HOK0.out⟩⟩
          · have d2 : (q8 == r8) = false := beq_eq_false_iff_ne.2 (fun h => hp8 h.symm)
            go_upto_region 8 with (fail)
            have hmm : Mod (fun k => k = b6) w3 (((((((((w3.setCell ⟨b6, 0, none⟩ (.int .u32 r0)).setCell ⟨b6, 1, none⟩ (.int .u32 r1)).setCell ⟨b6, 2, none⟩ (.int .u32 r2)).setCell ⟨b6, 3, none⟩ (.int .u32 r3)).setCell ⟨b6, 4, none⟩ (.int .u32 r4)).setCell ⟨b6, 5, none⟩ (.int .u32 r5)).setCell ⟨b6, 6, none⟩ (.int .u32 r6)).setCell ⟨b6, 7, none⟩ (.int .u32 r7)).setCell ⟨b6, 8, none⟩ (.int .u32 q8)) := mod_put9 (.int .u32 r0) (.int .u32 r1) (.int .u32 r2) (.int .u32 r3) (.int .u32 r4) (.int .u32 r5) (.int .u32 r6) (.int .u32 r7) (.int .u32 q8)
            have hw4 := HT.out.on hmm (set9 HT.out.r.h6 rfl (.int .u32 r0) (.int .u32 r1) (.int .u32 r2) (.int .u32 r3) (.int .u32 r4) (.int .u32 r5) (.int .u32 r6) (.int .u32 r7) (.int .u32 q8))
            have h134 := hmm.blk HT.out.h13 (by have := HT.out.l13; have := HT.out.l12; have := HT.out.r.l10; have := HT.out.r.l8; omega)
            generalize (((((((((w3.setCell ⟨b6, 0, none⟩ (.int .u32 r0)).setCell ⟨b6, 1, none⟩ (.int .u32 r1)).setCell ⟨b6, 2, none⟩ (.int .u32 r2)).setCell ⟨b6, 3, none⟩ (.int .u32 r3)).setCell ⟨b6, 4, none⟩ (.int .u32 r4)).setCell ⟨b6, 5, none⟩ (.int .u32 r5)).setCell ⟨b6, 6, none⟩ (.int .u32 r6)).setCell ⟨b6, 7, none⟩ (.int .u32 r7)).setCell ⟨b6, 8, none⟩ (.int .u32 q8)) = w4 at hw4 h134 hmm ⊢
            have HW4 := Lib.hid hw4
            clear y0 y1 y2 y3 y4 y5 y6 y7 y8 u0 u1 u2 u3 u4 u5 u6 u7 u8 v0 v1 v2 v3 v4 v5 v6 v7 m0 m1 m2 m3 m4 m5 m6 m7 m8 n0 n1 n2 n3 n4 n5 n6 n7 fy0 fy1 fy2 fy3 fy4 fy5 fy6 fy7 fy8 fu0 fu1 fu2 fu3 fu4 fu5 fu6 fu7 fu8 fv0 fv1 fv2 fv3 fv4 fv5 fv6 fv7 hw4 hmm p6 p8 p10 HT
            have y0 := row_cell HW4.out.h6 0
            have y1 := row_cell HW4.out.h6 1
            have y2 := row_cell HW4.out.h6 2
            have y3 := row_cell HW4.out.h6 3
            have y4 := row_cell HW4.out.h6 4
            have y5 := row_cell HW4.out.h6 5
            have y6 := row_cell HW4.out.h6 6
            have y7 := row_cell HW4.out.h6 7
            have y8 := row_cell HW4.out.h6 8
            have u0 := row_cell HW4.out.h8 0
            have u1 := row_cell HW4.out.h8 1
            have u2 := row_cell HW4.out.h8 2
            have u3 := row_cell HW4.out.h8 3
            have u4 := row_cell HW4.out.h8 4
            have u5 := row_cell HW4.out.h8 5
            have u6 := row_cell HW4.out.h8 6
            have u7 := row_cell HW4.out.h8 7
            have u8 := row_cell HW4.out.h8 8
            have v0 := row_cell HW4.out.h10 0
            have v1 := row_cell HW4.out.h10 1
            have v2 := row_cell HW4.out.h10 2
            have v3 := row_cell HW4.out.h10 3
            have v4 := row_cell HW4.out.h10 4
            have v5 := row_cell HW4.out.h10 5
            have v6 := row_cell HW4.out.h10 6
            have v7 := row_cell HW4.out.h10 7
            have n0 := row_cell h134 0
            have n1 := row_cell h134 1
            have n2 := row_cell h134 2
            have n3 := row_cell h134 3
            have n4 := row_cell h134 4
            have n5 := row_cell h134 5
            have n6 := row_cell h134 6
            have n7 := row_cell h134 7
            simp only [List.getElem?_cons_zero, List.getElem?_cons_succ] at y0 y1 y2 y3 y4 y5 y6 y7 y8 u0 u1 u2 u3 u4 u5 u6 u7 u8 v0 v1 v2 v3 v4 v5 v6 v7 n0 n1 n2 n3 n4 n5 n6 n7
            clear h134
            have fu0 : w4.frozen? ⟨b8, 0, none⟩ = false := row_free HW4.out.h8 0
            have fu1 : w4.frozen? ⟨b8, 1, none⟩ = false := row_free HW4.out.h8 1
            have fu2 : w4.frozen? ⟨b8, 2, none⟩ = false := row_free HW4.out.h8 2
            have fu3 : w4.frozen? ⟨b8, 3, none⟩ = false := row_free HW4.out.h8 3
            have fu4 : w4.frozen? ⟨b8, 4, none⟩ = false := row_free HW4.out.h8 4
            have fu5 : w4.frozen? ⟨b8, 5, none⟩ = false := row_free HW4.out.h8 5
            have fu6 : w4.frozen? ⟨b8, 6, none⟩ = false := row_free HW4.out.h8 6
            have fu7 : w4.frozen? ⟨b8, 7, none⟩ = false := row_free HW4.out.h8 7
            have fu8 : w4.frozen? ⟨b8, 8, none⟩ = false := row_free HW4.out.h8 8
            have fv0 : w4.frozen? ⟨b10, 0, none⟩ = false := row_free HW4.out.h10 0
            have fv1 : w4.frozen? ⟨b10, 1, none⟩ = false := row_free HW4.out.h10 1
            have fv2 : w4.frozen? ⟨b10, 2, none⟩ = false := row_free HW4.out.h10 2
            have fv3 : w4.frozen? ⟨b10, 3, none⟩ = false := row_free HW4.out.h10 3
            have fv4 : w4.frozen? ⟨b10, 4, none⟩ = false := row_free HW4.out.h10 4
            have fv5 : w4.frozen? ⟨b10, 5, none⟩ = false := row_free HW4.out.h10 5
            have fv6 : w4.frozen? ⟨b10, 6, none⟩ = false := row_free HW4.out.h10 6
            have fv7 : w4.frozen? ⟨b10, 7, none⟩ = false := row_free HW4.out.h10 7
            have p8 : b8 < w4.heap.size := lt_of_blk HW4.out.h8
            have p10 : b10 < w4.heap.size := lt_of_blk HW4.out.h10
            go_upto_region 9 with (fail)
            go_region
            have hE1 : ((((((((((((((((((w4.setCell ⟨b8, 0, none⟩ (.int .u32 r0)).setCell ⟨b8, 1, none⟩ (.int .u32 r1)).setCell ⟨b8, 2, none⟩ (.int .u32 r2)).setCell ⟨b8, 3, none⟩ (.int .u32 r3)).setCell ⟨b8, 4, none⟩ (.int .u32 r4)).setCell ⟨b8, 5, none⟩ (.int .u32 r5)).setCell ⟨b8, 6, none⟩ (.int .u32 r6)).setCell ⟨b8, 7, none⟩ (.int .u32 r7)).setCell ⟨b8, 8, none⟩ (.int .u32 q8)).setCell ⟨b10, 0, none⟩ (.int .i64 sk)).setCell ⟨b10, 1, none⟩ (.int .u32 sc)).setCell ⟨b10, 2, none⟩ (.int .u32 s1)).setCell ⟨b10, 3, none⟩ (.int .u32 s2)).setCell ⟨b10, 4, none⟩ (.int .u32 s3)).setCell ⟨b10, 5, none⟩ (.int .u32 s4)).setCell ⟨b10, 6, none⟩ (.int .u32 s5)).setCell ⟨b10, 7, none⟩ (.int .i64 sy)).drew).heap[b8]? = some (.cells ([.int .u32 r0, .int .u32 r1, .int .u32 r2, .int .u32 r3, .int .u32 r4, .int .u32 r5, .int .u32 r6, .int .u32 r7, .int .u32 q8] : List Value).toArray 26 (0, 0)) := by
              have h := set9 HW4.out.h8 rfl (.int .u32 r0) (.int .u32 r1) (.int .u32 r2) (.int .u32 r3) (.int .u32 r4) (.int .u32 r5) (.int .u32 r6) (.int .u32 r7) (.int .u32 q8)
              exact blk_drew (blk_setCell (blk_setCell (blk_setCell (blk_setCell (blk_setCell (blk_setCell (blk_setCell (blk_setCell h n810 _) n810 _) n810 _) n810 _) n810 _) n810 _) n810 _) n810 _)
            have hE2 : ((((((((((((((((((w4.setCell ⟨b8, 0, none⟩ (.int .u32 r0)).setCell ⟨b8, 1, none⟩ (.int .u32 r1)).setCell ⟨b8, 2, none⟩ (.int .u32 r2)).setCell ⟨b8, 3, none⟩ (.int .u32 r3)).setCell ⟨b8, 4, none⟩ (.int .u32 r4)).setCell ⟨b8, 5, none⟩ (.int .u32 r5)).setCell ⟨b8, 6, none⟩ (.int .u32 r6)).setCell ⟨b8, 7, none⟩ (.int .u32 r7)).setCell ⟨b8, 8, none⟩ (.int .u32 q8)).setCell ⟨b10, 0, none⟩ (.int .i64 sk)).setCell ⟨b10, 1, none⟩ (.int .u32 sc)).setCell ⟨b10, 2, none⟩ (.int .u32 s1)).setCell ⟨b10, 3, none⟩ (.int .u32 s2)).setCell ⟨b10, 4, none⟩ (.int .u32 s3)).setCell ⟨b10, 5, none⟩ (.int .u32 s4)).setCell ⟨b10, 6, none⟩ (.int .u32 s5)).setCell ⟨b10, 7, none⟩ (.int .i64 sy)).drew).heap[b10]? = some (.cells ([.int .i64 sk, .int .u32 sc, .int .u32 s1, .int .u32 s2, .int .u32 s3, .int .u32 s4, .int .u32 s5, .int .i64 sy] : List Value).toArray 34 (0, 0)) := by
              refine blk_drew (set8 (w := (((((((((w4.setCell ⟨b8, 0, none⟩ (.int .u32 r0)).setCell ⟨b8, 1, none⟩ (.int .u32 r1)).setCell ⟨b8, 2, none⟩ (.int .u32 r2)).setCell ⟨b8, 3, none⟩ (.int .u32 r3)).setCell ⟨b8, 4, none⟩ (.int .u32 r4)).setCell ⟨b8, 5, none⟩ (.int .u32 r5)).setCell ⟨b8, 6, none⟩ (.int .u32 r6)).setCell ⟨b8, 7, none⟩ (.int .u32 r7)).setCell ⟨b8, 8, none⟩ (.int .u32 q8))) (L := [.int .i64 0, .int .u32 0, .int .u32 0, .int .u32 0, .int .u32 0, .int .u32 0, .int .u32 0, .int .i64 0]) ?_ rfl (.int .i64 sk) (.int .u32 sc) (.int .u32 s1) (.int .u32 s2) (.int .u32 s3) (.int .u32 s4) (.int .u32 s5) (.int .i64 sy))
              exact (blk_setCell (blk_setCell (blk_setCell (blk_setCell (blk_setCell (blk_setCell (blk_setCell (blk_setCell (blk_setCell HW4.out.h10 n810.symm _) n810.symm _) n810.symm _) n810.symm _) n810.symm _) n810.symm _) n810.symm _) n810.symm _) n810.symm _)
            have hend : Mod (fun k => k = b8 ∨ k = b10) w4 ((((((((((((((((((w4.setCell ⟨b8, 0, none⟩ (.int .u32 r0)).setCell ⟨b8, 1, none⟩ (.int .u32 r1)).setCell ⟨b8, 2, none⟩ (.int .u32 r2)).setCell ⟨b8, 3, none⟩ (.int .u32 r3)).setCell ⟨b8, 4, none⟩ (.int .u32 r4)).setCell ⟨b8, 5, none⟩ (.int .u32 r5)).setCell ⟨b8, 6, none⟩ (.int .u32 r6)).setCell ⟨b8, 7, none⟩ (.int .u32 r7)).setCell ⟨b8, 8, none⟩ (.int .u32 q8)).setCell ⟨b10, 0, none⟩ (.int .i64 sk)).setCell ⟨b10, 1, none⟩ (.int .u32 sc)).setCell ⟨b10, 2, none⟩ (.int .u32 s1)).setCell ⟨b10, 3, none⟩ (.int .u32 s2)).setCell ⟨b10, 4, none⟩ (.int .u32 s3)).setCell ⟨b10, 5, none⟩ (.int .u32 s4)).setCell ⟨b10, 6, none⟩ (.int .u32 s5)).setCell ⟨b10, 7, none⟩ (.int .i64 sy)).drew) := (((mod_put9 (.int .u32 r0) (.int .u32 r1) (.int .u32 r2) (.int .u32 r3) (.int .u32 r4) (.int .u32 r5) (.int .u32 r6) (.int .u32 r7) (.int .u32 q8)).mono (fun _ _ q => .inl q)).trans ((mod_put8 (.int .i64 sk) (.int .u32 sc) (.int .u32 s1) (.int .u32 s2) (.int .u32 s3) (.int .u32 s4) (.int .u32 s5) (.int .i64 sy)).mono (fun _ _ q => .inr q))).drew
            generalize (((((((((((((((((w4.setCell ⟨b8, 0, none⟩ (.int .u32 r0)).setCell ⟨b8, 1, none⟩ (.int .u32 r1)).setCell ⟨b8, 2, none⟩ (.int .u32 r2)).setCell ⟨b8, 3, none⟩ (.int .u32 r3)).setCell ⟨b8, 4, none⟩ (.int .u32 r4)).setCell ⟨b8, 5, none⟩ (.int .u32 r5)).setCell ⟨b8, 6, none⟩ (.int .u32 r6)).setCell ⟨b8, 7, none⟩ (.int .u32 r7)).setCell ⟨b8, 8, none⟩ (.int .u32 q8)).setCell ⟨b10, 0, none⟩ (.int .i64 sk)).setCell ⟨b10, 1, none⟩ (.int .u32 sc)).setCell ⟨b10, 2, none⟩ (.int .u32 s1)).setCell ⟨b10, 3, none⟩ (.int .u32 s2)).setCell ⟨b10, 4, none⟩ (.int .u32 s3)).setCell ⟨b10, 5, none⟩ (.int .u32 s4)).setCell ⟨b10, 6, none⟩ (.int .u32 s5)).setCell ⟨b10, 7, none⟩ (.int .i64 sy)).drew = wE at hE1 hE2 hend ⊢
            have e0 := row_cell hE1 0
            have e1 := row_cell hE1 1
            have e2 := row_cell hE1 2
            have e3 := row_cell hE1 3
            have e4 := row_cell hE1 4
            have e5 := row_cell hE1 5
            have e6 := row_cell hE1 6
            have e7 := row_cell hE1 7
            have e8 := row_cell hE1 8
            have g0 := row_cell hE2 0
            have g1 := row_cell hE2 1
            have g2 := row_cell hE2 2
            have g3 := row_cell hE2 3
            have g4 := row_cell hE2 4
            have g5 := row_cell hE2 5
            have g6 := row_cell hE2 6
            have g7 := row_cell hE2 7
            simp only [List.getElem?_cons_zero, List.getElem?_cons_succ] at e0 e1 e2 e3 e4 e5 e6 e7 e8 g0 g1 g2 g3 g4 g5 g6 g7
            go_wp2
            refine bodyPost_ret (v := .tuple #[.agg #[.int .u32 r0, .int .u32 r1, .int .u32 r2, .int .u32 r3, .int .u32 r4, .int .u32 r5, .int .u32 r6, .int .u32 r7, .int .u32 q8], .int .i64 (j + 1), .agg #[.int .i64 sk, .int .u32 sc, .int .u32 s1, .int .u32 s2, .int .u32 s3, .int .u32 s4, .int .u32 s5, .int .i64 sy]]) (by simp [results, Tryd.results10, go_sem, e0, e1, e2, e3, e4, e5, e6, e7, e8, g0, g1, g2, g3, g4, g5, g6, g7]) rfl ?_
            have hmE : Mod (One F) w wE := HW4.out.m.step hend (fun i hi q => by have := HW4.out.l6; have := HW4.out.l8; have := HW4.out.l10; rcases q with q | q <;> omega)
            have hpE : PhM wE B F _ := HW4.out.p.kept hend (fun q => by have := HW4.out.lB; have := HW4.out.l6; have := HW4.out.l8; have := HW4.out.l10; rcases q with q | q <;> omega) (fun q => by have := HW4.out.lF; have := HW4.out.l6; have := HW4.out.l8; have := HW4.out.l10; rcases q with q | q <;> omega)
            have ho := HSTOP.out hk
            subst ho
            exact ⟨rfl, hmE, hpE, ⟨⟨HOK.out.1, HOK.out.2.1, HOK.out.2.2.1, HOK.out.2.2.2⟩, HOK0.out⟩⟩
        · have n68 : b6 ≠ b8 := by have := HT.out.r.l8; have := HT.out.r.l10; have := HT.out.l12; have := HT.out.l13; omega
          have n610 : b6 ≠ b10 := by have := HT.out.r.l8; have := HT.out.r.l10; have := HT.out.l12; have := HT.out.l13; omega
          have n810 : b8 ≠ b10 := by have := HT.out.r.l8; have := HT.out.r.l10; have := HT.out.l12; have := HT.out.l13; omega
          have n612 : b6 ≠ b12 := by have := HT.out.r.l8; have := HT.out.r.l10; have := HT.out.l12; have := HT.out.l13; omega
          have n613 : b6 ≠ b13 := by have := HT.out.r.l8; have := HT.out.r.l10; have := HT.out.l12; have := HT.out.l13; omega
          have n812 : b8 ≠ b12 := by have := HT.out.r.l8; have := HT.out.r.l10; have := HT.out.l12; have := HT.out.l13; omega
          have n813 : b8 ≠ b13 := by have := HT.out.r.l8; have := HT.out.r.l10; have := HT.out.l12; have := HT.out.l13; omega
          have n1012 : b10 ≠ b12 := by have := HT.out.r.l8; have := HT.out.r.l10; have := HT.out.l12; have := HT.out.l13; omega
          have n1013 : b10 ≠ b13 := by have := HT.out.r.l8; have := HT.out.r.l10; have := HT.out.l12; have := HT.out.l13; omega
          have n1213 : b12 ≠ b13 := by have := HT.out.r.l8; have := HT.out.r.l10; have := HT.out.l12; have := HT.out.l13; omega
          have y0 := row_cell HT.out.r.h6 0
          have y1 := row_cell HT.out.r.h6 1
          have y2 := row_cell HT.out.r.h6 2
          have y3 := row_cell HT.out.r.h6 3
          have y4 := row_cell HT.out.r.h6 4
          have y5 := row_cell HT.out.r.h6 5
          have y6 := row_cell HT.out.r.h6 6
          have y7 := row_cell HT.out.r.h6 7
          have y8 := row_cell HT.out.r.h6 8
          have u0 := row_cell HT.out.r.h8 0
          have u1 := row_cell HT.out.r.h8 1
          have u2 := row_cell HT.out.r.h8 2
          have u3 := row_cell HT.out.r.h8 3
          have u4 := row_cell HT.out.r.h8 4
          have u5 := row_cell HT.out.r.h8 5
          have u6 := row_cell HT.out.r.h8 6
          have u7 := row_cell HT.out.r.h8 7
          have u8 := row_cell HT.out.r.h8 8
          have v0 := row_cell HT.out.r.h10 0
          have v1 := row_cell HT.out.r.h10 1
          have v2 := row_cell HT.out.r.h10 2
          have v3 := row_cell HT.out.r.h10 3
          have v4 := row_cell HT.out.r.h10 4
          have v5 := row_cell HT.out.r.h10 5
          have v6 := row_cell HT.out.r.h10 6
          have v7 := row_cell HT.out.r.h10 7
          have m0 := row_cell HT.out.h12 0
          have m1 := row_cell HT.out.h12 1
          have m2 := row_cell HT.out.h12 2
          have m3 := row_cell HT.out.h12 3
          have m4 := row_cell HT.out.h12 4
          have m5 := row_cell HT.out.h12 5
          have m6 := row_cell HT.out.h12 6
          have m7 := row_cell HT.out.h12 7
          have m8 := row_cell HT.out.h12 8
          have n0 := row_cell HT.out.h13 0
          have n1 := row_cell HT.out.h13 1
          have n2 := row_cell HT.out.h13 2
          have n3 := row_cell HT.out.h13 3
          have n4 := row_cell HT.out.h13 4
          have n5 := row_cell HT.out.h13 5
          have n6 := row_cell HT.out.h13 6
          have n7 := row_cell HT.out.h13 7
          simp only [List.getElem?_cons_zero, List.getElem?_cons_succ] at y0 y1 y2 y3 y4 y5 y6 y7 y8 u0 u1 u2 u3 u4 u5 u6 u7 u8 v0 v1 v2 v3 v4 v5 v6 v7 m0 m1 m2 m3 m4 m5 m6 m7 m8 n0 n1 n2 n3 n4 n5 n6 n7
          have fy0 : w3.frozen? ⟨b6, 0, none⟩ = false := row_free HT.out.r.h6 0
          have fy1 : w3.frozen? ⟨b6, 1, none⟩ = false := row_free HT.out.r.h6 1
          have fy2 : w3.frozen? ⟨b6, 2, none⟩ = false := row_free HT.out.r.h6 2
          have fy3 : w3.frozen? ⟨b6, 3, none⟩ = false := row_free HT.out.r.h6 3
          have fy4 : w3.frozen? ⟨b6, 4, none⟩ = false := row_free HT.out.r.h6 4
          have fy5 : w3.frozen? ⟨b6, 5, none⟩ = false := row_free HT.out.r.h6 5
          have fy6 : w3.frozen? ⟨b6, 6, none⟩ = false := row_free HT.out.r.h6 6
          have fy7 : w3.frozen? ⟨b6, 7, none⟩ = false := row_free HT.out.r.h6 7
          have fy8 : w3.frozen? ⟨b6, 8, none⟩ = false := row_free HT.out.r.h6 8
          have fu0 : w3.frozen? ⟨b8, 0, none⟩ = false := row_free HT.out.r.h8 0
          have fu1 : w3.frozen? ⟨b8, 1, none⟩ = false := row_free HT.out.r.h8 1
          have fu2 : w3.frozen? ⟨b8, 2, none⟩ = false := row_free HT.out.r.h8 2
          have fu3 : w3.frozen? ⟨b8, 3, none⟩ = false := row_free HT.out.r.h8 3
          have fu4 : w3.frozen? ⟨b8, 4, none⟩ = false := row_free HT.out.r.h8 4
          have fu5 : w3.frozen? ⟨b8, 5, none⟩ = false := row_free HT.out.r.h8 5
          have fu6 : w3.frozen? ⟨b8, 6, none⟩ = false := row_free HT.out.r.h8 6
          have fu7 : w3.frozen? ⟨b8, 7, none⟩ = false := row_free HT.out.r.h8 7
          have fu8 : w3.frozen? ⟨b8, 8, none⟩ = false := row_free HT.out.r.h8 8
          have fv0 : w3.frozen? ⟨b10, 0, none⟩ = false := row_free HT.out.r.h10 0
          have fv1 : w3.frozen? ⟨b10, 1, none⟩ = false := row_free HT.out.r.h10 1
          have fv2 : w3.frozen? ⟨b10, 2, none⟩ = false := row_free HT.out.r.h10 2
          have fv3 : w3.frozen? ⟨b10, 3, none⟩ = false := row_free HT.out.r.h10 3
          have fv4 : w3.frozen? ⟨b10, 4, none⟩ = false := row_free HT.out.r.h10 4
          have fv5 : w3.frozen? ⟨b10, 5, none⟩ = false := row_free HT.out.r.h10 5
          have fv6 : w3.frozen? ⟨b10, 6, none⟩ = false := row_free HT.out.r.h10 6
          have fv7 : w3.frozen? ⟨b10, 7, none⟩ = false := row_free HT.out.r.h10 7
          have p6 : b6 < w3.heap.size := lt_of_blk HT.out.r.h6
          have p8 : b8 < w3.heap.size := lt_of_blk HT.out.r.h8
          have p10 : b10 < w3.heap.size := lt_of_blk HT.out.r.h10
          have he1 : ∀ w, (Op.equalIn 10000 24 (.agg #[.int .u32 q0, .int .u32 q1, .int .u32 q2, .int .u32 q3, .int .u32 q4, .int .u32 q5, .int .u32 q6, .int .u32 q7]) (.agg #[.int .u32 r0, .int .u32 r1, .int .u32 r2, .int .u32 r3, .int .u32 r4, .int .u32 r5, .int .u32 r6, .int .u32 r7])).run Tryd.prog w = .ok false w := fun w => (eq8b 9998 q0 q1 q2 q3 q4 q5 q6 q7 r0 r1 r2 r3 r4 r5 r6 r7 w).trans (by rw [decide_eq_false (fun h => hR h.symm)])
          go_upto_region 8 with (fail)
          have hmm : Mod (fun k => k = b6) w3 (((((((((w3.setCell ⟨b6, 0, none⟩ (.int .u32 q0)).setCell ⟨b6, 1, none⟩ (.int .u32 q1)).setCell ⟨b6, 2, none⟩ (.int .u32 q2)).setCell ⟨b6, 3, none⟩ (.int .u32 q3)).setCell ⟨b6, 4, none⟩ (.int .u32 q4)).setCell ⟨b6, 5, none⟩ (.int .u32 q5)).setCell ⟨b6, 6, none⟩ (.int .u32 q6)).setCell ⟨b6, 7, none⟩ (.int .u32 q7)).setCell ⟨b6, 8, none⟩ (.int .u32 q8)) := mod_put9 (.int .u32 q0) (.int .u32 q1) (.int .u32 q2) (.int .u32 q3) (.int .u32 q4) (.int .u32 q5) (.int .u32 q6) (.int .u32 q7) (.int .u32 q8)
          have hw4 := HT.out.on hmm (set9 HT.out.r.h6 rfl (.int .u32 q0) (.int .u32 q1) (.int .u32 q2) (.int .u32 q3) (.int .u32 q4) (.int .u32 q5) (.int .u32 q6) (.int .u32 q7) (.int .u32 q8))
          have h134 := hmm.blk HT.out.h13 (by have := HT.out.l13; have := HT.out.l12; have := HT.out.r.l10; have := HT.out.r.l8; omega)
          generalize (((((((((w3.setCell ⟨b6, 0, none⟩ (.int .u32 q0)).setCell ⟨b6, 1, none⟩ (.int .u32 q1)).setCell ⟨b6, 2, none⟩ (.int .u32 q2)).setCell ⟨b6, 3, none⟩ (.int .u32 q3)).setCell ⟨b6, 4, none⟩ (.int .u32 q4)).setCell ⟨b6, 5, none⟩ (.int .u32 q5)).setCell ⟨b6, 6, none⟩ (.int .u32 q6)).setCell ⟨b6, 7, none⟩ (.int .u32 q7)).setCell ⟨b6, 8, none⟩ (.int .u32 q8)) = w4 at hw4 h134 hmm ⊢
          have HW4 := Lib.hid hw4
          clear y0 y1 y2 y3 y4 y5 y6 y7 y8 u0 u1 u2 u3 u4 u5 u6 u7 u8 v0 v1 v2 v3 v4 v5 v6 v7 m0 m1 m2 m3 m4 m5 m6 m7 m8 n0 n1 n2 n3 n4 n5 n6 n7 fy0 fy1 fy2 fy3 fy4 fy5 fy6 fy7 fy8 fu0 fu1 fu2 fu3 fu4 fu5 fu6 fu7 fu8 fv0 fv1 fv2 fv3 fv4 fv5 fv6 fv7 hw4 hmm p6 p8 p10 HT
          have y0 := row_cell HW4.out.h6 0
          have y1 := row_cell HW4.out.h6 1
          have y2 := row_cell HW4.out.h6 2
          have y3 := row_cell HW4.out.h6 3
          have y4 := row_cell HW4.out.h6 4
          have y5 := row_cell HW4.out.h6 5
          have y6 := row_cell HW4.out.h6 6
          have y7 := row_cell HW4.out.h6 7
          have y8 := row_cell HW4.out.h6 8
          have u0 := row_cell HW4.out.h8 0
          have u1 := row_cell HW4.out.h8 1
          have u2 := row_cell HW4.out.h8 2
          have u3 := row_cell HW4.out.h8 3
          have u4 := row_cell HW4.out.h8 4
          have u5 := row_cell HW4.out.h8 5
          have u6 := row_cell HW4.out.h8 6
          have u7 := row_cell HW4.out.h8 7
          have u8 := row_cell HW4.out.h8 8
          have v0 := row_cell HW4.out.h10 0
          have v1 := row_cell HW4.out.h10 1
          have v2 := row_cell HW4.out.h10 2
          have v3 := row_cell HW4.out.h10 3
          have v4 := row_cell HW4.out.h10 4
          have v5 := row_cell HW4.out.h10 5
          have v6 := row_cell HW4.out.h10 6
          have v7 := row_cell HW4.out.h10 7
          have n0 := row_cell h134 0
          have n1 := row_cell h134 1
          have n2 := row_cell h134 2
          have n3 := row_cell h134 3
          have n4 := row_cell h134 4
          have n5 := row_cell h134 5
          have n6 := row_cell h134 6
          have n7 := row_cell h134 7
          simp only [List.getElem?_cons_zero, List.getElem?_cons_succ] at y0 y1 y2 y3 y4 y5 y6 y7 y8 u0 u1 u2 u3 u4 u5 u6 u7 u8 v0 v1 v2 v3 v4 v5 v6 v7 n0 n1 n2 n3 n4 n5 n6 n7
          clear h134
          have fu0 : w4.frozen? ⟨b8, 0, none⟩ = false := row_free HW4.out.h8 0
          have fu1 : w4.frozen? ⟨b8, 1, none⟩ = false := row_free HW4.out.h8 1
          have fu2 : w4.frozen? ⟨b8, 2, none⟩ = false := row_free HW4.out.h8 2
          have fu3 : w4.frozen? ⟨b8, 3, none⟩ = false := row_free HW4.out.h8 3
          have fu4 : w4.frozen? ⟨b8, 4, none⟩ = false := row_free HW4.out.h8 4
          have fu5 : w4.frozen? ⟨b8, 5, none⟩ = false := row_free HW4.out.h8 5
          have fu6 : w4.frozen? ⟨b8, 6, none⟩ = false := row_free HW4.out.h8 6
          have fu7 : w4.frozen? ⟨b8, 7, none⟩ = false := row_free HW4.out.h8 7
          have fu8 : w4.frozen? ⟨b8, 8, none⟩ = false := row_free HW4.out.h8 8
          have fv0 : w4.frozen? ⟨b10, 0, none⟩ = false := row_free HW4.out.h10 0
          have fv1 : w4.frozen? ⟨b10, 1, none⟩ = false := row_free HW4.out.h10 1
          have fv2 : w4.frozen? ⟨b10, 2, none⟩ = false := row_free HW4.out.h10 2
          have fv3 : w4.frozen? ⟨b10, 3, none⟩ = false := row_free HW4.out.h10 3
          have fv4 : w4.frozen? ⟨b10, 4, none⟩ = false := row_free HW4.out.h10 4
          have fv5 : w4.frozen? ⟨b10, 5, none⟩ = false := row_free HW4.out.h10 5
          have fv6 : w4.frozen? ⟨b10, 6, none⟩ = false := row_free HW4.out.h10 6
          have fv7 : w4.frozen? ⟨b10, 7, none⟩ = false := row_free HW4.out.h10 7
          have p8 : b8 < w4.heap.size := lt_of_blk HW4.out.h8
          have p10 : b10 < w4.heap.size := lt_of_blk HW4.out.h10
          go_upto_region 9 with (fail)
          go_region
          have hE1 : ((((((((((((((((((w4.setCell ⟨b8, 0, none⟩ (.int .u32 q0)).setCell ⟨b8, 1, none⟩ (.int .u32 q1)).setCell ⟨b8, 2, none⟩ (.int .u32 q2)).setCell ⟨b8, 3, none⟩ (.int .u32 q3)).setCell ⟨b8, 4, none⟩ (.int .u32 q4)).setCell ⟨b8, 5, none⟩ (.int .u32 q5)).setCell ⟨b8, 6, none⟩ (.int .u32 q6)).setCell ⟨b8, 7, none⟩ (.int .u32 q7)).setCell ⟨b8, 8, none⟩ (.int .u32 q8)).setCell ⟨b10, 0, none⟩ (.int .i64 sk)).setCell ⟨b10, 1, none⟩ (.int .u32 sc)).setCell ⟨b10, 2, none⟩ (.int .u32 s1)).setCell ⟨b10, 3, none⟩ (.int .u32 s2)).setCell ⟨b10, 4, none⟩ (.int .u32 s3)).setCell ⟨b10, 5, none⟩ (.int .u32 s4)).setCell ⟨b10, 6, none⟩ (.int .u32 s5)).setCell ⟨b10, 7, none⟩ (.int .i64 sy)).drew).heap[b8]? = some (.cells ([.int .u32 q0, .int .u32 q1, .int .u32 q2, .int .u32 q3, .int .u32 q4, .int .u32 q5, .int .u32 q6, .int .u32 q7, .int .u32 q8] : List Value).toArray 26 (0, 0)) := by
            have h := set9 HW4.out.h8 rfl (.int .u32 q0) (.int .u32 q1) (.int .u32 q2) (.int .u32 q3) (.int .u32 q4) (.int .u32 q5) (.int .u32 q6) (.int .u32 q7) (.int .u32 q8)
            exact blk_drew (blk_setCell (blk_setCell (blk_setCell (blk_setCell (blk_setCell (blk_setCell (blk_setCell (blk_setCell h n810 _) n810 _) n810 _) n810 _) n810 _) n810 _) n810 _) n810 _)
          have hE2 : ((((((((((((((((((w4.setCell ⟨b8, 0, none⟩ (.int .u32 q0)).setCell ⟨b8, 1, none⟩ (.int .u32 q1)).setCell ⟨b8, 2, none⟩ (.int .u32 q2)).setCell ⟨b8, 3, none⟩ (.int .u32 q3)).setCell ⟨b8, 4, none⟩ (.int .u32 q4)).setCell ⟨b8, 5, none⟩ (.int .u32 q5)).setCell ⟨b8, 6, none⟩ (.int .u32 q6)).setCell ⟨b8, 7, none⟩ (.int .u32 q7)).setCell ⟨b8, 8, none⟩ (.int .u32 q8)).setCell ⟨b10, 0, none⟩ (.int .i64 sk)).setCell ⟨b10, 1, none⟩ (.int .u32 sc)).setCell ⟨b10, 2, none⟩ (.int .u32 s1)).setCell ⟨b10, 3, none⟩ (.int .u32 s2)).setCell ⟨b10, 4, none⟩ (.int .u32 s3)).setCell ⟨b10, 5, none⟩ (.int .u32 s4)).setCell ⟨b10, 6, none⟩ (.int .u32 s5)).setCell ⟨b10, 7, none⟩ (.int .i64 sy)).drew).heap[b10]? = some (.cells ([.int .i64 sk, .int .u32 sc, .int .u32 s1, .int .u32 s2, .int .u32 s3, .int .u32 s4, .int .u32 s5, .int .i64 sy] : List Value).toArray 34 (0, 0)) := by
            refine blk_drew (set8 (w := (((((((((w4.setCell ⟨b8, 0, none⟩ (.int .u32 q0)).setCell ⟨b8, 1, none⟩ (.int .u32 q1)).setCell ⟨b8, 2, none⟩ (.int .u32 q2)).setCell ⟨b8, 3, none⟩ (.int .u32 q3)).setCell ⟨b8, 4, none⟩ (.int .u32 q4)).setCell ⟨b8, 5, none⟩ (.int .u32 q5)).setCell ⟨b8, 6, none⟩ (.int .u32 q6)).setCell ⟨b8, 7, none⟩ (.int .u32 q7)).setCell ⟨b8, 8, none⟩ (.int .u32 q8))) (L := [.int .i64 0, .int .u32 0, .int .u32 0, .int .u32 0, .int .u32 0, .int .u32 0, .int .u32 0, .int .i64 0]) ?_ rfl (.int .i64 sk) (.int .u32 sc) (.int .u32 s1) (.int .u32 s2) (.int .u32 s3) (.int .u32 s4) (.int .u32 s5) (.int .i64 sy))
            exact (blk_setCell (blk_setCell (blk_setCell (blk_setCell (blk_setCell (blk_setCell (blk_setCell (blk_setCell (blk_setCell HW4.out.h10 n810.symm _) n810.symm _) n810.symm _) n810.symm _) n810.symm _) n810.symm _) n810.symm _) n810.symm _) n810.symm _)
          have hend : Mod (fun k => k = b8 ∨ k = b10) w4 ((((((((((((((((((w4.setCell ⟨b8, 0, none⟩ (.int .u32 q0)).setCell ⟨b8, 1, none⟩ (.int .u32 q1)).setCell ⟨b8, 2, none⟩ (.int .u32 q2)).setCell ⟨b8, 3, none⟩ (.int .u32 q3)).setCell ⟨b8, 4, none⟩ (.int .u32 q4)).setCell ⟨b8, 5, none⟩ (.int .u32 q5)).setCell ⟨b8, 6, none⟩ (.int .u32 q6)).setCell ⟨b8, 7, none⟩ (.int .u32 q7)).setCell ⟨b8, 8, none⟩ (.int .u32 q8)).setCell ⟨b10, 0, none⟩ (.int .i64 sk)).setCell ⟨b10, 1, none⟩ (.int .u32 sc)).setCell ⟨b10, 2, none⟩ (.int .u32 s1)).setCell ⟨b10, 3, none⟩ (.int .u32 s2)).setCell ⟨b10, 4, none⟩ (.int .u32 s3)).setCell ⟨b10, 5, none⟩ (.int .u32 s4)).setCell ⟨b10, 6, none⟩ (.int .u32 s5)).setCell ⟨b10, 7, none⟩ (.int .i64 sy)).drew) := (((mod_put9 (.int .u32 q0) (.int .u32 q1) (.int .u32 q2) (.int .u32 q3) (.int .u32 q4) (.int .u32 q5) (.int .u32 q6) (.int .u32 q7) (.int .u32 q8)).mono (fun _ _ q => .inl q)).trans ((mod_put8 (.int .i64 sk) (.int .u32 sc) (.int .u32 s1) (.int .u32 s2) (.int .u32 s3) (.int .u32 s4) (.int .u32 s5) (.int .i64 sy)).mono (fun _ _ q => .inr q))).drew
          generalize (((((((((((((((((w4.setCell ⟨b8, 0, none⟩ (.int .u32 q0)).setCell ⟨b8, 1, none⟩ (.int .u32 q1)).setCell ⟨b8, 2, none⟩ (.int .u32 q2)).setCell ⟨b8, 3, none⟩ (.int .u32 q3)).setCell ⟨b8, 4, none⟩ (.int .u32 q4)).setCell ⟨b8, 5, none⟩ (.int .u32 q5)).setCell ⟨b8, 6, none⟩ (.int .u32 q6)).setCell ⟨b8, 7, none⟩ (.int .u32 q7)).setCell ⟨b8, 8, none⟩ (.int .u32 q8)).setCell ⟨b10, 0, none⟩ (.int .i64 sk)).setCell ⟨b10, 1, none⟩ (.int .u32 sc)).setCell ⟨b10, 2, none⟩ (.int .u32 s1)).setCell ⟨b10, 3, none⟩ (.int .u32 s2)).setCell ⟨b10, 4, none⟩ (.int .u32 s3)).setCell ⟨b10, 5, none⟩ (.int .u32 s4)).setCell ⟨b10, 6, none⟩ (.int .u32 s5)).setCell ⟨b10, 7, none⟩ (.int .i64 sy)).drew = wE at hE1 hE2 hend ⊢
          have e0 := row_cell hE1 0
          have e1 := row_cell hE1 1
          have e2 := row_cell hE1 2
          have e3 := row_cell hE1 3
          have e4 := row_cell hE1 4
          have e5 := row_cell hE1 5
          have e6 := row_cell hE1 6
          have e7 := row_cell hE1 7
          have e8 := row_cell hE1 8
          have g0 := row_cell hE2 0
          have g1 := row_cell hE2 1
          have g2 := row_cell hE2 2
          have g3 := row_cell hE2 3
          have g4 := row_cell hE2 4
          have g5 := row_cell hE2 5
          have g6 := row_cell hE2 6
          have g7 := row_cell hE2 7
          simp only [List.getElem?_cons_zero, List.getElem?_cons_succ] at e0 e1 e2 e3 e4 e5 e6 e7 e8 g0 g1 g2 g3 g4 g5 g6 g7
          go_wp2
          refine bodyPost_ret (v := .tuple #[.agg #[.int .u32 q0, .int .u32 q1, .int .u32 q2, .int .u32 q3, .int .u32 q4, .int .u32 q5, .int .u32 q6, .int .u32 q7, .int .u32 q8], .int .i64 (j + 1), .agg #[.int .i64 sk, .int .u32 sc, .int .u32 s1, .int .u32 s2, .int .u32 s3, .int .u32 s4, .int .u32 s5, .int .i64 sy]]) (by simp [results, Tryd.results10, go_sem, e0, e1, e2, e3, e4, e5, e6, e7, e8, g0, g1, g2, g3, g4, g5, g6, g7]) rfl ?_
          have hmE : Mod (One F) w wE := HW4.out.m.step hend (fun i hi q => by have := HW4.out.l6; have := HW4.out.l8; have := HW4.out.l10; rcases q with q | q <;> omega)
          have hpE : PhM wE B F _ := HW4.out.p.kept hend (fun q => by have := HW4.out.lB; have := HW4.out.l6; have := HW4.out.l8; have := HW4.out.l10; rcases q with q | q <;> omega) (fun q => by have := HW4.out.lF; have := HW4.out.l6; have := HW4.out.l8; have := HW4.out.l10; rcases q with q | q <;> omega)
          have ho := HSTOP.out hk
          subst ho
          exact ⟨rfl, hmE, hpE, ⟨⟨HOK.out.1, HOK.out.2.1, HOK.out.2.2.1, HOK.out.2.2.2⟩, HOK0.out⟩⟩
    · have dlt : decide ((j : Int) < N) = false := decide_eq_false hlt
      have HW := Lib.hid hw
      have hdone : out = (⟨[r0, r1, r2, r3, r4, r5, r6, r7], r8, goesS, S⟩, j) := by
        by_cases hjn : j = N.toNat
        · subst hjn; exact hi.done
        · exfalso; omega
      have HDONE := Lib.hid hdone
      have HOKD := Lib.hid (⟨hR, hp, hI, hl⟩ : _ ∧ _ ∧ _ ∧ _)
      have n810 : b8 ≠ b10 := by have := hw.l10; omega
      have x0 := row_cell hw.h6 0
      have x1 := row_cell hw.h6 1
      have x2 := row_cell hw.h6 2
      have x3 := row_cell hw.h6 3
      have x4 := row_cell hw.h6 4
      have x5 := row_cell hw.h6 5
      have x6 := row_cell hw.h6 6
      have x7 := row_cell hw.h6 7
      have x8 := row_cell hw.h6 8
      have u0 := row_cell hw.h8 0
      have u1 := row_cell hw.h8 1
      have u2 := row_cell hw.h8 2
      have u3 := row_cell hw.h8 3
      have u4 := row_cell hw.h8 4
      have u5 := row_cell hw.h8 5
      have u6 := row_cell hw.h8 6
      have u7 := row_cell hw.h8 7
      have u8 := row_cell hw.h8 8
      have v0 := row_cell hw.h10 0
      have v1 := row_cell hw.h10 1
      have v2 := row_cell hw.h10 2
      have v3 := row_cell hw.h10 3
      have v4 := row_cell hw.h10 4
      have v5 := row_cell hw.h10 5
      have v6 := row_cell hw.h10 6
      have v7 := row_cell hw.h10 7
      simp only [List.getElem?_cons_zero, List.getElem?_cons_succ] at x0 x1 x2 x3 x4 x5 x6 x7 x8 u0 u1 u2 u3 u4 u5 u6 u7 u8 v0 v1 v2 v3 v4 v5 v6 v7
      have fu0 : wr.frozen? ⟨b8, 0, none⟩ = false := row_free hw.h8 0
      have fu1 : wr.frozen? ⟨b8, 1, none⟩ = false := row_free hw.h8 1
      have fu2 : wr.frozen? ⟨b8, 2, none⟩ = false := row_free hw.h8 2
      have fu3 : wr.frozen? ⟨b8, 3, none⟩ = false := row_free hw.h8 3
      have fu4 : wr.frozen? ⟨b8, 4, none⟩ = false := row_free hw.h8 4
      have fu5 : wr.frozen? ⟨b8, 5, none⟩ = false := row_free hw.h8 5
      have fu6 : wr.frozen? ⟨b8, 6, none⟩ = false := row_free hw.h8 6
      have fu7 : wr.frozen? ⟨b8, 7, none⟩ = false := row_free hw.h8 7
      have fu8 : wr.frozen? ⟨b8, 8, none⟩ = false := row_free hw.h8 8
      have fv0 : wr.frozen? ⟨b10, 0, none⟩ = false := row_free hw.h10 0
      have fv1 : wr.frozen? ⟨b10, 1, none⟩ = false := row_free hw.h10 1
      have fv2 : wr.frozen? ⟨b10, 2, none⟩ = false := row_free hw.h10 2
      have fv3 : wr.frozen? ⟨b10, 3, none⟩ = false := row_free hw.h10 3
      have fv4 : wr.frozen? ⟨b10, 4, none⟩ = false := row_free hw.h10 4
      have fv5 : wr.frozen? ⟨b10, 5, none⟩ = false := row_free hw.h10 5
      have fv6 : wr.frozen? ⟨b10, 6, none⟩ = false := row_free hw.h10 6
      have fv7 : wr.frozen? ⟨b10, 7, none⟩ = false := row_free hw.h10 7
      have p8 : b8 < wr.heap.size := lt_of_blk hw.h8
      have p10 : b10 < wr.heap.size := lt_of_blk hw.h10
      clear hi hI hl hR hp hlt hj hw hdone
      go_upto_region 11 with (fail)
      have hE1 : ((((((((((((((((((wr.setCell ⟨b8, 0, none⟩ (.int .u32 r0)).setCell ⟨b8, 1, none⟩ (.int .u32 r1)).setCell ⟨b8, 2, none⟩ (.int .u32 r2)).setCell ⟨b8, 3, none⟩ (.int .u32 r3)).setCell ⟨b8, 4, none⟩ (.int .u32 r4)).setCell ⟨b8, 5, none⟩ (.int .u32 r5)).setCell ⟨b8, 6, none⟩ (.int .u32 r6)).setCell ⟨b8, 7, none⟩ (.int .u32 r7)).setCell ⟨b8, 8, none⟩ (.int .u32 r8)).setCell ⟨b10, 0, none⟩ (.int .i64 0)).setCell ⟨b10, 1, none⟩ (.int .u32 0)).setCell ⟨b10, 2, none⟩ (.int .u32 0)).setCell ⟨b10, 3, none⟩ (.int .u32 0)).setCell ⟨b10, 4, none⟩ (.int .u32 0)).setCell ⟨b10, 5, none⟩ (.int .u32 0)).setCell ⟨b10, 6, none⟩ (.int .u32 0)).setCell ⟨b10, 7, none⟩ (.int .i64 0))).heap[b8]? = some (.cells ([.int .u32 r0, .int .u32 r1, .int .u32 r2, .int .u32 r3, .int .u32 r4, .int .u32 r5, .int .u32 r6, .int .u32 r7, .int .u32 r8] : List Value).toArray 26 (0, 0)) := by
        have h := set9 HW.out.h8 rfl (.int .u32 r0) (.int .u32 r1) (.int .u32 r2) (.int .u32 r3) (.int .u32 r4) (.int .u32 r5) (.int .u32 r6) (.int .u32 r7) (.int .u32 r8)
        exact (blk_setCell (blk_setCell (blk_setCell (blk_setCell (blk_setCell (blk_setCell (blk_setCell (blk_setCell h n810 _) n810 _) n810 _) n810 _) n810 _) n810 _) n810 _) n810 _)
      have hE2 : ((((((((((((((((((wr.setCell ⟨b8, 0, none⟩ (.int .u32 r0)).setCell ⟨b8, 1, none⟩ (.int .u32 r1)).setCell ⟨b8, 2, none⟩ (.int .u32 r2)).setCell ⟨b8, 3, none⟩ (.int .u32 r3)).setCell ⟨b8, 4, none⟩ (.int .u32 r4)).setCell ⟨b8, 5, none⟩ (.int .u32 r5)).setCell ⟨b8, 6, none⟩ (.int .u32 r6)).setCell ⟨b8, 7, none⟩ (.int .u32 r7)).setCell ⟨b8, 8, none⟩ (.int .u32 r8)).setCell ⟨b10, 0, none⟩ (.int .i64 0)).setCell ⟨b10, 1, none⟩ (.int .u32 0)).setCell ⟨b10, 2, none⟩ (.int .u32 0)).setCell ⟨b10, 3, none⟩ (.int .u32 0)).setCell ⟨b10, 4, none⟩ (.int .u32 0)).setCell ⟨b10, 5, none⟩ (.int .u32 0)).setCell ⟨b10, 6, none⟩ (.int .u32 0)).setCell ⟨b10, 7, none⟩ (.int .i64 0))).heap[b10]? = some (.cells ([.int .i64 0, .int .u32 0, .int .u32 0, .int .u32 0, .int .u32 0, .int .u32 0, .int .u32 0, .int .i64 0] : List Value).toArray 34 (0, 0)) := by
        refine set8 (w := (((((((((wr.setCell ⟨b8, 0, none⟩ (.int .u32 r0)).setCell ⟨b8, 1, none⟩ (.int .u32 r1)).setCell ⟨b8, 2, none⟩ (.int .u32 r2)).setCell ⟨b8, 3, none⟩ (.int .u32 r3)).setCell ⟨b8, 4, none⟩ (.int .u32 r4)).setCell ⟨b8, 5, none⟩ (.int .u32 r5)).setCell ⟨b8, 6, none⟩ (.int .u32 r6)).setCell ⟨b8, 7, none⟩ (.int .u32 r7)).setCell ⟨b8, 8, none⟩ (.int .u32 r8))) (L := [.int .i64 0, .int .u32 0, .int .u32 0, .int .u32 0, .int .u32 0, .int .u32 0, .int .u32 0, .int .i64 0]) ?_ rfl (.int .i64 0) (.int .u32 0) (.int .u32 0) (.int .u32 0) (.int .u32 0) (.int .u32 0) (.int .u32 0) (.int .i64 0)
        exact (blk_setCell (blk_setCell (blk_setCell (blk_setCell (blk_setCell (blk_setCell (blk_setCell (blk_setCell (blk_setCell HW.out.h10 n810.symm _) n810.symm _) n810.symm _) n810.symm _) n810.symm _) n810.symm _) n810.symm _) n810.symm _) n810.symm _)
      have hend : Mod (fun k => k = b8 ∨ k = b10) wr ((((((((((((((((((wr.setCell ⟨b8, 0, none⟩ (.int .u32 r0)).setCell ⟨b8, 1, none⟩ (.int .u32 r1)).setCell ⟨b8, 2, none⟩ (.int .u32 r2)).setCell ⟨b8, 3, none⟩ (.int .u32 r3)).setCell ⟨b8, 4, none⟩ (.int .u32 r4)).setCell ⟨b8, 5, none⟩ (.int .u32 r5)).setCell ⟨b8, 6, none⟩ (.int .u32 r6)).setCell ⟨b8, 7, none⟩ (.int .u32 r7)).setCell ⟨b8, 8, none⟩ (.int .u32 r8)).setCell ⟨b10, 0, none⟩ (.int .i64 0)).setCell ⟨b10, 1, none⟩ (.int .u32 0)).setCell ⟨b10, 2, none⟩ (.int .u32 0)).setCell ⟨b10, 3, none⟩ (.int .u32 0)).setCell ⟨b10, 4, none⟩ (.int .u32 0)).setCell ⟨b10, 5, none⟩ (.int .u32 0)).setCell ⟨b10, 6, none⟩ (.int .u32 0)).setCell ⟨b10, 7, none⟩ (.int .i64 0))) := (((mod_put9 (.int .u32 r0) (.int .u32 r1) (.int .u32 r2) (.int .u32 r3) (.int .u32 r4) (.int .u32 r5) (.int .u32 r6) (.int .u32 r7) (.int .u32 r8)).mono (fun _ _ q => .inl q)).trans ((mod_put8 (.int .i64 0) (.int .u32 0) (.int .u32 0) (.int .u32 0) (.int .u32 0) (.int .u32 0) (.int .u32 0) (.int .i64 0)).mono (fun _ _ q => .inr q)))
      generalize (((((((((((((((((wr.setCell ⟨b8, 0, none⟩ (.int .u32 r0)).setCell ⟨b8, 1, none⟩ (.int .u32 r1)).setCell ⟨b8, 2, none⟩ (.int .u32 r2)).setCell ⟨b8, 3, none⟩ (.int .u32 r3)).setCell ⟨b8, 4, none⟩ (.int .u32 r4)).setCell ⟨b8, 5, none⟩ (.int .u32 r5)).setCell ⟨b8, 6, none⟩ (.int .u32 r6)).setCell ⟨b8, 7, none⟩ (.int .u32 r7)).setCell ⟨b8, 8, none⟩ (.int .u32 r8)).setCell ⟨b10, 0, none⟩ (.int .i64 0)).setCell ⟨b10, 1, none⟩ (.int .u32 0)).setCell ⟨b10, 2, none⟩ (.int .u32 0)).setCell ⟨b10, 3, none⟩ (.int .u32 0)).setCell ⟨b10, 4, none⟩ (.int .u32 0)).setCell ⟨b10, 5, none⟩ (.int .u32 0)).setCell ⟨b10, 6, none⟩ (.int .u32 0)).setCell ⟨b10, 7, none⟩ (.int .i64 0)) = wE at hE1 hE2 hend ⊢
      have e0 := row_cell hE1 0
      have e1 := row_cell hE1 1
      have e2 := row_cell hE1 2
      have e3 := row_cell hE1 3
      have e4 := row_cell hE1 4
      have e5 := row_cell hE1 5
      have e6 := row_cell hE1 6
      have e7 := row_cell hE1 7
      have e8 := row_cell hE1 8
      have g0 := row_cell hE2 0
      have g1 := row_cell hE2 1
      have g2 := row_cell hE2 2
      have g3 := row_cell hE2 3
      have g4 := row_cell hE2 4
      have g5 := row_cell hE2 5
      have g6 := row_cell hE2 6
      have g7 := row_cell hE2 7
      simp only [List.getElem?_cons_zero, List.getElem?_cons_succ] at e0 e1 e2 e3 e4 e5 e6 e7 e8 g0 g1 g2 g3 g4 g5 g6 g7
      go_wp2
      refine bodyPost_ret (v := .tuple #[.agg #[.int .u32 r0, .int .u32 r1, .int .u32 r2, .int .u32 r3, .int .u32 r4, .int .u32 r5, .int .u32 r6, .int .u32 r7, .int .u32 r8], .int .i64 j, .agg #[.int .i64 0, .int .u32 0, .int .u32 0, .int .u32 0, .int .u32 0, .int .u32 0, .int .u32 0, .int .i64 0]]) (by simp [results, Tryd.results10, go_sem, e0, e1, e2, e3, e4, e5, e6, e7, e8, g0, g1, g2, g3, g4, g5, g6, g7]) rfl ?_
      have hmE : Mod (One F) w wE := HW.out.m.step hend (fun i hi q => by have := HW.out.l6; have := HW.out.l8; have := HW.out.l10; rcases q with q | q <;> omega)
      have hpE : PhM wE B F _ := HW.out.p.kept hend (fun q => by have := HW.out.lB; have := HW.out.l6; have := HW.out.l8; have := HW.out.l10; rcases q with q | q <;> omega) (fun q => by have := HW.out.lF; have := HW.out.l6; have := HW.out.l8; have := HW.out.l10; rcases q with q | q <;> omega)
      have ho := HDONE.out
      subst ho
      exact ⟨rfl, hmE, hpE, ⟨⟨HOKD.out.1, HOKD.out.2.1, HOKD.out.2.2.1, HOKD.out.2.2.2⟩, fun _ => rfl⟩⟩
end Go.Proofs.YtlbebneblmgdcaaDoor
