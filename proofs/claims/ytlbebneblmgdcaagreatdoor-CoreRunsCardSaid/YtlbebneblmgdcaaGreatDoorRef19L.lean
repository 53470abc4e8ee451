/- tenementref19.memory: loads. (Printed by wip/gen_refm.py.) -/
import Derived.Test.YtlbebneblmgdcaaGreatDoorRef19M
namespace Go.Proofs.YtlbebneblmgdcaaGreatDoor
open Go.RowKit
set_option maxRecDepth 100000

theorem keepD {w : World} {b0 a g j : Nat} {v u : Value} (hg : g ≠ b0) (h : w.cell? ⟨g, j, none⟩ = some u) : (w.setCell ⟨b0, a, none⟩ v).drew.cell? ⟨g, j, none⟩ = some u := by
  have hm : Mod (fun k => k = b0) w (w.setCell ⟨b0, a, none⟩ v).drew := (mod_at a v).drew
  generalize (w.setCell ⟨b0, a, none⟩ v).drew = w' at hm
  exact (World.cell?_of_block (w := w) (hm.block g (World.block_lt_of_cell? w _ h) hg)).trans h
theorem list8' {l : List Int} (h : l.length = 8) : ∃ s0 s1 s2 s3 s4 s5 s6 s7, l = [s0, s1, s2, s3, s4, s5, s6, s7] := by
  match l, h with
  | [s0, s1, s2, s3, s4, s5, s6, s7], _ => exact ⟨s0, s1, s2, s3, s4, s5, s6, s7, rfl⟩
theorem regs9 {w : World} {b : Nat} {r0 r1 r2 r3 r4 r5 r6 r7 r8 : Int} (h : w.heap[b]? = some (.cells ([.int .u32 r0, .int .u32 r1, .int .u32 r2, .int .u32 r3, .int .u32 r4, .int .u32 r5, .int .u32 r6, .int .u32 r7, .int .u32 r8] : List Value).toArray 26 (0, 0))) {k : Nat} (hk : k < 8) : w.cell? ⟨b, k, none⟩ = some (.int .u32 ([r0, r1, r2, r3, r4, r5, r6, r7].getD k 0)) := by
  rw [row_cell h]
  rcases (show k = 0 ∨ k = 1 ∨ k = 2 ∨ k = 3 ∨ k = 4 ∨ k = 5 ∨ k = 6 ∨ k = 7 by omega) with rfl | rfl | rfl | rfl | rfl | rfl | rfl | rfl <;> rfl
theorem set9regs {w : World} {b : Nat} {r0 r1 r2 r3 r4 r5 r6 r7 r8 s0 s1 s2 s3 s4 s5 s6 s7 v : Int} (h : w.heap[b]? = some (.cells ([.int .u32 r0, .int .u32 r1, .int .u32 r2, .int .u32 r3, .int .u32 r4, .int .u32 r5, .int .u32 r6, .int .u32 r7, .int .u32 r8] : List Value).toArray 26 (0, 0))) {x : Nat} (hx : x < 8) (hs : [r0, r1, r2, r3, r4, r5, r6, r7].set x v = [s0, s1, s2, s3, s4, s5, s6, s7]) :
    (w.setCell ⟨b, x, none⟩ (.int .u32 v)).heap[b]? = some (.cells ([.int .u32 s0, .int .u32 s1, .int .u32 s2, .int .u32 s3, .int .u32 s4, .int .u32 s5, .int .u32 s6, .int .u32 s7, .int .u32 r8] : List Value).toArray 26 (0, 0)) := by
  have h2 := row_set h x (.int .u32 v)
  have e : ([.int .u32 r0, .int .u32 r1, .int .u32 r2, .int .u32 r3, .int .u32 r4, .int .u32 r5, .int .u32 r6, .int .u32 r7, .int .u32 r8] : List Value).set x (.int .u32 v) = [.int .u32 s0, .int .u32 s1, .int .u32 s2, .int .u32 s3, .int .u32 s4, .int .u32 s5, .int .u32 s6, .int .u32 s7, .int .u32 r8] := by
    rcases (show x = 0 ∨ x = 1 ∨ x = 2 ∨ x = 3 ∨ x = 4 ∨ x = 5 ∨ x = 6 ∨ x = 7 by omega) with rfl | rfl | rfl | rfl | rfl | rfl | rfl | rfl <;>
      (simp only [List.set_cons_zero, List.set_cons_succ, List.cons.injEq, and_true] at hs ⊢; simp [hs])
  rw [e] at h2
  exact h2

set_option maxHeartbeats 8000000 in
theorem rload_13 {K : RfK} {S : List Fr} (root : Int) (a b : Nat) (c : Int) (g off cp : Nat) (r0 r1 r2 r3 r4 r5 r6 r7 r8 : Int) (w : World) (hm : RfM w K S) (hb : b < 8) (ha : a < 8) (h4 : 4 ≤ cp) (hreg : ∀ x ∈ [r0, r1, r2, r3, r4, r5, r6, r7], 0 ≤ x ∧ x ≤ 4294967295)
    (hu0 : w.cell? ⟨g, off, none⟩ = some (.int .u8 13)) (hu1 : w.cell? ⟨g, off + 1, none⟩ = some (.int .u8 a)) (hu2 : w.cell? ⟨g, off + 2, none⟩ = some (.int .u8 b)) (hu3 : w.cell? ⟨g, off + 3, none⟩ = some (.int .u8 c)) :
    Calls Tryz.prog 33 #[.pointer (some ⟨K.R, 0, none⟩), .int .i64 root, .agg #[.int .u32 r0, .int .u32 r1, .int .u32 r2, .int .u32 r3, .int .u32 r4, .int .u32 r5, .int .u32 r6, .int .u32 r7, .int .u32 r8], .slice (some ⟨g, off, none⟩) 4 cp] w fun e w' => e = .returned (.tuple #[cpuR (loadO S root [r0, r1, r2, r3, r4, r5, r6, r7] r8 a b c 4).R r8, .int .i64 (fetchR S root (memAt [r0, r1, r2, r3, r4, r5, r6, r7] b c) 4).1]) ∧ Mod No w w' := by
  obtain ⟨x, hx⟩ : ∃ x, x = [r0, r1, r2, r3, r4, r5, r6, r7].getD b 0 := ⟨_, rfl⟩
  have hxr : 0 ≤ x ∧ x ≤ 4294967295 := by rw [hx]; exact hreg _ (regs_mem (R := [r0, r1, r2, r3, r4, r5, r6, r7]) rfl hb)
  have hat : (x + c) % 4294967296 % 1048576 = memAt [r0, r1, r2, r3, r4, r5, r6, r7] b c := by
    unfold memAt
    rw [← hx]; omega
  have hat0 : 0 ≤ memAt [r0, r1, r2, r3, r4, r5, r6, r7] b c ∧ memAt [r0, r1, r2, r3, r4, r5, r6, r7] b c < 1048576 := by unfold memAt; omega
  have hl : (loadO S root [r0, r1, r2, r3, r4, r5, r6, r7] r8 a b c 4).R = if (fetchR S root (memAt [r0, r1, r2, r3, r4, r5, r6, r7] b c) 4).1 = 0 then [r0, r1, r2, r3, r4, r5, r6, r7].set a (numR (fetchR S root (memAt [r0, r1, r2, r3, r4, r5, r6, r7] b c) 4).2) else [r0, r1, r2, r3, r4, r5, r6, r7] := by
    unfold loadO; split <;> rfl
  rw [hl]
  generalize memAt [r0, r1, r2, r3, r4, r5, r6, r7] b c = at' at hat hat0 ⊢
  have HAT := Lib.hid hat
  have HFR := Lib.hid (fetchR_range (root := root) (va := at') (n := 4) hm.ok)
  have HFS : Hid ((fetchR S root at' 4).2.length ≤ 256) := Lib.hid fetchR_small
  have HFL : Hid ((fetchR S root at' 4).1 = 0 → ((fetchR S root at' 4).2.length : Int) = 4) := Lib.hid fetchR_len
  have HFE : Hid (∀ w' , Mod No w w' → Calls Tryz.prog 29 #[.pointer (some ⟨K.R, 0, none⟩), .int .i64 root, .int .u32 at', .int .i64 4] w' (OwnB w' (fetchR S root at' 4).1 (fetchR S root at' 4).2)) := fun w' hm' => rfetchR root at' 4 w' (hm.keptNo hm') hat0.1 (by omega) (by omega)
  generalize (fetchR S root at' 4).1 = er at HFE HFL ⊢
  generalize (fetchR S root at' 4).2 = bs at HFE HFL HFR HFS ⊢
  generalize hout : (if er = 0 then [r0, r1, r2, r3, r4, r5, r6, r7].set a (numR bs) else [r0, r1, r2, r3, r4, r5, r6, r7]) = R'
  have HOUT := Lib.hid hout
  have HX := Lib.hid hx
  have ib : (b : Int) < 8 := by omega
  have ia : (a : Int) < 8 := by omega
  have i4 : (4 : Int) ≤ cp := by omega
  have HU : Hid (w.cell? ⟨g, off, none⟩ = some (.int .u8 13) ∧ w.cell? ⟨g, off + 1, none⟩ = some (.int .u8 a) ∧ w.cell? ⟨g, off + 2, none⟩ = some (.int .u8 b) ∧ w.cell? ⟨g, off + 3, none⟩ = some (.int .u8 c)) := ⟨hu0, hu1, hu2, hu3⟩
  have hgw : g < w.heap.size := World.block_lt_of_cell? w _ hu0
  clear hout hx hat hm hreg hl hu0 hu1 hu2 hu3
  go_enter Tryz.func33, Tryz.ntmps33
  go_upto_region 1 with (fail)
  have h0 : ((w.alloc (.cells #[.int .u32 r0, .int .u32 r1, .int .u32 r2, .int .u32 r3, .int .u32 r4, .int .u32 r5, .int .u32 r6, .int .u32 r7, .int .u32 r8] 26)).alloc (.cells #[.int .u32 0, .int .u32 0, .int .u32 0, .int .u32 0, .int .u32 0, .int .u32 0, .int .u32 0, .int .u32 0, .int .u32 0] 26)).heap[w.heap.size]? = some (.cells ([.int .u32 r0, .int .u32 r1, .int .u32 r2, .int .u32 r3, .int .u32 r4, .int .u32 r5, .int .u32 r6, .int .u32 r7, .int .u32 r8] : List Value).toArray 26 (0, 0)) := blk_alloc (heap_alloc_new w _) _
  have h1 : ((w.alloc (.cells #[.int .u32 r0, .int .u32 r1, .int .u32 r2, .int .u32 r3, .int .u32 r4, .int .u32 r5, .int .u32 r6, .int .u32 r7, .int .u32 r8] 26)).alloc (.cells #[.int .u32 0, .int .u32 0, .int .u32 0, .int .u32 0, .int .u32 0, .int .u32 0, .int .u32 0, .int .u32 0, .int .u32 0] 26)).heap[w.heap.size + 1]? = some (.cells ([.int .u32 0, .int .u32 0, .int .u32 0, .int .u32 0, .int .u32 0, .int .u32 0, .int .u32 0, .int .u32 0, .int .u32 0] : List Value).toArray 26 (0, 0)) := by
    have := heap_alloc_new (w.alloc (.cells #[.int .u32 r0, .int .u32 r1, .int .u32 r2, .int .u32 r3, .int .u32 r4, .int .u32 r5, .int .u32 r6, .int .u32 r7, .int .u32 r8] 26)) (.cells #[.int .u32 0, .int .u32 0, .int .u32 0, .int .u32 0, .int .u32 0, .int .u32 0, .int .u32 0, .int .u32 0, .int .u32 0] 26)
    rwa [World.size_alloc] at this
  have hm1 : Mod No w ((w.alloc (.cells #[.int .u32 r0, .int .u32 r1, .int .u32 r2, .int .u32 r3, .int .u32 r4, .int .u32 r5, .int .u32 r6, .int .u32 r7, .int .u32 r8] 26)).alloc (.cells #[.int .u32 0, .int .u32 0, .int .u32 0, .int .u32 0, .int .u32 0, .int .u32 0, .int .u32 0, .int .u32 0, .int .u32 0] 26)) := ((Mod.refl No w).alloc _).alloc _
  generalize (w.alloc (.cells #[.int .u32 r0, .int .u32 r1, .int .u32 r2, .int .u32 r3, .int .u32 r4, .int .u32 r5, .int .u32 r6, .int .u32 r7, .int .u32 r8] 26)).alloc (.cells #[.int .u32 0, .int .u32 0, .int .u32 0, .int .u32 0, .int .u32 0, .int .u32 0, .int .u32 0, .int .u32 0, .int .u32 0] 26) = w1 at h0 h1 hm1 ⊢
  have HB0 : Hid (w.heap.size ≤ w.heap.size ∧ w.heap.size ≤ w.heap.size + 1) := ⟨Nat.le_refl _, by omega⟩
  have n01 : w.heap.size ≠ w.heap.size + 1 := by omega
  have hg0 : g ≠ w.heap.size := by omega
  generalize w.heap.size + 1 = b1 at h1 n01 HB0 ⊢
  obtain ⟨b0, hb0⟩ : ∃ b0, b0 = w.heap.size := ⟨_, rfl⟩
  rw [← hb0] at h0 n01 hg0 ⊢
  have HBE := Lib.hid hb0
  have HH0 := Lib.hid h0
  have HH1 := Lib.hid h1
  have HM1 := Lib.hid hm1
  have hrb : w1.cell? ⟨b0, b, none⟩ = some (.int .u32 x) := by rw [HX.out]; exact regs9 h0 hb
  have cells : ∀ w', Mod No w w' → w'.cell? ⟨g, off, none⟩ = some (.int .u8 13) ∧ w'.cell? ⟨g, off + 1, none⟩ = some (.int .u8 a) ∧ w'.cell? ⟨g, off + 2, none⟩ = some (.int .u8 b) ∧ w'.cell? ⟨g, off + 3, none⟩ = some (.int .u8 c) := fun w' hm' =>
    ⟨(World.cell?_of_block (w := w) (hm'.block g hgw (fun q => q))).trans HU.out.1, (World.cell?_of_block (w := w) (hm'.block g hgw (fun q => q))).trans HU.out.2.1, (World.cell?_of_block (w := w) (hm'.block g hgw (fun q => q))).trans HU.out.2.2.1, (World.cell?_of_block (w := w) (hm'.block g hgw (fun q => q))).trans HU.out.2.2.2⟩
  have HC := Lib.hid cells
  obtain ⟨u0, u1, u2, u3⟩ := cells w1 hm1
  clear h0 h1 hm1 cells hb0
  go_quiet (fail)
  rw [HAT.out]
  have hmq : Mod No w1 (w1.drewN nq) := (Mod.refl No w1).drewN nq
  generalize w1.drewN nq = w2 at hmq ⊢
  have HQ0 := Lib.hid (hmq.blk HH0.out (fun q => q))
  have HQ1 := Lib.hid (hmq.blk HH1.out (fun q => q))
  have HM2 := Lib.hid (HM1.out.trans hmq)
  clear u0 u1 u2 u3 hrb HH0 HH1 HM1 hmq HAT
  obtain ⟨u0, u1, u2, u3⟩ := HC.out w2 HM2.out
  go_wp2_with fail
  refine (HFE.out _ HM2.out).mono ?_
  rintro e w3 ⟨q, k, cq, rfl, hm3, hown⟩
  have HM3 := Lib.hid hm3
  have HOWN := Lib.hid hown
  have HR0 := Lib.hid (hm3.blk HQ0.out (fun q => q))
  have HR1 := Lib.hid (hm3.blk HQ1.out (fun q => q))
  have HMW := Lib.hid (HM2.out.trans hm3)
  clear u0 u1 u2 u3 HQ0 HQ1 hm3 hown HFE
  obtain ⟨u0, u1, u2, u3⟩ := HC.out w3 HMW.out
  by_cases he : er = 0
  · subst he
    have hre : R' = [r0, r1, r2, r3, r4, r5, r6, r7].set a (numR bs) := by rw [← HOUT.out]; exact if_pos rfl
    obtain ⟨s0, s1, s2, s3, s4, s5, s6, s7, hs⟩ := list8' (l := [r0, r1, r2, r3, r4, r5, r6, r7].set a (numR bs)) (by simp)
    have HRE : Hid (R' = [s0, s1, s2, s3, s4, s5, s6, s7]) := hre.trans hs
    have HSS := Lib.hid hs
    obtain ⟨hk, hby, _⟩ := Byt.ofOwn HOWN.out HFR.out (Nat.le_trans HFS.out (by omega))
    have hl4 : bs.length ≤ 4 := by have := HFL.out rfl; omega
    have HNB : Hid (∀ w', Mod No w3 w' → Calls Tryz.prog 66 #[.slice q bs.length cq] w' fun e w2 => e = .returned (.int .u32 (numR bs)) ∧ w' = w2) := fun w' hm' => rnumber_any q bs cq w' (hby.kept hm') hl4
    rw [← hk] at HNB
    have ra : ∃ v, w3.cell? ⟨b0, a, none⟩ = some v := ⟨_, regs9 HR0.out ha⟩
    obtain ⟨va, ra⟩ := ra
    have fa : w3.frozen? ⟨b0, a, none⟩ = false := row_free HR0.out a
    have pb : b0 < w3.heap.size := lt_of_blk HR0.out
    have hS1 : (fun w' : World => w'.cell? ⟨g, off + 1, none⟩ = some (.int .u8 a)) w3 := u1
    have HF0 : Hid (Mod No w3 w3.drew) := (Mod.refl No w3).drew
    clear hre hs hby hk hl4 u0 u2 u3 HC HOWN HFR HFS HFL
    go_upto_region 8 with (fail)
    go_region_held3 (fun w' : World => w'.cell? ⟨g, off + 1, none⟩ = some (.int .u8 a)) (first | exact hS1 | exact keepD hg0 hS1) ((go_at_call 66; refine (HNB.out _ HF0.out).mono ?_; rintro e w4 ⟨rfl, rfl⟩))
    have F0 := set9regs HR0.out ha HSS.out
    have F1 := blk_setCell HR1.out n01.symm (p := ⟨b0, a, none⟩) (.int .u32 (numR bs))
    have hmz : Mod (fun k => k = b0) w3 (w3.setCell ⟨b0, a, none⟩ (.int .u32 (numR bs))) := mod_at a _
    generalize w3.setCell ⟨b0, a, none⟩ (.int .u32 (numR bs)) = w4 at F0 F1 hmz ⊢
    have F0 : w4.drew.heap[b0]? = _ := F0
    have F1 : w4.drew.heap[b1]? = _ := F1
    have hmz := hmz.drew
    generalize w4.drew = w5 at F0 F1 hmz ⊢
    have HMW := Lib.hid (HMW.out.step hmz (fun i hi q => by have := HBE.out; omega))
    clear hmz ra fa pb hS1 HR0 HR1 HSS
    have x0 := row_cell F0 0
    have x1 := row_cell F0 1
    have x2 := row_cell F0 2
    have x3 := row_cell F0 3
    have x4 := row_cell F0 4
    have x5 := row_cell F0 5
    have x6 := row_cell F0 6
    have x7 := row_cell F0 7
    have x8 := row_cell F0 8
    have y0 := row_cell F1 0
    have y1 := row_cell F1 1
    have y2 := row_cell F1 2
    have y3 := row_cell F1 3
    have y4 := row_cell F1 4
    have y5 := row_cell F1 5
    have y6 := row_cell F1 6
    have y7 := row_cell F1 7
    have y8 := row_cell F1 8
    simp only [List.getElem?_cons_zero, List.getElem?_cons_succ] at x0 x1 x2 x3 x4 x5 x6 x7 x8 y0 y1 y2 y3 y4 y5 y6 y7 y8
    have f0 : w5.frozen? ⟨b1, 0, none⟩ = false := row_free F1 0
    have f1 : w5.frozen? ⟨b1, 1, none⟩ = false := row_free F1 1
    have f2 : w5.frozen? ⟨b1, 2, none⟩ = false := row_free F1 2
    have f3 : w5.frozen? ⟨b1, 3, none⟩ = false := row_free F1 3
    have f4 : w5.frozen? ⟨b1, 4, none⟩ = false := row_free F1 4
    have f5 : w5.frozen? ⟨b1, 5, none⟩ = false := row_free F1 5
    have f6 : w5.frozen? ⟨b1, 6, none⟩ = false := row_free F1 6
    have f7 : w5.frozen? ⟨b1, 7, none⟩ = false := row_free F1 7
    have f8 : w5.frozen? ⟨b1, 8, none⟩ = false := row_free F1 8
    have p1 : b1 < w5.heap.size := lt_of_blk F1
    clear F0
    go_wp2
    have hE : (((((((((w5.setCell ⟨b1, 0, none⟩ (.int .u32 s0)).setCell ⟨b1, 1, none⟩ (.int .u32 s1)).setCell ⟨b1, 2, none⟩ (.int .u32 s2)).setCell ⟨b1, 3, none⟩ (.int .u32 s3)).setCell ⟨b1, 4, none⟩ (.int .u32 s4)).setCell ⟨b1, 5, none⟩ (.int .u32 s5)).setCell ⟨b1, 6, none⟩ (.int .u32 s6)).setCell ⟨b1, 7, none⟩ (.int .u32 s7)).setCell ⟨b1, 8, none⟩ (.int .u32 r8)).heap[b1]? = some (.cells ([.int .u32 s0, .int .u32 s1, .int .u32 s2, .int .u32 s3, .int .u32 s4, .int .u32 s5, .int .u32 s6, .int .u32 s7, .int .u32 r8] : List Value).toArray 26 (0, 0)) := set9 F1 rfl (.int .u32 s0) (.int .u32 s1) (.int .u32 s2) (.int .u32 s3) (.int .u32 s4) (.int .u32 s5) (.int .u32 s6) (.int .u32 s7) (.int .u32 r8)
    have hend : Mod (fun k => k = b1) w5 (((((((((w5.setCell ⟨b1, 0, none⟩ (.int .u32 s0)).setCell ⟨b1, 1, none⟩ (.int .u32 s1)).setCell ⟨b1, 2, none⟩ (.int .u32 s2)).setCell ⟨b1, 3, none⟩ (.int .u32 s3)).setCell ⟨b1, 4, none⟩ (.int .u32 s4)).setCell ⟨b1, 5, none⟩ (.int .u32 s5)).setCell ⟨b1, 6, none⟩ (.int .u32 s6)).setCell ⟨b1, 7, none⟩ (.int .u32 s7)).setCell ⟨b1, 8, none⟩ (.int .u32 r8)) := (Mod.put (Mod.put (Mod.put (Mod.put (Mod.put (Mod.put (Mod.put (Mod.put (Mod.put (Mod.refl (fun k => k = b1) _) rfl 0 _) rfl 1 _) rfl 2 _) rfl 3 _) rfl 4 _) rfl 5 _) rfl 6 _) rfl 7 _) rfl 8 _)
    generalize (((((((((w5.setCell ⟨b1, 0, none⟩ (.int .u32 s0)).setCell ⟨b1, 1, none⟩ (.int .u32 s1)).setCell ⟨b1, 2, none⟩ (.int .u32 s2)).setCell ⟨b1, 3, none⟩ (.int .u32 s3)).setCell ⟨b1, 4, none⟩ (.int .u32 s4)).setCell ⟨b1, 5, none⟩ (.int .u32 s5)).setCell ⟨b1, 6, none⟩ (.int .u32 s6)).setCell ⟨b1, 7, none⟩ (.int .u32 s7)).setCell ⟨b1, 8, none⟩ (.int .u32 r8)) = wE at hE hend ⊢
    have e0 := row_cell hE 0
    have e1 := row_cell hE 1
    have e2 := row_cell hE 2
    have e3 := row_cell hE 3
    have e4 := row_cell hE 4
    have e5 := row_cell hE 5
    have e6 := row_cell hE 6
    have e7 := row_cell hE 7
    have e8 := row_cell hE 8
    simp only [List.getElem?_cons_zero, List.getElem?_cons_succ] at e0 e1 e2 e3 e4 e5 e6 e7 e8
    refine bodyPost_ret (v := .tuple #[.agg #[.int .u32 s0, .int .u32 s1, .int .u32 s2, .int .u32 s3, .int .u32 s4, .int .u32 s5, .int .u32 s6, .int .u32 s7, .int .u32 r8], .int .i64 0]) (by simp [results, Tryz.results33, go_sem, e0, e1, e2, e3, e4, e5, e6, e7, e8]) rfl ?_
    rw [HRE.out]
    exact ⟨rfl, HMW.out.step hend (fun i hi q => by have := HB0.out; omega)⟩
  · have d1 : (er == 0) = false := beq_eq_false_iff_ne.2 he
    have d2 : (er != 0) = true := bne_iff_ne.2 he
    have hre : R' = [r0, r1, r2, r3, r4, r5, r6, r7] := by rw [← HOUT.out]; exact if_neg he
    have HRE := Lib.hid hre
    have F0 := HR0.out
    have F1 := HR1.out
    clear hre he HOUT
    have x0 := row_cell F0 0
    have x1 := row_cell F0 1
    have x2 := row_cell F0 2
    have x3 := row_cell F0 3
    have x4 := row_cell F0 4
    have x5 := row_cell F0 5
    have x6 := row_cell F0 6
    have x7 := row_cell F0 7
    have x8 := row_cell F0 8
    have y0 := row_cell F1 0
    have y1 := row_cell F1 1
    have y2 := row_cell F1 2
    have y3 := row_cell F1 3
    have y4 := row_cell F1 4
    have y5 := row_cell F1 5
    have y6 := row_cell F1 6
    have y7 := row_cell F1 7
    have y8 := row_cell F1 8
    simp only [List.getElem?_cons_zero, List.getElem?_cons_succ] at x0 x1 x2 x3 x4 x5 x6 x7 x8 y0 y1 y2 y3 y4 y5 y6 y7 y8
    have f0 : w3.frozen? ⟨b1, 0, none⟩ = false := row_free F1 0
    have f1 : w3.frozen? ⟨b1, 1, none⟩ = false := row_free F1 1
    have f2 : w3.frozen? ⟨b1, 2, none⟩ = false := row_free F1 2
    have f3 : w3.frozen? ⟨b1, 3, none⟩ = false := row_free F1 3
    have f4 : w3.frozen? ⟨b1, 4, none⟩ = false := row_free F1 4
    have f5 : w3.frozen? ⟨b1, 5, none⟩ = false := row_free F1 5
    have f6 : w3.frozen? ⟨b1, 6, none⟩ = false := row_free F1 6
    have f7 : w3.frozen? ⟨b1, 7, none⟩ = false := row_free F1 7
    have f8 : w3.frozen? ⟨b1, 8, none⟩ = false := row_free F1 8
    have p1 : b1 < w3.heap.size := lt_of_blk F1
    clear F0
    go_wp2
    have hE : (((((((((w3.setCell ⟨b1, 0, none⟩ (.int .u32 r0)).setCell ⟨b1, 1, none⟩ (.int .u32 r1)).setCell ⟨b1, 2, none⟩ (.int .u32 r2)).setCell ⟨b1, 3, none⟩ (.int .u32 r3)).setCell ⟨b1, 4, none⟩ (.int .u32 r4)).setCell ⟨b1, 5, none⟩ (.int .u32 r5)).setCell ⟨b1, 6, none⟩ (.int .u32 r6)).setCell ⟨b1, 7, none⟩ (.int .u32 r7)).setCell ⟨b1, 8, none⟩ (.int .u32 r8)).heap[b1]? = some (.cells ([.int .u32 r0, .int .u32 r1, .int .u32 r2, .int .u32 r3, .int .u32 r4, .int .u32 r5, .int .u32 r6, .int .u32 r7, .int .u32 r8] : List Value).toArray 26 (0, 0)) := set9 F1 rfl (.int .u32 r0) (.int .u32 r1) (.int .u32 r2) (.int .u32 r3) (.int .u32 r4) (.int .u32 r5) (.int .u32 r6) (.int .u32 r7) (.int .u32 r8)
    have hend : Mod (fun k => k = b1) w3 (((((((((w3.setCell ⟨b1, 0, none⟩ (.int .u32 r0)).setCell ⟨b1, 1, none⟩ (.int .u32 r1)).setCell ⟨b1, 2, none⟩ (.int .u32 r2)).setCell ⟨b1, 3, none⟩ (.int .u32 r3)).setCell ⟨b1, 4, none⟩ (.int .u32 r4)).setCell ⟨b1, 5, none⟩ (.int .u32 r5)).setCell ⟨b1, 6, none⟩ (.int .u32 r6)).setCell ⟨b1, 7, none⟩ (.int .u32 r7)).setCell ⟨b1, 8, none⟩ (.int .u32 r8)) := (Mod.put (Mod.put (Mod.put (Mod.put (Mod.put (Mod.put (Mod.put (Mod.put (Mod.put (Mod.refl (fun k => k = b1) _) rfl 0 _) rfl 1 _) rfl 2 _) rfl 3 _) rfl 4 _) rfl 5 _) rfl 6 _) rfl 7 _) rfl 8 _)
    generalize (((((((((w3.setCell ⟨b1, 0, none⟩ (.int .u32 r0)).setCell ⟨b1, 1, none⟩ (.int .u32 r1)).setCell ⟨b1, 2, none⟩ (.int .u32 r2)).setCell ⟨b1, 3, none⟩ (.int .u32 r3)).setCell ⟨b1, 4, none⟩ (.int .u32 r4)).setCell ⟨b1, 5, none⟩ (.int .u32 r5)).setCell ⟨b1, 6, none⟩ (.int .u32 r6)).setCell ⟨b1, 7, none⟩ (.int .u32 r7)).setCell ⟨b1, 8, none⟩ (.int .u32 r8)) = wE at hE hend ⊢
    have e0 := row_cell hE 0
    have e1 := row_cell hE 1
    have e2 := row_cell hE 2
    have e3 := row_cell hE 3
    have e4 := row_cell hE 4
    have e5 := row_cell hE 5
    have e6 := row_cell hE 6
    have e7 := row_cell hE 7
    have e8 := row_cell hE 8
    simp only [List.getElem?_cons_zero, List.getElem?_cons_succ] at e0 e1 e2 e3 e4 e5 e6 e7 e8
    refine bodyPost_ret (v := .tuple #[.agg #[.int .u32 r0, .int .u32 r1, .int .u32 r2, .int .u32 r3, .int .u32 r4, .int .u32 r5, .int .u32 r6, .int .u32 r7, .int .u32 r8], .int .i64 er]) (by simp [results, Tryz.results33, go_sem, e0, e1, e2, e3, e4, e5, e6, e7, e8]) rfl ?_
    rw [HRE.out]
    exact ⟨rfl, HMW.out.step hend (fun i hi q => by have := HB0.out; omega)⟩
set_option maxHeartbeats 8000000 in
theorem rload_14 {K : RfK} {S : List Fr} (root : Int) (a b : Nat) (c : Int) (g off cp : Nat) (r0 r1 r2 r3 r4 r5 r6 r7 r8 : Int) (w : World) (hm : RfM w K S) (hb : b < 8) (ha : a < 8) (h4 : 4 ≤ cp) (hreg : ∀ x ∈ [r0, r1, r2, r3, r4, r5, r6, r7], 0 ≤ x ∧ x ≤ 4294967295)
    (hu0 : w.cell? ⟨g, off, none⟩ = some (.int .u8 14)) (hu1 : w.cell? ⟨g, off + 1, none⟩ = some (.int .u8 a)) (hu2 : w.cell? ⟨g, off + 2, none⟩ = some (.int .u8 b)) (hu3 : w.cell? ⟨g, off + 3, none⟩ = some (.int .u8 c)) :
    Calls Tryz.prog 33 #[.pointer (some ⟨K.R, 0, none⟩), .int .i64 root, .agg #[.int .u32 r0, .int .u32 r1, .int .u32 r2, .int .u32 r3, .int .u32 r4, .int .u32 r5, .int .u32 r6, .int .u32 r7, .int .u32 r8], .slice (some ⟨g, off, none⟩) 4 cp] w fun e w' => e = .returned (.tuple #[cpuR (loadO S root [r0, r1, r2, r3, r4, r5, r6, r7] r8 a b c 1).R r8, .int .i64 (fetchR S root (memAt [r0, r1, r2, r3, r4, r5, r6, r7] b c) 1).1]) ∧ Mod No w w' := by
  obtain ⟨x, hx⟩ : ∃ x, x = [r0, r1, r2, r3, r4, r5, r6, r7].getD b 0 := ⟨_, rfl⟩
  have hxr : 0 ≤ x ∧ x ≤ 4294967295 := by rw [hx]; exact hreg _ (regs_mem (R := [r0, r1, r2, r3, r4, r5, r6, r7]) rfl hb)
  have hat : (x + c) % 4294967296 % 1048576 = memAt [r0, r1, r2, r3, r4, r5, r6, r7] b c := by
    unfold memAt
    rw [← hx]; omega
  have hat0 : 0 ≤ memAt [r0, r1, r2, r3, r4, r5, r6, r7] b c ∧ memAt [r0, r1, r2, r3, r4, r5, r6, r7] b c < 1048576 := by unfold memAt; omega
  have hl : (loadO S root [r0, r1, r2, r3, r4, r5, r6, r7] r8 a b c 1).R = if (fetchR S root (memAt [r0, r1, r2, r3, r4, r5, r6, r7] b c) 1).1 = 0 then [r0, r1, r2, r3, r4, r5, r6, r7].set a (numR (fetchR S root (memAt [r0, r1, r2, r3, r4, r5, r6, r7] b c) 1).2) else [r0, r1, r2, r3, r4, r5, r6, r7] := by
    unfold loadO; split <;> rfl
  rw [hl]
  generalize memAt [r0, r1, r2, r3, r4, r5, r6, r7] b c = at' at hat hat0 ⊢
  have HAT := Lib.hid hat
  have HFR := Lib.hid (fetchR_range (root := root) (va := at') (n := 1) hm.ok)
  have HFS : Hid ((fetchR S root at' 1).2.length ≤ 256) := Lib.hid fetchR_small
  have HFL : Hid ((fetchR S root at' 1).1 = 0 → ((fetchR S root at' 1).2.length : Int) = 1) := Lib.hid fetchR_len
  have HFE : Hid (∀ w' , Mod No w w' → Calls Tryz.prog 29 #[.pointer (some ⟨K.R, 0, none⟩), .int .i64 root, .int .u32 at', .int .i64 1] w' (OwnB w' (fetchR S root at' 1).1 (fetchR S root at' 1).2)) := fun w' hm' => rfetchR root at' 1 w' (hm.keptNo hm') hat0.1 (by omega) (by omega)
  generalize (fetchR S root at' 1).1 = er at HFE HFL ⊢
  generalize (fetchR S root at' 1).2 = bs at HFE HFL HFR HFS ⊢
  generalize hout : (if er = 0 then [r0, r1, r2, r3, r4, r5, r6, r7].set a (numR bs) else [r0, r1, r2, r3, r4, r5, r6, r7]) = R'
  have HOUT := Lib.hid hout
  have HX := Lib.hid hx
  have ib : (b : Int) < 8 := by omega
  have ia : (a : Int) < 8 := by omega
  have i4 : (4 : Int) ≤ cp := by omega
  have HU : Hid (w.cell? ⟨g, off, none⟩ = some (.int .u8 14) ∧ w.cell? ⟨g, off + 1, none⟩ = some (.int .u8 a) ∧ w.cell? ⟨g, off + 2, none⟩ = some (.int .u8 b) ∧ w.cell? ⟨g, off + 3, none⟩ = some (.int .u8 c)) := ⟨hu0, hu1, hu2, hu3⟩
  have hgw : g < w.heap.size := World.block_lt_of_cell? w _ hu0
  clear hout hx hat hm hreg hl hu0 hu1 hu2 hu3
  go_enter Tryz.func33, Tryz.ntmps33
  go_upto_region 1 with (fail)
  have h0 : ((w.alloc (.cells #[.int .u32 r0, .int .u32 r1, .int .u32 r2, .int .u32 r3, .int .u32 r4, .int .u32 r5, .int .u32 r6, .int .u32 r7, .int .u32 r8] 26)).alloc (.cells #[.int .u32 0, .int .u32 0, .int .u32 0, .int .u32 0, .int .u32 0, .int .u32 0, .int .u32 0, .int .u32 0, .int .u32 0] 26)).heap[w.heap.size]? = some (.cells ([.int .u32 r0, .int .u32 r1, .int .u32 r2, .int .u32 r3, .int .u32 r4, .int .u32 r5, .int .u32 r6, .int .u32 r7, .int .u32 r8] : List Value).toArray 26 (0, 0)) := blk_alloc (heap_alloc_new w _) _
  have h1 : ((w.alloc (.cells #[.int .u32 r0, .int .u32 r1, .int .u32 r2, .int .u32 r3, .int .u32 r4, .int .u32 r5, .int .u32 r6, .int .u32 r7, .int .u32 r8] 26)).alloc (.cells #[.int .u32 0, .int .u32 0, .int .u32 0, .int .u32 0, .int .u32 0, .int .u32 0, .int .u32 0, .int .u32 0, .int .u32 0] 26)).heap[w.heap.size + 1]? = some (.cells ([.int .u32 0, .int .u32 0, .int .u32 0, .int .u32 0, .int .u32 0, .int .u32 0, .int .u32 0, .int .u32 0, .int .u32 0] : List Value).toArray 26 (0, 0)) := by
    have := heap_alloc_new (w.alloc (.cells #[.int .u32 r0, .int .u32 r1, .int .u32 r2, .int .u32 r3, .int .u32 r4, .int .u32 r5, .int .u32 r6, .int .u32 r7, .int .u32 r8] 26)) (.cells #[.int .u32 0, .int .u32 0, .int .u32 0, .int .u32 0, .int .u32 0, .int .u32 0, .int .u32 0, .int .u32 0, .int .u32 0] 26)
    rwa [World.size_alloc] at this
  have hm1 : Mod No w ((w.alloc (.cells #[.int .u32 r0, .int .u32 r1, .int .u32 r2, .int .u32 r3, .int .u32 r4, .int .u32 r5, .int .u32 r6, .int .u32 r7, .int .u32 r8] 26)).alloc (.cells #[.int .u32 0, .int .u32 0, .int .u32 0, .int .u32 0, .int .u32 0, .int .u32 0, .int .u32 0, .int .u32 0, .int .u32 0] 26)) := ((Mod.refl No w).alloc _).alloc _
  generalize (w.alloc (.cells #[.int .u32 r0, .int .u32 r1, .int .u32 r2, .int .u32 r3, .int .u32 r4, .int .u32 r5, .int .u32 r6, .int .u32 r7, .int .u32 r8] 26)).alloc (.cells #[.int .u32 0, .int .u32 0, .int .u32 0, .int .u32 0, .int .u32 0, .int .u32 0, .int .u32 0, .int .u32 0, .int .u32 0] 26) = w1 at h0 h1 hm1 ⊢
  have HB0 : Hid (w.heap.size ≤ w.heap.size ∧ w.heap.size ≤ w.heap.size + 1) := ⟨Nat.le_refl _, by omega⟩
  have n01 : w.heap.size ≠ w.heap.size + 1 := by omega
  have hg0 : g ≠ w.heap.size := by omega
  generalize w.heap.size + 1 = b1 at h1 n01 HB0 ⊢
  obtain ⟨b0, hb0⟩ : ∃ b0, b0 = w.heap.size := ⟨_, rfl⟩
  rw [← hb0] at h0 n01 hg0 ⊢
  have HBE := Lib.hid hb0
  have HH0 := Lib.hid h0
  have HH1 := Lib.hid h1
  have HM1 := Lib.hid hm1
  have hrb : w1.cell? ⟨b0, b, none⟩ = some (.int .u32 x) := by rw [HX.out]; exact regs9 h0 hb
  have cells : ∀ w', Mod No w w' → w'.cell? ⟨g, off, none⟩ = some (.int .u8 14) ∧ w'.cell? ⟨g, off + 1, none⟩ = some (.int .u8 a) ∧ w'.cell? ⟨g, off + 2, none⟩ = some (.int .u8 b) ∧ w'.cell? ⟨g, off + 3, none⟩ = some (.int .u8 c) := fun w' hm' =>
    ⟨(World.cell?_of_block (w := w) (hm'.block g hgw (fun q => q))).trans HU.out.1, (World.cell?_of_block (w := w) (hm'.block g hgw (fun q => q))).trans HU.out.2.1, (World.cell?_of_block (w := w) (hm'.block g hgw (fun q => q))).trans HU.out.2.2.1, (World.cell?_of_block (w := w) (hm'.block g hgw (fun q => q))).trans HU.out.2.2.2⟩
  have HC := Lib.hid cells
  obtain ⟨u0, u1, u2, u3⟩ := cells w1 hm1
  clear h0 h1 hm1 cells hb0
  go_quiet (fail)
  rw [HAT.out]
  have hmq : Mod No w1 (w1.drewN nq) := (Mod.refl No w1).drewN nq
  generalize w1.drewN nq = w2 at hmq ⊢
  have HQ0 := Lib.hid (hmq.blk HH0.out (fun q => q))
  have HQ1 := Lib.hid (hmq.blk HH1.out (fun q => q))
  have HM2 := Lib.hid (HM1.out.trans hmq)
  clear u0 u1 u2 u3 hrb HH0 HH1 HM1 hmq HAT
  obtain ⟨u0, u1, u2, u3⟩ := HC.out w2 HM2.out
  go_wp2_with fail
  refine (HFE.out _ HM2.out).mono ?_
  rintro e w3 ⟨q, k, cq, rfl, hm3, hown⟩
  have HM3 := Lib.hid hm3
  have HOWN := Lib.hid hown
  have HR0 := Lib.hid (hm3.blk HQ0.out (fun q => q))
  have HR1 := Lib.hid (hm3.blk HQ1.out (fun q => q))
  have HMW := Lib.hid (HM2.out.trans hm3)
  clear u0 u1 u2 u3 HQ0 HQ1 hm3 hown HFE
  obtain ⟨u0, u1, u2, u3⟩ := HC.out w3 HMW.out
  by_cases he : er = 0
  · subst he
    have hre : R' = [r0, r1, r2, r3, r4, r5, r6, r7].set a (numR bs) := by rw [← HOUT.out]; exact if_pos rfl
    obtain ⟨s0, s1, s2, s3, s4, s5, s6, s7, hs⟩ := list8' (l := [r0, r1, r2, r3, r4, r5, r6, r7].set a (numR bs)) (by simp)
    have HRE : Hid (R' = [s0, s1, s2, s3, s4, s5, s6, s7]) := hre.trans hs
    have HSS := Lib.hid hs
    obtain ⟨hk, hby, _⟩ := Byt.ofOwn HOWN.out HFR.out (Nat.le_trans HFS.out (by omega))
    have hl4 : bs.length ≤ 4 := by have := HFL.out rfl; omega
    have HNB : Hid (∀ w', Mod No w3 w' → Calls Tryz.prog 66 #[.slice q bs.length cq] w' fun e w2 => e = .returned (.int .u32 (numR bs)) ∧ w' = w2) := fun w' hm' => rnumber_any q bs cq w' (hby.kept hm') hl4
    rw [← hk] at HNB
    have ra : ∃ v, w3.cell? ⟨b0, a, none⟩ = some v := ⟨_, regs9 HR0.out ha⟩
    obtain ⟨va, ra⟩ := ra
    have fa : w3.frozen? ⟨b0, a, none⟩ = false := row_free HR0.out a
    have pb : b0 < w3.heap.size := lt_of_blk HR0.out
    have hS1 : (fun w' : World => w'.cell? ⟨g, off + 1, none⟩ = some (.int .u8 a)) w3 := u1
    have HF0 : Hid (Mod No w3 w3.drew) := (Mod.refl No w3).drew
    clear hre hs hby hk hl4 u0 u2 u3 HC HOWN HFR HFS HFL
    go_upto_region 8 with (fail)
    go_region_held3 (fun w' : World => w'.cell? ⟨g, off + 1, none⟩ = some (.int .u8 a)) (first | exact hS1 | exact keepD hg0 hS1) ((go_at_call 66; refine (HNB.out _ HF0.out).mono ?_; rintro e w4 ⟨rfl, rfl⟩))
    have F0 := set9regs HR0.out ha HSS.out
    have F1 := blk_setCell HR1.out n01.symm (p := ⟨b0, a, none⟩) (.int .u32 (numR bs))
    have hmz : Mod (fun k => k = b0) w3 (w3.setCell ⟨b0, a, none⟩ (.int .u32 (numR bs))) := mod_at a _
    generalize w3.setCell ⟨b0, a, none⟩ (.int .u32 (numR bs)) = w4 at F0 F1 hmz ⊢
    have F0 : w4.drew.heap[b0]? = _ := F0
    have F1 : w4.drew.heap[b1]? = _ := F1
    have hmz := hmz.drew
    generalize w4.drew = w5 at F0 F1 hmz ⊢
    have HMW := Lib.hid (HMW.out.step hmz (fun i hi q => by have := HBE.out; omega))
    clear hmz ra fa pb hS1 HR0 HR1 HSS
    have x0 := row_cell F0 0
    have x1 := row_cell F0 1
    have x2 := row_cell F0 2
    have x3 := row_cell F0 3
    have x4 := row_cell F0 4
    have x5 := row_cell F0 5
    have x6 := row_cell F0 6
    have x7 := row_cell F0 7
    have x8 := row_cell F0 8
    have y0 := row_cell F1 0
    have y1 := row_cell F1 1
    have y2 := row_cell F1 2
    have y3 := row_cell F1 3
    have y4 := row_cell F1 4
    have y5 := row_cell F1 5
    have y6 := row_cell F1 6
    have y7 := row_cell F1 7
    have y8 := row_cell F1 8
    simp only [List.getElem?_cons_zero, List.getElem?_cons_succ] at x0 x1 x2 x3 x4 x5 x6 x7 x8 y0 y1 y2 y3 y4 y5 y6 y7 y8
    have f0 : w5.frozen? ⟨b1, 0, none⟩ = false := row_free F1 0
    have f1 : w5.frozen? ⟨b1, 1, none⟩ = false := row_free F1 1
    have f2 : w5.frozen? ⟨b1, 2, none⟩ = false := row_free F1 2
    have f3 : w5.frozen? ⟨b1, 3, none⟩ = false := row_free F1 3
    have f4 : w5.frozen? ⟨b1, 4, none⟩ = false := row_free F1 4
    have f5 : w5.frozen? ⟨b1, 5, none⟩ = false := row_free F1 5
    have f6 : w5.frozen? ⟨b1, 6, none⟩ = false := row_free F1 6
    have f7 : w5.frozen? ⟨b1, 7, none⟩ = false := row_free F1 7
    have f8 : w5.frozen? ⟨b1, 8, none⟩ = false := row_free F1 8
    have p1 : b1 < w5.heap.size := lt_of_blk F1
    clear F0
    go_wp2
    have hE : (((((((((w5.setCell ⟨b1, 0, none⟩ (.int .u32 s0)).setCell ⟨b1, 1, none⟩ (.int .u32 s1)).setCell ⟨b1, 2, none⟩ (.int .u32 s2)).setCell ⟨b1, 3, none⟩ (.int .u32 s3)).setCell ⟨b1, 4, none⟩ (.int .u32 s4)).setCell ⟨b1, 5, none⟩ (.int .u32 s5)).setCell ⟨b1, 6, none⟩ (.int .u32 s6)).setCell ⟨b1, 7, none⟩ (.int .u32 s7)).setCell ⟨b1, 8, none⟩ (.int .u32 r8)).heap[b1]? = some (.cells ([.int .u32 s0, .int .u32 s1, .int .u32 s2, .int .u32 s3, .int .u32 s4, .int .u32 s5, .int .u32 s6, .int .u32 s7, .int .u32 r8] : List Value).toArray 26 (0, 0)) := set9 F1 rfl (.int .u32 s0) (.int .u32 s1) (.int .u32 s2) (.int .u32 s3) (.int .u32 s4) (.int .u32 s5) (.int .u32 s6) (.int .u32 s7) (.int .u32 r8)
    have hend : Mod (fun k => k = b1) w5 (((((((((w5.setCell ⟨b1, 0, none⟩ (.int .u32 s0)).setCell ⟨b1, 1, none⟩ (.int .u32 s1)).setCell ⟨b1, 2, none⟩ (.int .u32 s2)).setCell ⟨b1, 3, none⟩ (.int .u32 s3)).setCell ⟨b1, 4, none⟩ (.int .u32 s4)).setCell ⟨b1, 5, none⟩ (.int .u32 s5)).setCell ⟨b1, 6, none⟩ (.int .u32 s6)).setCell ⟨b1, 7, none⟩ (.int .u32 s7)).setCell ⟨b1, 8, none⟩ (.int .u32 r8)) := (Mod.put (Mod.put (Mod.put (Mod.put (Mod.put (Mod.put (Mod.put (Mod.put (Mod.put (Mod.refl (fun k => k = b1) _) rfl 0 _) rfl 1 _) rfl 2 _) rfl 3 _) rfl 4 _) rfl 5 _) rfl 6 _) rfl 7 _) rfl 8 _)
    generalize (((((((((w5.setCell ⟨b1, 0, none⟩ (.int .u32 s0)).setCell ⟨b1, 1, none⟩ (.int .u32 s1)).setCell ⟨b1, 2, none⟩ (.int .u32 s2)).setCell ⟨b1, 3, none⟩ (.int .u32 s3)).setCell ⟨b1, 4, none⟩ (.int .u32 s4)).setCell ⟨b1, 5, none⟩ (.int .u32 s5)).setCell ⟨b1, 6, none⟩ (.int .u32 s6)).setCell ⟨b1, 7, none⟩ (.int .u32 s7)).setCell ⟨b1, 8, none⟩ (.int .u32 r8)) = wE at hE hend ⊢
    have e0 := row_cell hE 0
    have e1 := row_cell hE 1
    have e2 := row_cell hE 2
    have e3 := row_cell hE 3
    have e4 := row_cell hE 4
    have e5 := row_cell hE 5
    have e6 := row_cell hE 6
    have e7 := row_cell hE 7
    have e8 := row_cell hE 8
    simp only [List.getElem?_cons_zero, List.getElem?_cons_succ] at e0 e1 e2 e3 e4 e5 e6 e7 e8
    refine bodyPost_ret (v := .tuple #[.agg #[.int .u32 s0, .int .u32 s1, .int .u32 s2, .int .u32 s3, .int .u32 s4, .int .u32 s5, .int .u32 s6, .int .u32 s7, .int .u32 r8], .int .i64 0]) (by simp [results, Tryz.results33, go_sem, e0, e1, e2, e3, e4, e5, e6, e7, e8]) rfl ?_
    rw [HRE.out]
    exact ⟨rfl, HMW.out.step hend (fun i hi q => by have := HB0.out; omega)⟩
  · have d1 : (er == 0) = false := beq_eq_false_iff_ne.2 he
    have d2 : (er != 0) = true := bne_iff_ne.2 he
    have hre : R' = [r0, r1, r2, r3, r4, r5, r6, r7] := by rw [← HOUT.out]; exact if_neg he
    have HRE := Lib.hid hre
    have F0 := HR0.out
    have F1 := HR1.out
    clear hre he HOUT
    have x0 := row_cell F0 0
    have x1 := row_cell F0 1
    have x2 := row_cell F0 2
    have x3 := row_cell F0 3
    have x4 := row_cell F0 4
    have x5 := row_cell F0 5
    have x6 := row_cell F0 6
    have x7 := row_cell F0 7
    have x8 := row_cell F0 8
    have y0 := row_cell F1 0
    have y1 := row_cell F1 1
    have y2 := row_cell F1 2
    have y3 := row_cell F1 3
    have y4 := row_cell F1 4
    have y5 := row_cell F1 5
    have y6 := row_cell F1 6
    have y7 := row_cell F1 7
    have y8 := row_cell F1 8
    simp only [List.getElem?_cons_zero, List.getElem?_cons_succ] at x0 x1 x2 x3 x4 x5 x6 x7 x8 y0 y1 y2 y3 y4 y5 y6 y7 y8
    have f0 : w3.frozen? ⟨b1, 0, none⟩ = false := row_free F1 0
    have f1 : w3.frozen? ⟨b1, 1, none⟩ = false := row_free F1 1
    have f2 : w3.frozen? ⟨b1, 2, none⟩ = false := row_free F1 2
    have f3 : w3.frozen? ⟨b1, 3, none⟩ = false := row_free F1 3
    have f4 : w3.frozen? ⟨b1, 4, none⟩ = false := row_free F1 4
    have f5 : w3.frozen? ⟨b1, 5, none⟩ = false := row_free F1 5
    have f6 : w3.frozen? ⟨b1, 6, none⟩ = false := row_free F1 6
    have f7 : w3.frozen? ⟨b1, 7, none⟩ = false := row_free F1 7
    have f8 : w3.frozen? ⟨b1, 8, none⟩ = false := row_free F1 8
    have p1 : b1 < w3.heap.size := lt_of_blk F1
    clear F0
    go_wp2
    have hE : (((((((((w3.setCell ⟨b1, 0, none⟩ (.int .u32 r0)).setCell ⟨b1, 1, none⟩ (.int .u32 r1)).setCell ⟨b1, 2, none⟩ (.int .u32 r2)).setCell ⟨b1, 3, none⟩ (.int .u32 r3)).setCell ⟨b1, 4, none⟩ (.int .u32 r4)).setCell ⟨b1, 5, none⟩ (.int .u32 r5)).setCell ⟨b1, 6, none⟩ (.int .u32 r6)).setCell ⟨b1, 7, none⟩ (.int .u32 r7)).setCell ⟨b1, 8, none⟩ (.int .u32 r8)).heap[b1]? = some (.cells ([.int .u32 r0, .int .u32 r1, .int .u32 r2, .int .u32 r3, .int .u32 r4, .int .u32 r5, .int .u32 r6, .int .u32 r7, .int .u32 r8] : List Value).toArray 26 (0, 0)) := set9 F1 rfl (.int .u32 r0) (.int .u32 r1) (.int .u32 r2) (.int .u32 r3) (.int .u32 r4) (.int .u32 r5) (.int .u32 r6) (.int .u32 r7) (.int .u32 r8)
    have hend : Mod (fun k => k = b1) w3 (((((((((w3.setCell ⟨b1, 0, none⟩ (.int .u32 r0)).setCell ⟨b1, 1, none⟩ (.int .u32 r1)).setCell ⟨b1, 2, none⟩ (.int .u32 r2)).setCell ⟨b1, 3, none⟩ (.int .u32 r3)).setCell ⟨b1, 4, none⟩ (.int .u32 r4)).setCell ⟨b1, 5, none⟩ (.int .u32 r5)).setCell ⟨b1, 6, none⟩ (.int .u32 r6)).setCell ⟨b1, 7, none⟩ (.int .u32 r7)).setCell ⟨b1, 8, none⟩ (.int .u32 r8)) := (Mod.put (Mod.put (Mod.put (Mod.put (Mod.put (Mod.put (Mod.put (Mod.put (Mod.put (Mod.refl (fun k => k = b1) _) rfl 0 _) rfl 1 _) rfl 2 _) rfl 3 _) rfl 4 _) rfl 5 _) rfl 6 _) rfl 7 _) rfl 8 _)
    generalize (((((((((w3.setCell ⟨b1, 0, none⟩ (.int .u32 r0)).setCell ⟨b1, 1, none⟩ (.int .u32 r1)).setCell ⟨b1, 2, none⟩ (.int .u32 r2)).setCell ⟨b1, 3, none⟩ (.int .u32 r3)).setCell ⟨b1, 4, none⟩ (.int .u32 r4)).setCell ⟨b1, 5, none⟩ (.int .u32 r5)).setCell ⟨b1, 6, none⟩ (.int .u32 r6)).setCell ⟨b1, 7, none⟩ (.int .u32 r7)).setCell ⟨b1, 8, none⟩ (.int .u32 r8)) = wE at hE hend ⊢
    have e0 := row_cell hE 0
    have e1 := row_cell hE 1
    have e2 := row_cell hE 2
    have e3 := row_cell hE 3
    have e4 := row_cell hE 4
    have e5 := row_cell hE 5
    have e6 := row_cell hE 6
    have e7 := row_cell hE 7
    have e8 := row_cell hE 8
    simp only [List.getElem?_cons_zero, List.getElem?_cons_succ] at e0 e1 e2 e3 e4 e5 e6 e7 e8
    refine bodyPost_ret (v := .tuple #[.agg #[.int .u32 r0, .int .u32 r1, .int .u32 r2, .int .u32 r3, .int .u32 r4, .int .u32 r5, .int .u32 r6, .int .u32 r7, .int .u32 r8], .int .i64 er]) (by simp [results, Tryz.results33, go_sem, e0, e1, e2, e3, e4, e5, e6, e7, e8]) rfl ?_
    rw [HRE.out]
    exact ⟨rfl, HMW.out.step hend (fun i hi q => by have := HB0.out; omega)⟩
end Go.Proofs.YtlbebneblmgdcaaGreatDoor
