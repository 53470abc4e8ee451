/- tenementref19.memory: stores. (Printed by wip/gen_refs.py.) -/
import Derived.Test.YtlbebneblmgdcaaGreatDoorRef19L
namespace Go.Proofs.YtlbebneblmgdcaaGreatDoor
open Go.RowKit
set_option maxRecDepth 100000

set_option maxHeartbeats 8000000 in
theorem rstore_15 {K : RfK} {S : List Fr} (root : Int) (a b : Nat) (c : Int) (g off cp : Nat) (r0 r1 r2 r3 r4 r5 r6 r7 r8 : Int) (w : World) (hm : RfM w K S) (hb : b < 8) (ha : a < 8) (h4 : 4 ≤ cp) (hgK : ¬ K.inn g) (hreg : ∀ x ∈ [r0, r1, r2, r3, r4, r5, r6, r7], 0 ≤ x ∧ x ≤ 4294967295)
    (hu0 : w.cell? ⟨g, off, none⟩ = some (.int .u8 15)) (hu1 : w.cell? ⟨g, off + 1, none⟩ = some (.int .u8 a)) (hu2 : w.cell? ⟨g, off + 2, none⟩ = some (.int .u8 b)) (hu3 : w.cell? ⟨g, off + 3, none⟩ = some (.int .u8 c)) :
    Calls Tryz.prog 33 #[.pointer (some ⟨K.R, 0, none⟩), .int .i64 root, .agg #[.int .u32 r0, .int .u32 r1, .int .u32 r2, .int .u32 r3, .int .u32 r4, .int .u32 r5, .int .u32 r6, .int .u32 r7, .int .u32 r8], .slice (some ⟨g, off, none⟩) 4 cp] w fun e w' => e = .returned (.tuple #[cpuR [r0, r1, r2, r3, r4, r5, r6, r7] r8, .int .i64 (storeR S root (memAt [r0, r1, r2, r3, r4, r5, r6, r7] b c) ((fourR ([r0, r1, r2, r3, r4, r5, r6, r7].getD a 0)).take 4)).1]) ∧ Mod K.inn w w' ∧ RfM w' K (storeR S root (memAt [r0, r1, r2, r3, r4, r5, r6, r7] b c) ((fourR ([r0, r1, r2, r3, r4, r5, r6, r7].getD a 0)).take 4)).2 := by
  obtain ⟨x, hx⟩ : ∃ x, x = [r0, r1, r2, r3, r4, r5, r6, r7].getD b 0 := ⟨_, rfl⟩
  obtain ⟨y, hy⟩ : ∃ y, y = [r0, r1, r2, r3, r4, r5, r6, r7].getD a 0 := ⟨_, rfl⟩
  have hxr : 0 ≤ x ∧ x ≤ 4294967295 := by rw [hx]; exact hreg _ (regs_mem (R := [r0, r1, r2, r3, r4, r5, r6, r7]) rfl hb)
  have hyr : 0 ≤ y ∧ y ≤ 4294967295 := by rw [hy]; exact hreg _ (regs_mem (R := [r0, r1, r2, r3, r4, r5, r6, r7]) rfl ha)
  have hat : (x + c) % 4294967296 % 1048576 = memAt [r0, r1, r2, r3, r4, r5, r6, r7] b c := by
    unfold memAt
    rw [← hx]; omega
  have hat0 : 0 ≤ memAt [r0, r1, r2, r3, r4, r5, r6, r7] b c ∧ memAt [r0, r1, r2, r3, r4, r5, r6, r7] b c < 1048576 := by unfold memAt; omega
  rw [← hy]
  generalize memAt [r0, r1, r2, r3, r4, r5, r6, r7] b c = at' at hat hat0 ⊢
  have HAT := Lib.hid hat
  have HFRR := fourR_range hyr
  have hlN : ((fourR y).take 4).length = 4 := by simp [fourR]
  have hKH : ∀ k, K.has k → k < w.heap.size := fun k hk => hm.lt k hk
  have hKlt : ∀ k, K.inn k → k < w.heap.size := fun k hk => hm.lt k (RfK.inn_has hk)
  have HST : Hid (∀ w' g', Mod No w w' → w'.heap[g']? = some (.cells ((fourR y).map (Value.int .u8)).toArray 5 (0, 0)) → w.heap.size ≤ g' → Calls Tryz.prog 67 #[.pointer (some ⟨K.R, 0, none⟩), .int .i64 root, .int .u32 at', .slice (some ⟨g', 0, none⟩) 4 4] w' fun e w3 => e = .returned (.int .i64 (storeR S root at' ((fourR y).take 4)).1) ∧ Mod K.inn w' w3 ∧ RfM w3 K (storeR S root at' ((fourR y).take 4)).2) := by
    intro w' g' hm' hg hgl
    have hby : Byt w' (some ⟨g', 0, none⟩) ((fourR y).take 4) 4 := by
      refine ⟨fun v hv => HFRR v (List.mem_of_mem_take hv), by omega, by omega, (fun q => by cases q), fun _ => ⟨g', 0, rfl, lt_of_blk hg, fun j v hv => ?_⟩⟩
      rw [row_cell hg, Nat.zero_add, List.getElem?_map]
      have : j < 4 := by
        have := (List.getElem?_eq_some_iff.1 hv).1
        omega
      rw [List.getElem?_take_of_lt this] at hv
      rw [hv]; rfl
    have := rstoreR root at' (some ⟨g', 0, none⟩) ((fourR y).take 4) 4 w' (hm.keptNo hm') hat0.1 (by omega) hby (fun b off _ q => by cases q; exact fun q => by have := hKlt _ q; omega)
    rwa [hlN] at this
  have HFO : Hid (∀ w', Calls Tryz.prog 68 #[.int .u32 y] w' fun e w2 => e = .returned (.slice (some ⟨w'.heap.size, 0, none⟩) 4 4) ∧ Mod No w' w2 ∧ w2.heap[w'.heap.size]? = some (.cells ((fourR y).map (Value.int .u8)).toArray 5 (0, 0)) ∧ w2.heap.size = w'.heap.size + 1) := fun w' => rfour_any y w' hyr
  generalize (storeR S root at' ((fourR y).take 4)).1 = er at HST ⊢
  generalize (storeR S root at' ((fourR y).take 4)).2 = S' at HST ⊢
  have HX := Lib.hid hx
  have HY := Lib.hid hy
  have HKL := Lib.hid hKlt
  have HKH : Hid (∀ k, K.has k → k < w.heap.size) := hKH
  have HGK := Lib.hid hgK
  have ib : (b : Int) < 8 := by omega
  have ia : (a : Int) < 8 := by omega
  have i4 : (4 : Int) ≤ cp := by omega
  have HU : Hid (w.cell? ⟨g, off, none⟩ = some (.int .u8 15) ∧ w.cell? ⟨g, off + 1, none⟩ = some (.int .u8 a) ∧ w.cell? ⟨g, off + 2, none⟩ = some (.int .u8 b) ∧ w.cell? ⟨g, off + 3, none⟩ = some (.int .u8 c)) := ⟨hu0, hu1, hu2, hu3⟩
  have hgw : g < w.heap.size := World.block_lt_of_cell? w _ hu0
  clear hx hy hat hm hreg hu0 hu1 hu2 hu3 HFRR hlN hKlt hKH hgK hxr hyr
  go_enter Tryz.func33, Tryz.ntmps33
  go_upto_region 1 with (fail)
  have h0 : ((w.alloc (.cells #[.int .u32 r0, .int .u32 r1, .int .u32 r2, .int .u32 r3, .int .u32 r4, .int .u32 r5, .int .u32 r6, .int .u32 r7, .int .u32 r8] 26)).alloc (.cells #[.int .u32 0, .int .u32 0, .int .u32 0, .int .u32 0, .int .u32 0, .int .u32 0, .int .u32 0, .int .u32 0, .int .u32 0] 26)).heap[w.heap.size]? = some (.cells ([.int .u32 r0, .int .u32 r1, .int .u32 r2, .int .u32 r3, .int .u32 r4, .int .u32 r5, .int .u32 r6, .int .u32 r7, .int .u32 r8] : List Value).toArray 26 (0, 0)) := blk_alloc (heap_alloc_new w _) _
  have h1 : ((w.alloc (.cells #[.int .u32 r0, .int .u32 r1, .int .u32 r2, .int .u32 r3, .int .u32 r4, .int .u32 r5, .int .u32 r6, .int .u32 r7, .int .u32 r8] 26)).alloc (.cells #[.int .u32 0, .int .u32 0, .int .u32 0, .int .u32 0, .int .u32 0, .int .u32 0, .int .u32 0, .int .u32 0, .int .u32 0] 26)).heap[w.heap.size + 1]? = some (.cells ([.int .u32 0, .int .u32 0, .int .u32 0, .int .u32 0, .int .u32 0, .int .u32 0, .int .u32 0, .int .u32 0, .int .u32 0] : List Value).toArray 26 (0, 0)) := by
    have := heap_alloc_new (w.alloc (.cells #[.int .u32 r0, .int .u32 r1, .int .u32 r2, .int .u32 r3, .int .u32 r4, .int .u32 r5, .int .u32 r6, .int .u32 r7, .int .u32 r8] 26)) (.cells #[.int .u32 0, .int .u32 0, .int .u32 0, .int .u32 0, .int .u32 0, .int .u32 0, .int .u32 0, .int .u32 0, .int .u32 0] 26)
    rwa [World.size_alloc] at this
  have hm1 : Mod No w ((w.alloc (.cells #[.int .u32 r0, .int .u32 r1, .int .u32 r2, .int .u32 r3, .int .u32 r4, .int .u32 r5, .int .u32 r6, .int .u32 r7, .int .u32 r8] 26)).alloc (.cells #[.int .u32 0, .int .u32 0, .int .u32 0, .int .u32 0, .int .u32 0, .int .u32 0, .int .u32 0, .int .u32 0, .int .u32 0] 26)) := ((Mod.refl No w).alloc _).alloc _
  generalize (w.alloc (.cells #[.int .u32 r0, .int .u32 r1, .int .u32 r2, .int .u32 r3, .int .u32 r4, .int .u32 r5, .int .u32 r6, .int .u32 r7, .int .u32 r8] 26)).alloc (.cells #[.int .u32 0, .int .u32 0, .int .u32 0, .int .u32 0, .int .u32 0, .int .u32 0, .int .u32 0, .int .u32 0, .int .u32 0] 26) = w1 at h0 h1 hm1 ⊢
  have HB0 : Hid (w.heap.size ≤ w.heap.size ∧ w.heap.size ≤ w.heap.size + 1) := ⟨Nat.le_refl _, by omega⟩
  have n01 : w.heap.size ≠ w.heap.size + 1 := by omega
  have hg0 : g ≠ w.heap.size := by omega
  have hg1 : g ≠ w.heap.size + 1 := by omega
  generalize w.heap.size + 1 = b1 at h1 n01 HB0 hg1 ⊢
  obtain ⟨b0, hb0⟩ : ∃ b0, b0 = w.heap.size := ⟨_, rfl⟩
  rw [← hb0] at h0 n01 hg0 ⊢
  have HBE := Lib.hid hb0
  have HH0 := Lib.hid h0
  have HH1 := Lib.hid h1
  have HM1 := Lib.hid hm1
  have hrb : w1.cell? ⟨b0, b, none⟩ = some (.int .u32 x) := by rw [HX.out]; exact regs9 h0 hb
  have cells : ∀ w', Mod No w w' → w'.cell? ⟨g, off, none⟩ = some (.int .u8 15) ∧ w'.cell? ⟨g, off + 1, none⟩ = some (.int .u8 a) ∧ w'.cell? ⟨g, off + 2, none⟩ = some (.int .u8 b) ∧ w'.cell? ⟨g, off + 3, none⟩ = some (.int .u8 c) := fun w' hm' =>
    ⟨(World.cell?_of_block (w := w) (hm'.block g hgw (fun q => q))).trans HU.out.1, (World.cell?_of_block (w := w) (hm'.block g hgw (fun q => q))).trans HU.out.2.1, (World.cell?_of_block (w := w) (hm'.block g hgw (fun q => q))).trans HU.out.2.2.1, (World.cell?_of_block (w := w) (hm'.block g hgw (fun q => q))).trans HU.out.2.2.2⟩
  have HC := Lib.hid cells
  obtain ⟨u0, u1, u2, u3⟩ := cells w1 hm1
  clear h0 h1 hm1 cells hb0
  go_quiet (fail)
  rw [HAT.out]
  have hmq : Mod No w1 (w1.drewN nq) := (Mod.refl No w1).drewN nq
  generalize w1.drewN nq = w2 at hmq ⊢
  have HQ0 := Lib.hid (hmq.blk HH0.out (fun q => q))
  have HQ1 := Lib.hid (hmq.blk HH1.out (fun q => q))
  have HM2 := Lib.hid (HM1.out.trans hmq)
  clear u0 u1 u2 u3 hrb HH0 HH1 HM1 hmq HAT HU
  obtain ⟨u0, u1, u2, u3⟩ := HC.out w2 HM2.out
  go_upto_region 10 with (fail)
  have HS : Hid (∀ w', Mod (fun k => k = b1 ∨ K.inn k) w2 w' → (fun w' : World => w'.cell? ⟨g, off + 1, none⟩ = some (.int .u8 a) ∧ w'.cell? ⟨b0, a, none⟩ = some (.int .u32 y) ∧ w'.cell? ⟨b0, 0, none⟩ = some (.int .u32 r0) ∧ w'.cell? ⟨b0, 1, none⟩ = some (.int .u32 r1) ∧ w'.cell? ⟨b0, 2, none⟩ = some (.int .u32 r2) ∧ w'.cell? ⟨b0, 3, none⟩ = some (.int .u32 r3) ∧ w'.cell? ⟨b0, 4, none⟩ = some (.int .u32 r4) ∧ w'.cell? ⟨b0, 5, none⟩ = some (.int .u32 r5) ∧ w'.cell? ⟨b0, 6, none⟩ = some (.int .u32 r6) ∧ w'.cell? ⟨b0, 7, none⟩ = some (.int .u32 r7) ∧ w'.cell? ⟨b0, 8, none⟩ = some (.int .u32 r8)) w') := fun w' hm' =>
    have hz := HKL.out
    have hz0 := HBE.out
    have hw2 := HM2.out.size
    have h0 := hm'.blk HQ0.out (fun q => q.elim n01 (fun q => by have := hz _ q; omega))
    ⟨(World.cell?_of_block (w := w2) (hm'.block g (by omega) (fun q => q.elim hg1 HGK.out))).trans u1, by rw [HY.out]; exact regs9 h0 ha, row_cell h0 0, row_cell h0 1, row_cell h0 2, row_cell h0 3, row_cell h0 4, row_cell h0 5, row_cell h0 6, row_cell h0 7, row_cell h0 8⟩
  have hS1 := HS.out w2 (Mod.refl _ w2)
  obtain ⟨v1, v2, x0, x1, x2, x3, x4, x5, x6, x7, x8⟩ := hS1
  have hS1 := HS.out w2 (Mod.refl _ w2)
  have hS0 := HS.out w2.drew ((Mod.refl _ w2).drew)
  have HQS : Hid (w.heap.size ≤ w2.heap.size) := HM2.out.size
  go_region_held3 (fun w' : World => w'.cell? ⟨g, off + 1, none⟩ = some (.int .u8 a) ∧ w'.cell? ⟨b0, a, none⟩ = some (.int .u32 y) ∧ w'.cell? ⟨b0, 0, none⟩ = some (.int .u32 r0) ∧ w'.cell? ⟨b0, 1, none⟩ = some (.int .u32 r1) ∧ w'.cell? ⟨b0, 2, none⟩ = some (.int .u32 r2) ∧ w'.cell? ⟨b0, 3, none⟩ = some (.int .u32 r3) ∧ w'.cell? ⟨b0, 4, none⟩ = some (.int .u32 r4) ∧ w'.cell? ⟨b0, 5, none⟩ = some (.int .u32 r5) ∧ w'.cell? ⟨b0, 6, none⟩ = some (.int .u32 r6) ∧ w'.cell? ⟨b0, 7, none⟩ = some (.int .u32 r7) ∧ w'.cell? ⟨b0, 8, none⟩ = some (.int .u32 r8)) (first | with_reducible exact hS0 | with_reducible exact hS1 | with_reducible exact hS2 | with_reducible exact hS3 | exact HS.out _ (Mod.put (Mod.put (Mod.put (Mod.put (Mod.put (Mod.put (Mod.put (Mod.put (Mod.put HM6.out (.inl rfl) 0 _) (.inl rfl) 1 _) (.inl rfl) 2 _) (.inl rfl) 3 _) (.inl rfl) 4 _) (.inl rfl) 5 _) (.inl rfl) 6 _) (.inl rfl) 7 _) (.inl rfl) 8 _)) (first
    | (go_at_call 68; refine (HFO.out _).mono ?_; rintro e w4 ⟨rfl, hm4, hg4, _⟩; have hM4 : Mod (fun k => k = b1 ∨ K.inn k) w2 w4 := (Mod.refl _ w2).drew.trans hm4.of_no; have hS2 := HS.out w4 hM4; have HM4 := Lib.hid hM4; have HN4 : Hid (Mod No w w4) := HM2.out.trans ((Mod.refl No w2).drew.trans hm4); have HN42 : Hid (Mod No w2 w4) := (Mod.refl No w2).drew.trans hm4; have HG4 := Lib.hid hg4; clear hm4 hg4 hM4)
    | (go_at_call 67; refine (HST.out _ _ HN4.out HG4.out HQS.out).mono ?_; rintro e w6 ⟨rfl, hm6, hr6⟩; have hM6 : Mod (fun k => k = b1 ∨ K.inn k) w2 w6 := HM4.out.trans (hm6.mono (fun _ _ q => .inr q)); have hS3 := HS.out w6 hM6; have hF1 : w6.heap[b1]? = _ := (hm6.blk ((HN42.out).blk HQ1.out (fun q => q)) (fun q => by have := HKL.out _ q; have := HB0.out; omega)); have HM6 := Lib.hid hM6; have HN6 := Lib.hid hm6; have HR6 := Lib.hid hr6; have z0 := row_cell hF1 0; have z1 := row_cell hF1 1; have z2 := row_cell hF1 2; have z3 := row_cell hF1 3; have z4 := row_cell hF1 4; have z5 := row_cell hF1 5; have z6 := row_cell hF1 6; have z7 := row_cell hF1 7; have z8 := row_cell hF1 8; simp only [List.getElem?_cons_zero, List.getElem?_cons_succ] at z0 z1 z2 z3 z4 z5 z6 z7 z8; have f0 : w6.frozen? ⟨b1, 0, none⟩ = false := row_free hF1 0; have f1 : w6.frozen? ⟨b1, 1, none⟩ = false := row_free hF1 1; have f2 : w6.frozen? ⟨b1, 2, none⟩ = false := row_free hF1 2; have f3 : w6.frozen? ⟨b1, 3, none⟩ = false := row_free hF1 3; have f4 : w6.frozen? ⟨b1, 4, none⟩ = false := row_free hF1 4; have f5 : w6.frozen? ⟨b1, 5, none⟩ = false := row_free hF1 5; have f6 : w6.frozen? ⟨b1, 6, none⟩ = false := row_free hF1 6; have f7 : w6.frozen? ⟨b1, 7, none⟩ = false := row_free hF1 7; have f8 : w6.frozen? ⟨b1, 8, none⟩ = false := row_free hF1 8; have p1 : b1 < w6.heap.size := lt_of_blk hF1; have HF1 := Lib.hid hF1; clear hm6 hr6 hM6 hF1))
  have hE : (((((((((w6.setCell ⟨b1, 0, none⟩ (.int .u32 r0)).setCell ⟨b1, 1, none⟩ (.int .u32 r1)).setCell ⟨b1, 2, none⟩ (.int .u32 r2)).setCell ⟨b1, 3, none⟩ (.int .u32 r3)).setCell ⟨b1, 4, none⟩ (.int .u32 r4)).setCell ⟨b1, 5, none⟩ (.int .u32 r5)).setCell ⟨b1, 6, none⟩ (.int .u32 r6)).setCell ⟨b1, 7, none⟩ (.int .u32 r7)).setCell ⟨b1, 8, none⟩ (.int .u32 r8)).heap[b1]? = some (.cells ([.int .u32 r0, .int .u32 r1, .int .u32 r2, .int .u32 r3, .int .u32 r4, .int .u32 r5, .int .u32 r6, .int .u32 r7, .int .u32 r8] : List Value).toArray 26 (0, 0)) := set9 HF1.out rfl (.int .u32 r0) (.int .u32 r1) (.int .u32 r2) (.int .u32 r3) (.int .u32 r4) (.int .u32 r5) (.int .u32 r6) (.int .u32 r7) (.int .u32 r8)
  have hend : Mod (fun k => k = b1) w6 (((((((((w6.setCell ⟨b1, 0, none⟩ (.int .u32 r0)).setCell ⟨b1, 1, none⟩ (.int .u32 r1)).setCell ⟨b1, 2, none⟩ (.int .u32 r2)).setCell ⟨b1, 3, none⟩ (.int .u32 r3)).setCell ⟨b1, 4, none⟩ (.int .u32 r4)).setCell ⟨b1, 5, none⟩ (.int .u32 r5)).setCell ⟨b1, 6, none⟩ (.int .u32 r6)).setCell ⟨b1, 7, none⟩ (.int .u32 r7)).setCell ⟨b1, 8, none⟩ (.int .u32 r8)) := (Mod.put (Mod.put (Mod.put (Mod.put (Mod.put (Mod.put (Mod.put (Mod.put (Mod.put (Mod.refl (fun k => k = b1) _) rfl 0 _) rfl 1 _) rfl 2 _) rfl 3 _) rfl 4 _) rfl 5 _) rfl 6 _) rfl 7 _) rfl 8 _)
  generalize (((((((((w6.setCell ⟨b1, 0, none⟩ (.int .u32 r0)).setCell ⟨b1, 1, none⟩ (.int .u32 r1)).setCell ⟨b1, 2, none⟩ (.int .u32 r2)).setCell ⟨b1, 3, none⟩ (.int .u32 r3)).setCell ⟨b1, 4, none⟩ (.int .u32 r4)).setCell ⟨b1, 5, none⟩ (.int .u32 r5)).setCell ⟨b1, 6, none⟩ (.int .u32 r6)).setCell ⟨b1, 7, none⟩ (.int .u32 r7)).setCell ⟨b1, 8, none⟩ (.int .u32 r8)) = wE at hE hend ⊢
  have e0 := row_cell hE 0
  have e1 := row_cell hE 1
  have e2 := row_cell hE 2
  have e3 := row_cell hE 3
  have e4 := row_cell hE 4
  have e5 := row_cell hE 5
  have e6 := row_cell hE 6
  have e7 := row_cell hE 7
  have e8 := row_cell hE 8
  simp only [List.getElem?_cons_zero, List.getElem?_cons_succ] at e0 e1 e2 e3 e4 e5 e6 e7 e8
  have HEND := Lib.hid hend
  clear z0 z1 z2 z3 z4 z5 z6 z7 z8 f0 f1 f2 f3 f4 f5 f6 f7 f8 p1 hS0 hS1 hS2 hS3 x0 x1 x2 x3 x4 x5 x6 x7 x8 v1 v2 u0 u1 u2 u3 hend
  go_wp2
  refine bodyPost_ret (v := .tuple #[.agg #[.int .u32 r0, .int .u32 r1, .int .u32 r2, .int .u32 r3, .int .u32 r4, .int .u32 r5, .int .u32 r6, .int .u32 r7, .int .u32 r8], .int .i64 er]) (by simp [results, Tryz.results33, go_sem, e0, e1, e2, e3, e4, e5, e6, e7, e8]) rfl ?_
  exact ⟨rfl, (HN4.out.of_no.trans HN6.out).step HEND.out (fun i hi q => by have := HB0.out; omega), HR6.out.kept HEND.out (fun k hk (e : k = b1) => by have := HKH.out k hk; have := HB0.out; omega)⟩

set_option maxHeartbeats 8000000 in
theorem rstore_16 {K : RfK} {S : List Fr} (root : Int) (a b : Nat) (c : Int) (g off cp : Nat) (r0 r1 r2 r3 r4 r5 r6 r7 r8 : Int) (w : World) (hm : RfM w K S) (hb : b < 8) (ha : a < 8) (h4 : 4 ≤ cp) (hgK : ¬ K.inn g) (hreg : ∀ x ∈ [r0, r1, r2, r3, r4, r5, r6, r7], 0 ≤ x ∧ x ≤ 4294967295)
    (hu0 : w.cell? ⟨g, off, none⟩ = some (.int .u8 16)) (hu1 : w.cell? ⟨g, off + 1, none⟩ = some (.int .u8 a)) (hu2 : w.cell? ⟨g, off + 2, none⟩ = some (.int .u8 b)) (hu3 : w.cell? ⟨g, off + 3, none⟩ = some (.int .u8 c)) :
    Calls Tryz.prog 33 #[.pointer (some ⟨K.R, 0, none⟩), .int .i64 root, .agg #[.int .u32 r0, .int .u32 r1, .int .u32 r2, .int .u32 r3, .int .u32 r4, .int .u32 r5, .int .u32 r6, .int .u32 r7, .int .u32 r8], .slice (some ⟨g, off, none⟩) 4 cp] w fun e w' => e = .returned (.tuple #[cpuR [r0, r1, r2, r3, r4, r5, r6, r7] r8, .int .i64 (storeR S root (memAt [r0, r1, r2, r3, r4, r5, r6, r7] b c) ((fourR ([r0, r1, r2, r3, r4, r5, r6, r7].getD a 0)).take 1)).1]) ∧ Mod K.inn w w' ∧ RfM w' K (storeR S root (memAt [r0, r1, r2, r3, r4, r5, r6, r7] b c) ((fourR ([r0, r1, r2, r3, r4, r5, r6, r7].getD a 0)).take 1)).2 := by
  obtain ⟨x, hx⟩ : ∃ x, x = [r0, r1, r2, r3, r4, r5, r6, r7].getD b 0 := ⟨_, rfl⟩
  obtain ⟨y, hy⟩ : ∃ y, y = [r0, r1, r2, r3, r4, r5, r6, r7].getD a 0 := ⟨_, rfl⟩
  have hxr : 0 ≤ x ∧ x ≤ 4294967295 := by rw [hx]; exact hreg _ (regs_mem (R := [r0, r1, r2, r3, r4, r5, r6, r7]) rfl hb)
  have hyr : 0 ≤ y ∧ y ≤ 4294967295 := by rw [hy]; exact hreg _ (regs_mem (R := [r0, r1, r2, r3, r4, r5, r6, r7]) rfl ha)
  have hat : (x + c) % 4294967296 % 1048576 = memAt [r0, r1, r2, r3, r4, r5, r6, r7] b c := by
    unfold memAt
    rw [← hx]; omega
  have hat0 : 0 ≤ memAt [r0, r1, r2, r3, r4, r5, r6, r7] b c ∧ memAt [r0, r1, r2, r3, r4, r5, r6, r7] b c < 1048576 := by unfold memAt; omega
  rw [← hy]
  generalize memAt [r0, r1, r2, r3, r4, r5, r6, r7] b c = at' at hat hat0 ⊢
  have HAT := Lib.hid hat
  have HFRR := fourR_range hyr
  have hlN : ((fourR y).take 1).length = 1 := by simp [fourR]
  have hKH : ∀ k, K.has k → k < w.heap.size := fun k hk => hm.lt k hk
  have hKlt : ∀ k, K.inn k → k < w.heap.size := fun k hk => hm.lt k (RfK.inn_has hk)
  have HST : Hid (∀ w' g', Mod No w w' → w'.heap[g']? = some (.cells ((fourR y).map (Value.int .u8)).toArray 5 (0, 0)) → w.heap.size ≤ g' → Calls Tryz.prog 67 #[.pointer (some ⟨K.R, 0, none⟩), .int .i64 root, .int .u32 at', .slice (some ⟨g', 0, none⟩) 1 4] w' fun e w3 => e = .returned (.int .i64 (storeR S root at' ((fourR y).take 1)).1) ∧ Mod K.inn w' w3 ∧ RfM w3 K (storeR S root at' ((fourR y).take 1)).2) := by
    intro w' g' hm' hg hgl
    have hby : Byt w' (some ⟨g', 0, none⟩) ((fourR y).take 1) 4 := by
      refine ⟨fun v hv => HFRR v (List.mem_of_mem_take hv), by omega, by omega, (fun q => by cases q), fun _ => ⟨g', 0, rfl, lt_of_blk hg, fun j v hv => ?_⟩⟩
      rw [row_cell hg, Nat.zero_add, List.getElem?_map]
      have : j < 1 := by
        have := (List.getElem?_eq_some_iff.1 hv).1
        omega
      rw [List.getElem?_take_of_lt this] at hv
      rw [hv]; rfl
    have := rstoreR root at' (some ⟨g', 0, none⟩) ((fourR y).take 1) 4 w' (hm.keptNo hm') hat0.1 (by omega) hby (fun b off _ q => by cases q; exact fun q => by have := hKlt _ q; omega)
    rwa [hlN] at this
  have HFO : Hid (∀ w', Calls Tryz.prog 68 #[.int .u32 y] w' fun e w2 => e = .returned (.slice (some ⟨w'.heap.size, 0, none⟩) 4 4) ∧ Mod No w' w2 ∧ w2.heap[w'.heap.size]? = some (.cells ((fourR y).map (Value.int .u8)).toArray 5 (0, 0)) ∧ w2.heap.size = w'.heap.size + 1) := fun w' => rfour_any y w' hyr
  generalize (storeR S root at' ((fourR y).take 1)).1 = er at HST ⊢
  generalize (storeR S root at' ((fourR y).take 1)).2 = S' at HST ⊢
  have HX := Lib.hid hx
  have HY := Lib.hid hy
  have HKL := Lib.hid hKlt
  have HKH : Hid (∀ k, K.has k → k < w.heap.size) := hKH
  have HGK := Lib.hid hgK
  have ib : (b : Int) < 8 := by omega
  have ia : (a : Int) < 8 := by omega
  have i4 : (4 : Int) ≤ cp := by omega
  have HU : Hid (w.cell? ⟨g, off, none⟩ = some (.int .u8 16) ∧ w.cell? ⟨g, off + 1, none⟩ = some (.int .u8 a) ∧ w.cell? ⟨g, off + 2, none⟩ = some (.int .u8 b) ∧ w.cell? ⟨g, off + 3, none⟩ = some (.int .u8 c)) := ⟨hu0, hu1, hu2, hu3⟩
  have hgw : g < w.heap.size := World.block_lt_of_cell? w _ hu0
  clear hx hy hat hm hreg hu0 hu1 hu2 hu3 HFRR hlN hKlt hKH hgK hxr hyr
  go_enter Tryz.func33, Tryz.ntmps33
  go_upto_region 1 with (fail)
  have h0 : ((w.alloc (.cells #[.int .u32 r0, .int .u32 r1, .int .u32 r2, .int .u32 r3, .int .u32 r4, .int .u32 r5, .int .u32 r6, .int .u32 r7, .int .u32 r8] 26)).alloc (.cells #[.int .u32 0, .int .u32 0, .int .u32 0, .int .u32 0, .int .u32 0, .int .u32 0, .int .u32 0, .int .u32 0, .int .u32 0] 26)).heap[w.heap.size]? = some (.cells ([.int .u32 r0, .int .u32 r1, .int .u32 r2, .int .u32 r3, .int .u32 r4, .int .u32 r5, .int .u32 r6, .int .u32 r7, .int .u32 r8] : List Value).toArray 26 (0, 0)) := blk_alloc (heap_alloc_new w _) _
  have h1 : ((w.alloc (.cells #[.int .u32 r0, .int .u32 r1, .int .u32 r2, .int .u32 r3, .int .u32 r4, .int .u32 r5, .int .u32 r6, .int .u32 r7, .int .u32 r8] 26)).alloc (.cells #[.int .u32 0, .int .u32 0, .int .u32 0, .int .u32 0, .int .u32 0, .int .u32 0, .int .u32 0, .int .u32 0, .int .u32 0] 26)).heap[w.heap.size + 1]? = some (.cells ([.int .u32 0, .int .u32 0, .int .u32 0, .int .u32 0, .int .u32 0, .int .u32 0, .int .u32 0, .int .u32 0, .int .u32 0] : List Value).toArray 26 (0, 0)) := by
    have := heap_alloc_new (w.alloc (.cells #[.int .u32 r0, .int .u32 r1, .int .u32 r2, .int .u32 r3, .int .u32 r4, .int .u32 r5, .int .u32 r6, .int .u32 r7, .int .u32 r8] 26)) (.cells #[.int .u32 0, .int .u32 0, .int .u32 0, .int .u32 0, .int .u32 0, .int .u32 0, .int .u32 0, .int .u32 0, .int .u32 0] 26)
    rwa [World.size_alloc] at this
  have hm1 : Mod No w ((w.alloc (.cells #[.int .u32 r0, .int .u32 r1, .int .u32 r2, .int .u32 r3, .int .u32 r4, .int .u32 r5, .int .u32 r6, .int .u32 r7, .int .u32 r8] 26)).alloc (.cells #[.int .u32 0, .int .u32 0, .int .u32 0, .int .u32 0, .int .u32 0, .int .u32 0, .int .u32 0, .int .u32 0, .int .u32 0] 26)) := ((Mod.refl No w).alloc _).alloc _
  generalize (w.alloc (.cells #[.int .u32 r0, .int .u32 r1, .int .u32 r2, .int .u32 r3, .int .u32 r4, .int .u32 r5, .int .u32 r6, .int .u32 r7, .int .u32 r8] 26)).alloc (.cells #[.int .u32 0, .int .u32 0, .int .u32 0, .int .u32 0, .int .u32 0, .int .u32 0, .int .u32 0, .int .u32 0, .int .u32 0] 26) = w1 at h0 h1 hm1 ⊢
  have HB0 : Hid (w.heap.size ≤ w.heap.size ∧ w.heap.size ≤ w.heap.size + 1) := ⟨Nat.le_refl _, by omega⟩
  have n01 : w.heap.size ≠ w.heap.size + 1 := by omega
  have hg0 : g ≠ w.heap.size := by omega
  have hg1 : g ≠ w.heap.size + 1 := by omega
  generalize w.heap.size + 1 = b1 at h1 n01 HB0 hg1 ⊢
  obtain ⟨b0, hb0⟩ : ∃ b0, b0 = w.heap.size := ⟨_, rfl⟩
  rw [← hb0] at h0 n01 hg0 ⊢
  have HBE := Lib.hid hb0
  have HH0 := Lib.hid h0
  have HH1 := Lib.hid h1
  have HM1 := Lib.hid hm1
  have hrb : w1.cell? ⟨b0, b, none⟩ = some (.int .u32 x) := by rw [HX.out]; exact regs9 h0 hb
  have cells : ∀ w', Mod No w w' → w'.cell? ⟨g, off, none⟩ = some (.int .u8 16) ∧ w'.cell? ⟨g, off + 1, none⟩ = some (.int .u8 a) ∧ w'.cell? ⟨g, off + 2, none⟩ = some (.int .u8 b) ∧ w'.cell? ⟨g, off + 3, none⟩ = some (.int .u8 c) := fun w' hm' =>
    ⟨(World.cell?_of_block (w := w) (hm'.block g hgw (fun q => q))).trans HU.out.1, (World.cell?_of_block (w := w) (hm'.block g hgw (fun q => q))).trans HU.out.2.1, (World.cell?_of_block (w := w) (hm'.block g hgw (fun q => q))).trans HU.out.2.2.1, (World.cell?_of_block (w := w) (hm'.block g hgw (fun q => q))).trans HU.out.2.2.2⟩
  have HC := Lib.hid cells
  obtain ⟨u0, u1, u2, u3⟩ := cells w1 hm1
  clear h0 h1 hm1 cells hb0
  go_quiet (fail)
  rw [HAT.out]
  have hmq : Mod No w1 (w1.drewN nq) := (Mod.refl No w1).drewN nq
  generalize w1.drewN nq = w2 at hmq ⊢
  have HQ0 := Lib.hid (hmq.blk HH0.out (fun q => q))
  have HQ1 := Lib.hid (hmq.blk HH1.out (fun q => q))
  have HM2 := Lib.hid (HM1.out.trans hmq)
  clear u0 u1 u2 u3 hrb HH0 HH1 HM1 hmq HAT HU
  obtain ⟨u0, u1, u2, u3⟩ := HC.out w2 HM2.out
  go_upto_region 10 with (fail)
  have HS : Hid (∀ w', Mod (fun k => k = b1 ∨ K.inn k) w2 w' → (fun w' : World => w'.cell? ⟨g, off + 1, none⟩ = some (.int .u8 a) ∧ w'.cell? ⟨b0, a, none⟩ = some (.int .u32 y) ∧ w'.cell? ⟨b0, 0, none⟩ = some (.int .u32 r0) ∧ w'.cell? ⟨b0, 1, none⟩ = some (.int .u32 r1) ∧ w'.cell? ⟨b0, 2, none⟩ = some (.int .u32 r2) ∧ w'.cell? ⟨b0, 3, none⟩ = some (.int .u32 r3) ∧ w'.cell? ⟨b0, 4, none⟩ = some (.int .u32 r4) ∧ w'.cell? ⟨b0, 5, none⟩ = some (.int .u32 r5) ∧ w'.cell? ⟨b0, 6, none⟩ = some (.int .u32 r6) ∧ w'.cell? ⟨b0, 7, none⟩ = some (.int .u32 r7) ∧ w'.cell? ⟨b0, 8, none⟩ = some (.int .u32 r8)) w') := fun w' hm' =>
    have hz := HKL.out
    have hz0 := HBE.out
    have hw2 := HM2.out.size
    have h0 := hm'.blk HQ0.out (fun q => q.elim n01 (fun q => by have := hz _ q; omega))
    ⟨(World.cell?_of_block (w := w2) (hm'.block g (by omega) (fun q => q.elim hg1 HGK.out))).trans u1, by rw [HY.out]; exact regs9 h0 ha, row_cell h0 0, row_cell h0 1, row_cell h0 2, row_cell h0 3, row_cell h0 4, row_cell h0 5, row_cell h0 6, row_cell h0 7, row_cell h0 8⟩
  have hS1 := HS.out w2 (Mod.refl _ w2)
  obtain ⟨v1, v2, x0, x1, x2, x3, x4, x5, x6, x7, x8⟩ := hS1
  have hS1 := HS.out w2 (Mod.refl _ w2)
  have hS0 := HS.out w2.drew ((Mod.refl _ w2).drew)
  have HQS : Hid (w.heap.size ≤ w2.heap.size) := HM2.out.size
  go_region_held3 (fun w' : World => w'.cell? ⟨g, off + 1, none⟩ = some (.int .u8 a) ∧ w'.cell? ⟨b0, a, none⟩ = some (.int .u32 y) ∧ w'.cell? ⟨b0, 0, none⟩ = some (.int .u32 r0) ∧ w'.cell? ⟨b0, 1, none⟩ = some (.int .u32 r1) ∧ w'.cell? ⟨b0, 2, none⟩ = some (.int .u32 r2) ∧ w'.cell? ⟨b0, 3, none⟩ = some (.int .u32 r3) ∧ w'.cell? ⟨b0, 4, none⟩ = some (.int .u32 r4) ∧ w'.cell? ⟨b0, 5, none⟩ = some (.int .u32 r5) ∧ w'.cell? ⟨b0, 6, none⟩ = some (.int .u32 r6) ∧ w'.cell? ⟨b0, 7, none⟩ = some (.int .u32 r7) ∧ w'.cell? ⟨b0, 8, none⟩ = some (.int .u32 r8)) (first | with_reducible exact hS0 | with_reducible exact hS1 | with_reducible exact hS2 | with_reducible exact hS3 | exact HS.out _ (Mod.put (Mod.put (Mod.put (Mod.put (Mod.put (Mod.put (Mod.put (Mod.put (Mod.put HM6.out (.inl rfl) 0 _) (.inl rfl) 1 _) (.inl rfl) 2 _) (.inl rfl) 3 _) (.inl rfl) 4 _) (.inl rfl) 5 _) (.inl rfl) 6 _) (.inl rfl) 7 _) (.inl rfl) 8 _)) (first
    | (go_at_call 68; refine (HFO.out _).mono ?_; rintro e w4 ⟨rfl, hm4, hg4, _⟩; have hM4 : Mod (fun k => k = b1 ∨ K.inn k) w2 w4 := (Mod.refl _ w2).drew.trans hm4.of_no; have hS2 := HS.out w4 hM4; have HM4 := Lib.hid hM4; have HN4 : Hid (Mod No w w4) := HM2.out.trans ((Mod.refl No w2).drew.trans hm4); have HN42 : Hid (Mod No w2 w4) := (Mod.refl No w2).drew.trans hm4; have HG4 := Lib.hid hg4; clear hm4 hg4 hM4)
    | (go_at_call 67; refine (HST.out _ _ HN4.out HG4.out HQS.out).mono ?_; rintro e w6 ⟨rfl, hm6, hr6⟩; have hM6 : Mod (fun k => k = b1 ∨ K.inn k) w2 w6 := HM4.out.trans (hm6.mono (fun _ _ q => .inr q)); have hS3 := HS.out w6 hM6; have hF1 : w6.heap[b1]? = _ := (hm6.blk ((HN42.out).blk HQ1.out (fun q => q)) (fun q => by have := HKL.out _ q; have := HB0.out; omega)); have HM6 := Lib.hid hM6; have HN6 := Lib.hid hm6; have HR6 := Lib.hid hr6; have z0 := row_cell hF1 0; have z1 := row_cell hF1 1; have z2 := row_cell hF1 2; have z3 := row_cell hF1 3; have z4 := row_cell hF1 4; have z5 := row_cell hF1 5; have z6 := row_cell hF1 6; have z7 := row_cell hF1 7; have z8 := row_cell hF1 8; simp only [List.getElem?_cons_zero, List.getElem?_cons_succ] at z0 z1 z2 z3 z4 z5 z6 z7 z8; have f0 : w6.frozen? ⟨b1, 0, none⟩ = false := row_free hF1 0; have f1 : w6.frozen? ⟨b1, 1, none⟩ = false := row_free hF1 1; have f2 : w6.frozen? ⟨b1, 2, none⟩ = false := row_free hF1 2; have f3 : w6.frozen? ⟨b1, 3, none⟩ = false := row_free hF1 3; have f4 : w6.frozen? ⟨b1, 4, none⟩ = false := row_free hF1 4; have f5 : w6.frozen? ⟨b1, 5, none⟩ = false := row_free hF1 5; have f6 : w6.frozen? ⟨b1, 6, none⟩ = false := row_free hF1 6; have f7 : w6.frozen? ⟨b1, 7, none⟩ = false := row_free hF1 7; have f8 : w6.frozen? ⟨b1, 8, none⟩ = false := row_free hF1 8; have p1 : b1 < w6.heap.size := lt_of_blk hF1; have HF1 := Lib.hid hF1; clear hm6 hr6 hM6 hF1))
  have hE : (((((((((w6.setCell ⟨b1, 0, none⟩ (.int .u32 r0)).setCell ⟨b1, 1, none⟩ (.int .u32 r1)).setCell ⟨b1, 2, none⟩ (.int .u32 r2)).setCell ⟨b1, 3, none⟩ (.int .u32 r3)).setCell ⟨b1, 4, none⟩ (.int .u32 r4)).setCell ⟨b1, 5, none⟩ (.int .u32 r5)).setCell ⟨b1, 6, none⟩ (.int .u32 r6)).setCell ⟨b1, 7, none⟩ (.int .u32 r7)).setCell ⟨b1, 8, none⟩ (.int .u32 r8)).heap[b1]? = some (.cells ([.int .u32 r0, .int .u32 r1, .int .u32 r2, .int .u32 r3, .int .u32 r4, .int .u32 r5, .int .u32 r6, .int .u32 r7, .int .u32 r8] : List Value).toArray 26 (0, 0)) := set9 HF1.out rfl (.int .u32 r0) (.int .u32 r1) (.int .u32 r2) (.int .u32 r3) (.int .u32 r4) (.int .u32 r5) (.int .u32 r6) (.int .u32 r7) (.int .u32 r8)
  have hend : Mod (fun k => k = b1) w6 (((((((((w6.setCell ⟨b1, 0, none⟩ (.int .u32 r0)).setCell ⟨b1, 1, none⟩ (.int .u32 r1)).setCell ⟨b1, 2, none⟩ (.int .u32 r2)).setCell ⟨b1, 3, none⟩ (.int .u32 r3)).setCell ⟨b1, 4, none⟩ (.int .u32 r4)).setCell ⟨b1, 5, none⟩ (.int .u32 r5)).setCell ⟨b1, 6, none⟩ (.int .u32 r6)).setCell ⟨b1, 7, none⟩ (.int .u32 r7)).setCell ⟨b1, 8, none⟩ (.int .u32 r8)) := (Mod.put (Mod.put (Mod.put (Mod.put (Mod.put (Mod.put (Mod.put (Mod.put (Mod.put (Mod.refl (fun k => k = b1) _) rfl 0 _) rfl 1 _) rfl 2 _) rfl 3 _) rfl 4 _) rfl 5 _) rfl 6 _) rfl 7 _) rfl 8 _)
  generalize (((((((((w6.setCell ⟨b1, 0, none⟩ (.int .u32 r0)).setCell ⟨b1, 1, none⟩ (.int .u32 r1)).setCell ⟨b1, 2, none⟩ (.int .u32 r2)).setCell ⟨b1, 3, none⟩ (.int .u32 r3)).setCell ⟨b1, 4, none⟩ (.int .u32 r4)).setCell ⟨b1, 5, none⟩ (.int .u32 r5)).setCell ⟨b1, 6, none⟩ (.int .u32 r6)).setCell ⟨b1, 7, none⟩ (.int .u32 r7)).setCell ⟨b1, 8, none⟩ (.int .u32 r8)) = wE at hE hend ⊢
  have e0 := row_cell hE 0
  have e1 := row_cell hE 1
  have e2 := row_cell hE 2
  have e3 := row_cell hE 3
  have e4 := row_cell hE 4
  have e5 := row_cell hE 5
  have e6 := row_cell hE 6
  have e7 := row_cell hE 7
  have e8 := row_cell hE 8
  simp only [List.getElem?_cons_zero, List.getElem?_cons_succ] at e0 e1 e2 e3 e4 e5 e6 e7 e8
  have HEND := Lib.hid hend
  clear z0 z1 z2 z3 z4 z5 z6 z7 z8 f0 f1 f2 f3 f4 f5 f6 f7 f8 p1 hS0 hS1 hS2 hS3 x0 x1 x2 x3 x4 x5 x6 x7 x8 v1 v2 u0 u1 u2 u3 hend
  go_wp2
  refine bodyPost_ret (v := .tuple #[.agg #[.int .u32 r0, .int .u32 r1, .int .u32 r2, .int .u32 r3, .int .u32 r4, .int .u32 r5, .int .u32 r6, .int .u32 r7, .int .u32 r8], .int .i64 er]) (by simp [results, Tryz.results33, go_sem, e0, e1, e2, e3, e4, e5, e6, e7, e8]) rfl ?_
  exact ⟨rfl, (HN4.out.of_no.trans HN6.out).step HEND.out (fun i hi q => by have := HB0.out; omega), HR6.out.kept HEND.out (fun k hk (e : k = b1) => by have := HKH.out k hk; have := HB0.out; omega)⟩

end Go.Proofs.YtlbebneblmgdcaaGreatDoor
