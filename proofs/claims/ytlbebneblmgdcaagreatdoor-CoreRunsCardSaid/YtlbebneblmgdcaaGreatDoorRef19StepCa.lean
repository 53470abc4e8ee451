/- tenementref19.Step: good instructions, part a. (Printed by wip/gen_rstep2.py.) -/
import Derived.Test.YtlbebneblmgdcaaGreatDoorRef19StepB
namespace Go.Proofs.YtlbebneblmgdcaaGreatDoor
open Go.RowKit
set_option maxRecDepth 100000

set_option maxHeartbeats 8000000 in
theorem rstep_4a {K : RfK} {S : List Fr} (root r0 r1 r2 r3 r4 r5 r6 r7 r8 : Int) (w : World) (hm : RfM w K S) (h8 : 0 ≤ r8 ∧ r8 ≤ 4294967295) (o a b c' : Nat) (he : (fetchR S root r8 4).1 = 0) (hbs : (fetchR S root r8 4).2 = [(o : Int), (a : Int), (b : Int), (c' : Int)]) (ho : o ≤ 20) (hra : a ≤ 255) (hrb : b ≤ 255) (hrc : c' ≤ 255) (hreg : ∀ x ∈ [r0, r1, r2, r3, r4, r5, r6, r7], 0 ≤ x ∧ x ≤ 4294967295) (hgood : ¬ ((1 ≤ namedR o ∧ 7 < (a : Int)) ∨ (2 ≤ namedR o ∧ 7 < (b : Int)) ∨ (3 ≤ namedR o ∧ 7 < (c' : Int)))) (hgr : o ≤ 3) :
    Calls Tryz.prog 16 #[.pointer (some ⟨K.R, 0, none⟩), .int .i64 root, .agg #[.int .u32 r0, .int .u32 r1, .int .u32 r2, .int .u32 r3, .int .u32 r4, .int .u32 r5, .int .u32 r6, .int .u32 r7, .int .u32 r8]] w (RStepPost K (if (doR S root [r0, r1, r2, r3, r4, r5, r6, r7] ((r8 + 4) % 1048576) o a b c').s.k = 3 ∨ (doR S root [r0, r1, r2, r3, r4, r5, r6, r7] ((r8 + 4) % 1048576) o a b c').s.k = 1 then (⟨[r0, r1, r2, r3, r4, r5, r6, r7], r8, (doR S root [r0, r1, r2, r3, r4, r5, r6, r7] ((r8 + 4) % 1048576) o a b c').s, (doR S root [r0, r1, r2, r3, r4, r5, r6, r7] ((r8 + 4) % 1048576) o a b c').S⟩ : Out) else doR S root [r0, r1, r2, r3, r4, r5, r6, r7] ((r8 + 4) % 1048576) o a b c') w) := by
  have HFE : Hid (∀ w' , Mod No w w' → Calls Tryz.prog 29 #[.pointer (some ⟨K.R, 0, none⟩), .int .i64 root, .int .u32 r8, .int .i64 4] w' (OwnB w' (fetchR S root r8 4).1 (fetchR S root r8 4).2)) := fun w' hm' => rfetchR root r8 4 w' (hm.keptNo hm') h8.1 h8.2 (by omega)
  have HM := Lib.hid hm
  have HRF := Lib.hid (fun (n : Int) (w' : World) => rfault_any n w')
  have hfit : r8 + 4 ≤ 1048576 := fetchR_fits he (by omega)
  obtain ⟨pn, hpn⟩ : ∃ pn, pn = (r8 + 4) % 1048576 := ⟨_, rfl⟩
  rw [← hpn]
  generalize hout : (if (doR S root [r0, r1, r2, r3, r4, r5, r6, r7] pn o a b c').s.k = 3 ∨ (doR S root [r0, r1, r2, r3, r4, r5, r6, r7] pn o a b c').s.k = 1 then (⟨[r0, r1, r2, r3, r4, r5, r6, r7], r8, (doR S root [r0, r1, r2, r3, r4, r5, r6, r7] pn o a b c').s, (doR S root [r0, r1, r2, r3, r4, r5, r6, r7] pn o a b c').S⟩ : Out) else doR S root [r0, r1, r2, r3, r4, r5, r6, r7] pn o a b c') = out
  have HOUT := Lib.hid hout
  clear hout
  have HREG := Lib.hid hreg
  have HGOOD := Lib.hid hgood
  have hp1 : (r8 + 4) % 4294967296 = r8 + 4 := by omega
  have hp2 : (r8 + 4) % 1048576 = pn := hpn.symm
  have hp3 : (r8 + 4).tmod 1048576 = pn := by rw [Int.tmod_eq_emod_of_nonneg (by omega), hp2]
  have hm1 : (256 * (c' : Int)) % 4294967296 = 256 * c' := by omega
  have hm2 : ((b : Int) + 256 * c') % 4294967296 = b + 256 * c' := by omega
  have hpr : 0 ≤ pn ∧ pn < 1048576 := by omega
  have hw1 : IntKind.u32.wrap (b : Int) = b := IntWalk.u32_in _ (by omega)
  have hw2 : IntKind.u32.wrap (c' : Int) = c' := IntWalk.u32_in _ (by omega)
  clear hpn hfit hreg hgood
  have HFR := Lib.hid (fetchR_range (root := root) (va := r8) (n := 4) hm.ok)
  have HFS : Hid ((fetchR S root r8 4).2.length ≤ 256) := Lib.hid fetchR_small
  rw [he] at HFE
  have HBS := Lib.hid hbs
  generalize (fetchR S root r8 4).2 = bs at HFE HFR HFS HBS
  clear he hbs
  clear hm h8
  go_enter Tryz.func16, Tryz.ntmps16
  go_upto_region 1 with (fail)
  have hwb := rst_made w r0 r1 r2 r3 r4 r5 r6 r7 r8
  generalize (((w.alloc (.cells #[.int .u32 r0, .int .u32 r1, .int .u32 r2, .int .u32 r3, .int .u32 r4, .int .u32 r5, .int .u32 r6, .int .u32 r7, .int .u32 r8] 26)).alloc (.cells #[.int .u32 0, .int .u32 0, .int .u32 0, .int .u32 0, .int .u32 0, .int .u32 0, .int .u32 0, .int .u32 0, .int .u32 0] 26)).alloc (.cells #[.int .i64 0, .int .u32 0, .int .u32 0, .int .u32 0, .int .u32 0, .int .u32 0, .int .u32 0, .int .i64 0] 34)) = w1 at hwb ⊢
  generalize w.heap.size + 1 + 1 = b2 at hwb ⊢
  generalize w.heap.size + 1 = b1 at hwb ⊢
  generalize w.heap.size = b0 at hwb ⊢
  have HW := Lib.hid hwb
  have x8 := row_cell hwb.h0 8
  simp only [List.getElem?_cons_zero, List.getElem?_cons_succ] at x8
  clear hwb
  go_wp2_with fail
  refine (HFE.out _ HW.out.m).mono ?_
  rintro e w2 ⟨q, k, c, rfl, hm2, hown⟩
  have HW2 := Lib.hid (HW.out.kept hm2)
  have HW1 := Lib.hid HW.out.h2
  have HOWN := Lib.hid hown
  clear x8 hm2 hown HW HFE
  obtain ⟨hk, hby, hblk⟩ := Byt.ofOwn HOWN.out HFR.out (Nat.le_trans HFS.out (by omega))
  obtain ⟨g, off, rfl, hg, hcell⟩ := hby.at_ (by have := HBS.out; rw [this]; simp)
  have hgl := (hblk g off rfl).1
  have hB := HBS.out
  rw [hB] at hcell
  have u0 := hcell 0 (o : Int) rfl
  have u1 := hcell 1 a rfl
  have u2 := hcell 2 b rfl
  have u3 := hcell 3 c' rfl
  simp only [Nat.add_zero] at u0
  have hk4 : k = 4 := by rw [hk, hB]; rfl
  subst hk4
  have hg2 : b2 < g := by have := lt_of_blk HW1.out; omega
  have HU : Hid (w2.cell? ⟨g, off, none⟩ = some (.int .u8 o) ∧ w2.cell? ⟨g, off + 1, none⟩ = some (.int .u8 a) ∧ w2.cell? ⟨g, off + 2, none⟩ = some (.int .u8 b) ∧ w2.cell? ⟨g, off + 3, none⟩ = some (.int .u8 c')) := Lib.hid ⟨u0, u1, u2, u3⟩
  have hc4 : (4 : Int) ≤ c := by have := hby.fit; rw [hB] at this; have : 4 ≤ c := this; omega
  clear hcell hby hblk HOWN hk hB
  have hlK : ∀ k, K.has k → k < w.heap.size := fun k q => HM.out.lt k q
  have HLK := Lib.hid hlK
  have hgb : 0 < 1 := by omega
  clear hlK
  have d20 : decide ((o : Int) > 20) = false := decide_eq_false (by omega)
  have HNM := Lib.hid (fun w' => rnamed_any (o : Int) w' (by omega))
  have hN : namedR o ≤ 3 := namedR_le _
  have HC4 := Lib.hid hc4
  generalize hNE : namedR o = N at HNM hN HGOOD ⊢
  have HNE := Lib.hid hNE
  clear hNE
  go_wp2_with fail
  go_loopw [11] (fun iv wr => ∃ (j : Nat), 1 ≤ j ∧ j ≤ N + 1 ∧ iv = .int .i64 j ∧ wr = w2 ∧ ((1 < j → a ≤ 7) ∧ (2 < j → b ≤ 7) ∧ (3 < j → c' ≤ 7))) (fun iv _ => N + 1 - (intOf iv).toNat)
  case atStart => exact ⟨1, Nat.le_refl _, by omega, rfl, rfl, by omega⟩
  case round =>
    obtain ⟨j, hj1, hj, rfl, rfl, hok⟩ := hrel
    by_cases hlt : j ≤ N
    · have hle : decide ((j : Int) ≤ (N : Int)) = true := decide_eq_true (by omega)
      have hj4 : (j : Int) < 4 := by omega
      have hj0 : (0 : Int) ≤ (j : Int) := by omega
      obtain ⟨x, hx, hxe⟩ : ∃ x, wr.cell? ⟨g, off + j, none⟩ = some (.int .u8 x) ∧ ((j = 1 ∧ x = a) ∨ (j = 2 ∧ x = b) ∨ (j = 3 ∧ x = c')) := by
        rcases (show j = 1 ∨ j = 2 ∨ j = 3 by omega) with rfl | rfl | rfl
        · exact ⟨a, HU.out.2.1, .inl ⟨rfl, rfl⟩⟩
        · exact ⟨b, HU.out.2.2.1, .inr (.inl ⟨rfl, rfl⟩)⟩
        · exact ⟨c', HU.out.2.2.2, .inr (.inr ⟨rfl, rfl⟩)⟩
      have HXE := Lib.hid hxe
      have HOK := Lib.hid hok
      by_cases h7 : 7 < x
      · have d7 : decide (x > 7) = true := decide_eq_true h7
        clear hxe hok
        exfalso
        have := HXE.out; have := HGOOD.out; omega
      · have d7 : decide (x > 7) = false := decide_eq_false h7
        clear hxe hok
        go_wp2_with (go_at_call 31; refine (HNM.out _).mono ?_; rintro e w3 ⟨rfl, rfl⟩)
        go_roundw
        case rel => exact ⟨j + 1, by omega, by omega, by go_num, (by first | rfl | trivial), by have := HXE.out; have := HOK.out; omega⟩
        case measure => simp [intOf]; omega
    · have hle : decide ((j : Int) ≤ (N : Int)) = false := decide_eq_false (by omega)
      have hgw : g < wr.heap.size := World.block_lt_of_cell? wr _ u0
      have pb0 : b0 < wr.heap.size := lt_of_blk HW2.out.h0
      have y0 := row_cell HW2.out.h0 0
      have y1 := row_cell HW2.out.h0 1
      have y2 := row_cell HW2.out.h0 2
      have y3 := row_cell HW2.out.h0 3
      have y4 := row_cell HW2.out.h0 4
      have y5 := row_cell HW2.out.h0 5
      have y6 := row_cell HW2.out.h0 6
      have y7 := row_cell HW2.out.h0 7
      have y8 := row_cell HW2.out.h0 8
      simp only [List.getElem?_cons_zero, List.getElem?_cons_succ] at y0 y1 y2 y3 y4 y5 y6 y7 y8
      clear hok HU hgb
      go_upto_region 14 with (go_at_call 31; refine (HNM.out _).mono ?_; rintro e w3 ⟨rfl, rfl⟩)
      go_region
      go_upto_region 16 with (fail)
      have hr3 := rs4_made HW2.out HM.out HLK.out
      have hb3 : By4 ((wr.alloc (.cells #[.int .u32 r0, .int .u32 r1, .int .u32 r2, .int .u32 r3, .int .u32 r4, .int .u32 r5, .int .u32 r6, .int .u32 r7, .int .u32 r8] 26)).alloc (.cells #[.int .i64 0, .int .u32 0, .int .u32 0, .int .u32 0, .int .u32 0, .int .u32 0, .int .u32 0, .int .i64 0] 34)).drew g off o a b c' := By4.on (w := wr) (Q := No) ⟨u0, u1, u2, u3⟩ ((((Mod.refl No wr).alloc _).alloc _).drew) (fun q => q)
      generalize ((wr.alloc (.cells #[.int .u32 r0, .int .u32 r1, .int .u32 r2, .int .u32 r3, .int .u32 r4, .int .u32 r5, .int .u32 r6, .int .u32 r7, .int .u32 r8] 26)).alloc (.cells #[.int .i64 0, .int .u32 0, .int .u32 0, .int .u32 0, .int .u32 0, .int .u32 0, .int .u32 0, .int .i64 0] 34)).drew = w3 at hr3 hb3 ⊢
      have hgn : g < wr.heap.size := hgw
      generalize wr.heap.size + 1 = b4 at hr3 ⊢
      generalize wr.heap.size = b3 at hr3 hgn ⊢
      have HR3 := Lib.hid hr3
      have HB3 := Lib.hid hb3
      have HG2 : Hid (b2 < g) := hg2
      have NGB : Hid (g ≠ b0) := fun q => by have := HR3.out.l1; have := HR3.out.l2; omega
      clear hr3 hb3 hgw pb0 u0 u1 u2 u3 HW2 y0 y1 y2 y3 y4 y5 y6 y7 y8 HLK hle hj1 hj hN hm1 hm2 hw1 hw2 hp1 hp2 hp3 hgn
      by_cases c0 : o = 0
      · have d0 : ((o : Int) == 0) = true := beq_iff_eq.2 (by omega)
        have d1 : ((o : Int) == 1) = false := beq_eq_false_iff_ne.2 (by omega)
        have d2 : ((o : Int) == 2) = false := beq_eq_false_iff_ne.2 (by omega)
        have d3 : ((o : Int) == 3) = false := beq_eq_false_iff_ne.2 (by omega)
        have d12 : decide ((o : Int) ≤ 12) = true := decide_eq_true (by omega)
        have d16 : decide ((o : Int) ≤ 16) = true := decide_eq_true (by omega)
        have d17 : ((o : Int) == 17) = false := beq_eq_false_iff_ne.2 (by omega)
        have d18 : ((o : Int) == 18) = false := beq_eq_false_iff_ne.2 (by omega)
        have d19 : ((o : Int) == 19) = false := beq_eq_false_iff_ne.2 (by omega)
        have d20 : ((o : Int) == 20) = false := beq_eq_false_iff_ne.2 (by omega)
        have HO : Hid (o = 0) := c0
        clear c0
        have y0 := row_cell HR3.out.h1 0
        have y1 := row_cell HR3.out.h1 1
        have y2 := row_cell HR3.out.h1 2
        have y3 := row_cell HR3.out.h1 3
        have y4 := row_cell HR3.out.h1 4
        have y5 := row_cell HR3.out.h1 5
        have y6 := row_cell HR3.out.h1 6
        have y7 := row_cell HR3.out.h1 7
        have y8 := row_cell HR3.out.h1 8
        have z0 := row_cell HR3.out.h2 0
        have z1 := row_cell HR3.out.h2 1
        have z2 := row_cell HR3.out.h2 2
        have z3 := row_cell HR3.out.h2 3
        have z4 := row_cell HR3.out.h2 4
        have z5 := row_cell HR3.out.h2 5
        have z6 := row_cell HR3.out.h2 6
        have z7 := row_cell HR3.out.h2 7
        simp only [List.getElem?_cons_zero, List.getElem?_cons_succ] at y0 y1 y2 y3 y4 y5 y6 y7 y8 z0 z1 z2 z3 z4 z5 z6 z7
        have fy0 : w3.frozen? ⟨b1, 0, none⟩ = false := row_free HR3.out.h1 0
        have fy1 : w3.frozen? ⟨b1, 1, none⟩ = false := row_free HR3.out.h1 1
        have fy2 : w3.frozen? ⟨b1, 2, none⟩ = false := row_free HR3.out.h1 2
        have fy3 : w3.frozen? ⟨b1, 3, none⟩ = false := row_free HR3.out.h1 3
        have fy4 : w3.frozen? ⟨b1, 4, none⟩ = false := row_free HR3.out.h1 4
        have fy5 : w3.frozen? ⟨b1, 5, none⟩ = false := row_free HR3.out.h1 5
        have fy6 : w3.frozen? ⟨b1, 6, none⟩ = false := row_free HR3.out.h1 6
        have fy7 : w3.frozen? ⟨b1, 7, none⟩ = false := row_free HR3.out.h1 7
        have fy8 : w3.frozen? ⟨b1, 8, none⟩ = false := row_free HR3.out.h1 8
        have fz0 : w3.frozen? ⟨b2, 0, none⟩ = false := row_free HR3.out.h2 0
        have fz1 : w3.frozen? ⟨b2, 1, none⟩ = false := row_free HR3.out.h2 1
        have fz2 : w3.frozen? ⟨b2, 2, none⟩ = false := row_free HR3.out.h2 2
        have fz3 : w3.frozen? ⟨b2, 3, none⟩ = false := row_free HR3.out.h2 3
        have fz4 : w3.frozen? ⟨b2, 4, none⟩ = false := row_free HR3.out.h2 4
        have fz5 : w3.frozen? ⟨b2, 5, none⟩ = false := row_free HR3.out.h2 5
        have fz6 : w3.frozen? ⟨b2, 6, none⟩ = false := row_free HR3.out.h2 6
        have fz7 : w3.frozen? ⟨b2, 7, none⟩ = false := row_free HR3.out.h2 7
        have p1 : b1 < w3.heap.size := lt_of_blk HR3.out.h1
        have p2 : b2 < w3.heap.size := lt_of_blk HR3.out.h2
        have n01 : b0 ≠ b1 := by have := HR3.out.l1; have := HR3.out.l2; have := HR3.out.l3; have := HR3.out.l4; omega
        have n02 : b0 ≠ b2 := by have := HR3.out.l1; have := HR3.out.l2; have := HR3.out.l3; have := HR3.out.l4; omega
        have n12 : b1 ≠ b2 := by have := HR3.out.l1; have := HR3.out.l2; have := HR3.out.l3; have := HR3.out.l4; omega
        have n13 : b1 ≠ b3 := by have := HR3.out.l1; have := HR3.out.l2; have := HR3.out.l3; have := HR3.out.l4; omega
        have n14 : b1 ≠ b4 := by have := HR3.out.l1; have := HR3.out.l2; have := HR3.out.l3; have := HR3.out.l4; omega
        have n23 : b2 ≠ b3 := by have := HR3.out.l1; have := HR3.out.l2; have := HR3.out.l3; have := HR3.out.l4; omega
        have n24 : b2 ≠ b4 := by have := HR3.out.l1; have := HR3.out.l2; have := HR3.out.l3; have := HR3.out.l4; omega
        have n04 : b0 ≠ b4 := by have := HR3.out.l1; have := HR3.out.l2; have := HR3.out.l3; have := HR3.out.l4; omega
        have n03 : b0 ≠ b3 := by have := HR3.out.l1; have := HR3.out.l2; have := HR3.out.l3; have := HR3.out.l4; omega
        have m0 := row_cell HR3.out.h3 0
        have m1 := row_cell HR3.out.h3 1
        have m2 := row_cell HR3.out.h3 2
        have m3 := row_cell HR3.out.h3 3
        have m4 := row_cell HR3.out.h3 4
        have m5 := row_cell HR3.out.h3 5
        have m6 := row_cell HR3.out.h3 6
        have m7 := row_cell HR3.out.h3 7
        have m8 := row_cell HR3.out.h3 8
        simp only [List.getElem?_cons_zero, List.getElem?_cons_succ] at m0 m1 m2 m3 m4 m5 m6 m7 m8
        go_upto_region 99 with (fail)
        have n12 : b1 ≠ b2 := by have := HR3.out.l2; omega
        have hE1 : ((((((((((((((((((w3.setCell ⟨b1, 0, none⟩ (.int .u32 r0)).setCell ⟨b1, 1, none⟩ (.int .u32 r1)).setCell ⟨b1, 2, none⟩ (.int .u32 r2)).setCell ⟨b1, 3, none⟩ (.int .u32 r3)).setCell ⟨b1, 4, none⟩ (.int .u32 r4)).setCell ⟨b1, 5, none⟩ (.int .u32 r5)).setCell ⟨b1, 6, none⟩ (.int .u32 r6)).setCell ⟨b1, 7, none⟩ (.int .u32 r7)).setCell ⟨b1, 8, none⟩ (.int .u32 r8)).setCell ⟨b2, 0, none⟩ (.int .i64 1)).setCell ⟨b2, 1, none⟩ (.int .u32 0)).setCell ⟨b2, 2, none⟩ (.int .u32 0)).setCell ⟨b2, 3, none⟩ (.int .u32 0)).setCell ⟨b2, 4, none⟩ (.int .u32 0)).setCell ⟨b2, 5, none⟩ (.int .u32 0)).setCell ⟨b2, 6, none⟩ (.int .u32 0)).setCell ⟨b2, 7, none⟩ (.int .i64 0))).heap[b1]? = some (.cells ([.int .u32 r0, .int .u32 r1, .int .u32 r2, .int .u32 r3, .int .u32 r4, .int .u32 r5, .int .u32 r6, .int .u32 r7, .int .u32 r8] : List Value).toArray 26 (0, 0)) := by
          have h := set9 HR3.out.h1 rfl (.int .u32 r0) (.int .u32 r1) (.int .u32 r2) (.int .u32 r3) (.int .u32 r4) (.int .u32 r5) (.int .u32 r6) (.int .u32 r7) (.int .u32 r8)
          exact (blk_setCell (blk_setCell (blk_setCell (blk_setCell (blk_setCell (blk_setCell (blk_setCell (blk_setCell h n12 _) n12 _) n12 _) n12 _) n12 _) n12 _) n12 _) n12 _)
        have hE2 : ((((((((((((((((((w3.setCell ⟨b1, 0, none⟩ (.int .u32 r0)).setCell ⟨b1, 1, none⟩ (.int .u32 r1)).setCell ⟨b1, 2, none⟩ (.int .u32 r2)).setCell ⟨b1, 3, none⟩ (.int .u32 r3)).setCell ⟨b1, 4, none⟩ (.int .u32 r4)).setCell ⟨b1, 5, none⟩ (.int .u32 r5)).setCell ⟨b1, 6, none⟩ (.int .u32 r6)).setCell ⟨b1, 7, none⟩ (.int .u32 r7)).setCell ⟨b1, 8, none⟩ (.int .u32 r8)).setCell ⟨b2, 0, none⟩ (.int .i64 1)).setCell ⟨b2, 1, none⟩ (.int .u32 0)).setCell ⟨b2, 2, none⟩ (.int .u32 0)).setCell ⟨b2, 3, none⟩ (.int .u32 0)).setCell ⟨b2, 4, none⟩ (.int .u32 0)).setCell ⟨b2, 5, none⟩ (.int .u32 0)).setCell ⟨b2, 6, none⟩ (.int .u32 0)).setCell ⟨b2, 7, none⟩ (.int .i64 0))).heap[b2]? = some (.cells ([.int .i64 1, .int .u32 0, .int .u32 0, .int .u32 0, .int .u32 0, .int .u32 0, .int .u32 0, .int .i64 0] : List Value).toArray 34 (0, 0)) := by
          refine set8 (w := (((((((((w3.setCell ⟨b1, 0, none⟩ (.int .u32 r0)).setCell ⟨b1, 1, none⟩ (.int .u32 r1)).setCell ⟨b1, 2, none⟩ (.int .u32 r2)).setCell ⟨b1, 3, none⟩ (.int .u32 r3)).setCell ⟨b1, 4, none⟩ (.int .u32 r4)).setCell ⟨b1, 5, none⟩ (.int .u32 r5)).setCell ⟨b1, 6, none⟩ (.int .u32 r6)).setCell ⟨b1, 7, none⟩ (.int .u32 r7)).setCell ⟨b1, 8, none⟩ (.int .u32 r8))) (L := [.int .i64 0, .int .u32 0, .int .u32 0, .int .u32 0, .int .u32 0, .int .u32 0, .int .u32 0, .int .i64 0]) ?_ rfl (.int .i64 1) (.int .u32 0) (.int .u32 0) (.int .u32 0) (.int .u32 0) (.int .u32 0) (.int .u32 0) (.int .i64 0)
          exact (blk_setCell (blk_setCell (blk_setCell (blk_setCell (blk_setCell (blk_setCell (blk_setCell (blk_setCell (blk_setCell HR3.out.h2 n12.symm _) n12.symm _) n12.symm _) n12.symm _) n12.symm _) n12.symm _) n12.symm _) n12.symm _) n12.symm _)
        have hend : Mod (fun k => k = b1 ∨ k = b2) w3 ((((((((((((((((((w3.setCell ⟨b1, 0, none⟩ (.int .u32 r0)).setCell ⟨b1, 1, none⟩ (.int .u32 r1)).setCell ⟨b1, 2, none⟩ (.int .u32 r2)).setCell ⟨b1, 3, none⟩ (.int .u32 r3)).setCell ⟨b1, 4, none⟩ (.int .u32 r4)).setCell ⟨b1, 5, none⟩ (.int .u32 r5)).setCell ⟨b1, 6, none⟩ (.int .u32 r6)).setCell ⟨b1, 7, none⟩ (.int .u32 r7)).setCell ⟨b1, 8, none⟩ (.int .u32 r8)).setCell ⟨b2, 0, none⟩ (.int .i64 1)).setCell ⟨b2, 1, none⟩ (.int .u32 0)).setCell ⟨b2, 2, none⟩ (.int .u32 0)).setCell ⟨b2, 3, none⟩ (.int .u32 0)).setCell ⟨b2, 4, none⟩ (.int .u32 0)).setCell ⟨b2, 5, none⟩ (.int .u32 0)).setCell ⟨b2, 6, none⟩ (.int .u32 0)).setCell ⟨b2, 7, none⟩ (.int .i64 0))) := (Mod.put (Mod.put (Mod.put (Mod.put (Mod.put (Mod.put (Mod.put (Mod.put (Mod.put (Mod.put (Mod.put (Mod.put (Mod.put (Mod.put (Mod.put (Mod.put (Mod.put (Mod.refl _ w3) (.inl rfl) 0 _) (.inl rfl) 1 _) (.inl rfl) 2 _) (.inl rfl) 3 _) (.inl rfl) 4 _) (.inl rfl) 5 _) (.inl rfl) 6 _) (.inl rfl) 7 _) (.inl rfl) 8 _) (.inr rfl) 0 _) (.inr rfl) 1 _) (.inr rfl) 2 _) (.inr rfl) 3 _) (.inr rfl) 4 _) (.inr rfl) 5 _) (.inr rfl) 6 _) (.inr rfl) 7 _)
        generalize (((((((((((((((((w3.setCell ⟨b1, 0, none⟩ (.int .u32 r0)).setCell ⟨b1, 1, none⟩ (.int .u32 r1)).setCell ⟨b1, 2, none⟩ (.int .u32 r2)).setCell ⟨b1, 3, none⟩ (.int .u32 r3)).setCell ⟨b1, 4, none⟩ (.int .u32 r4)).setCell ⟨b1, 5, none⟩ (.int .u32 r5)).setCell ⟨b1, 6, none⟩ (.int .u32 r6)).setCell ⟨b1, 7, none⟩ (.int .u32 r7)).setCell ⟨b1, 8, none⟩ (.int .u32 r8)).setCell ⟨b2, 0, none⟩ (.int .i64 1)).setCell ⟨b2, 1, none⟩ (.int .u32 0)).setCell ⟨b2, 2, none⟩ (.int .u32 0)).setCell ⟨b2, 3, none⟩ (.int .u32 0)).setCell ⟨b2, 4, none⟩ (.int .u32 0)).setCell ⟨b2, 5, none⟩ (.int .u32 0)).setCell ⟨b2, 6, none⟩ (.int .u32 0)).setCell ⟨b2, 7, none⟩ (.int .i64 0)) = wE at hE1 hE2 hend ⊢
        have e0 := row_cell hE1 0
        have e1 := row_cell hE1 1
        have e2 := row_cell hE1 2
        have e3 := row_cell hE1 3
        have e4 := row_cell hE1 4
        have e5 := row_cell hE1 5
        have e6 := row_cell hE1 6
        have e7 := row_cell hE1 7
        have e8 := row_cell hE1 8
        have z0 := row_cell hE2 0
        have z1 := row_cell hE2 1
        have z2 := row_cell hE2 2
        have z3 := row_cell hE2 3
        have z4 := row_cell hE2 4
        have z5 := row_cell hE2 5
        have z6 := row_cell hE2 6
        have z7 := row_cell hE2 7
        simp only [List.getElem?_cons_zero, List.getElem?_cons_succ] at e0 e1 e2 e3 e4 e5 e6 e7 e8 z0 z1 z2 z3 z4 z5 z6 z7
        go_wp2
        refine bodyPost_ret (v := .tuple #[.agg #[.int .u32 r0, .int .u32 r1, .int .u32 r2, .int .u32 r3, .int .u32 r4, .int .u32 r5, .int .u32 r6, .int .u32 r7, .int .u32 r8], .agg #[.int .i64 1, .int .u32 0, .int .u32 0, .int .u32 0, .int .u32 0, .int .u32 0, .int .u32 0, .int .i64 0]]) (by simp [results, Tryz.results16, go_sem, e0, e1, e2, e3, e4, e5, e6, e7, e8, z0, z1, z2, z3, z4, z5, z6, z7]) rfl ?_
        have hmE : Mod K.inn w wE := HR3.out.m.step hend (fun i hi q => by have := HR3.out.l0; have := HR3.out.l1; have := HR3.out.l2; rcases q with q | q <;> omega)
        have hrE : RfM wE K _ := HR3.out.r.kept hend (fun k hk q => by have := HR3.out.lK k hk; have := HR3.out.l0; have := HR3.out.l1; have := HR3.out.l2; rcases q with q | q <;> omega)
        have ho := HOUT.out
        have hd : doR S root [r0, r1, r2, r3, r4, r5, r6, r7] pn o a b c' = ⟨[r0, r1, r2, r3, r4, r5, r6, r7], pn, haltS, S⟩ := by rw [HO.out]; rfl
        rw [hd, if_pos (.inr rfl)] at ho
        subst ho
        exact ⟨rfl, hmE, hrE⟩
      · skip
        by_cases c1 : o = 1
        · have d0 : ((o : Int) == 0) = false := beq_eq_false_iff_ne.2 (by omega)
          have d1 : ((o : Int) == 1) = true := beq_iff_eq.2 (by omega)
          have d2 : ((o : Int) == 2) = false := beq_eq_false_iff_ne.2 (by omega)
          have d3 : ((o : Int) == 3) = false := beq_eq_false_iff_ne.2 (by omega)
          have d12 : decide ((o : Int) ≤ 12) = true := decide_eq_true (by omega)
          have d16 : decide ((o : Int) ≤ 16) = true := decide_eq_true (by omega)
          have d17 : ((o : Int) == 17) = false := beq_eq_false_iff_ne.2 (by omega)
          have d18 : ((o : Int) == 18) = false := beq_eq_false_iff_ne.2 (by omega)
          have d19 : ((o : Int) == 19) = false := beq_eq_false_iff_ne.2 (by omega)
          have d20 : ((o : Int) == 20) = false := beq_eq_false_iff_ne.2 (by omega)
          have hg := HGOOD.out
          have hn : N = 1 := HNE.out.symm.trans <| by rw [c1]; rfl
          rw [hn] at hg
          have ia : (a : Int) < 8 := by omega
          have HA8 : Hid (a < 8) := by show a < 8; omega
          clear hg hn
          have HO : Hid (o = 1) := c1
          clear c1
          obtain ⟨vA, hvA⟩ : ∃ v, v = [r0, r1, r2, r3, r4, r5, r6, r7].getD a 0 := ⟨_, rfl⟩
          have qA : w3.cell? ⟨b0, a, none⟩ = some (.int .u32 vA) := by rw [hvA]; exact regs9 HR3.out.h0 HA8.out
          have hrA : 0 ≤ vA ∧ vA ≤ 4294967295 := by rw [hvA]; exact HREG.out _ (regs_mem (R := [r0, r1, r2, r3, r4, r5, r6, r7]) rfl HA8.out)
          have HVA := Lib.hid hvA
          clear hvA
          obtain ⟨s0, s1, s2, s3, s4, s5, s6, s7, hse⟩ := list8' (l := [r0, r1, r2, r3, r4, r5, r6, r7].set a ((b : Int) + 256 * c')) (by rw [List.length_set]; rfl)
          have HSE := Lib.hid hse
          clear hse
          have fa : w3.frozen? ⟨b0, a, none⟩ = false := row_free HR3.out.h0 a
          have px : b0 < w3.heap.size := lt_of_blk HR3.out.h0
          have ngb : g ≠ b0 := NGB.out
          obtain ⟨u0, u1, u2, u3⟩ := HB3.out
          have i4 : (4 : Int) ≤ c := HC4.out
          go_upto_region 42 with (fail)
          have hmm : Mod (fun k => k = b0) w3 ((w3.setCell ⟨b0, a, none⟩ (.int .u32 ((b : Int) + 256 * c')))) := (Mod.put' (Mod.refl (fun k => k = b0) w3) (show b0 = b0 from rfl) a _)
          have hr4 := HR3.out.put0 hmm ((set9regs HR3.out.h0 HA8.out HSE.out))
          generalize (w3.setCell ⟨b0, a, none⟩ (.int .u32 ((b : Int) + 256 * c'))) = w4 at hr4 hmm ⊢
          have HR4 := Lib.hid hr4
          clear hr4 hmm u0 u1 u2 u3 fa px qA ia
          go_upto_region 42 with (fail)
          have x0 := row_cell HR4.out.h0 0
          have x1 := row_cell HR4.out.h0 1
          have x2 := row_cell HR4.out.h0 2
          have x3 := row_cell HR4.out.h0 3
          have x4 := row_cell HR4.out.h0 4
          have x5 := row_cell HR4.out.h0 5
          have x6 := row_cell HR4.out.h0 6
          have x7 := row_cell HR4.out.h0 7
          have x8 := row_cell HR4.out.h0 8
          simp only [List.getElem?_cons_zero, List.getElem?_cons_succ] at x0 x1 x2 x3 x4 x5 x6 x7 x8
          have fx8 : w4.frozen? ⟨b0, 8, none⟩ = false := row_free HR4.out.h0 8
          have px : b0 < w4.heap.size := lt_of_blk HR4.out.h0
          go_upto_region 43 with (fail)
          have hmm : Mod (fun k => k = b0) w4 (w4.setCell ⟨b0, 8, none⟩ (.int .u32 pn)) := Mod.put' (Mod.refl (fun k => k = b0) w4) (show b0 = b0 from rfl) 8 _
          have hr5 := HR4.out.put0 hmm (A0' := [.int .u32 s0, .int .u32 s1, .int .u32 s2, .int .u32 s3, .int .u32 s4, .int .u32 s5, .int .u32 s6, .int .u32 s7, .int .u32 pn]) (row_set HR4.out.h0 8 _)
          generalize (w4.setCell ⟨b0, 8, none⟩ (.int .u32 pn)) = w5 at hr5 ⊢
          clear hmm fx8 px x0 x1 x2 x3 x4 x5 x6 x7 x8
          have HR5 := Lib.hid hr5
          clear hr5
          have x0 := row_cell HR5.out.h0 0
          have x1 := row_cell HR5.out.h0 1
          have x2 := row_cell HR5.out.h0 2
          have x3 := row_cell HR5.out.h0 3
          have x4 := row_cell HR5.out.h0 4
          have x5 := row_cell HR5.out.h0 5
          have x6 := row_cell HR5.out.h0 6
          have x7 := row_cell HR5.out.h0 7
          have x8 := row_cell HR5.out.h0 8
          have t0 := row_cell HR5.out.h4 0
          have t1 := row_cell HR5.out.h4 1
          have t2 := row_cell HR5.out.h4 2
          have t3 := row_cell HR5.out.h4 3
          have t4 := row_cell HR5.out.h4 4
          have t5 := row_cell HR5.out.h4 5
          have t6 := row_cell HR5.out.h4 6
          have t7 := row_cell HR5.out.h4 7
          simp only [List.getElem?_cons_zero, List.getElem?_cons_succ] at x0 x1 x2 x3 x4 x5 x6 x7 x8 t0 t1 t2 t3 t4 t5 t6 t7
          have y0 := row_cell HR5.out.h1 0
          have y1 := row_cell HR5.out.h1 1
          have y2 := row_cell HR5.out.h1 2
          have y3 := row_cell HR5.out.h1 3
          have y4 := row_cell HR5.out.h1 4
          have y5 := row_cell HR5.out.h1 5
          have y6 := row_cell HR5.out.h1 6
          have y7 := row_cell HR5.out.h1 7
          have y8 := row_cell HR5.out.h1 8
          have z0 := row_cell HR5.out.h2 0
          have z1 := row_cell HR5.out.h2 1
          have z2 := row_cell HR5.out.h2 2
          have z3 := row_cell HR5.out.h2 3
          have z4 := row_cell HR5.out.h2 4
          have z5 := row_cell HR5.out.h2 5
          have z6 := row_cell HR5.out.h2 6
          have z7 := row_cell HR5.out.h2 7
          simp only [List.getElem?_cons_zero, List.getElem?_cons_succ] at y0 y1 y2 y3 y4 y5 y6 y7 y8 z0 z1 z2 z3 z4 z5 z6 z7
          have fy0 : w5.frozen? ⟨b1, 0, none⟩ = false := row_free HR5.out.h1 0
          have fy1 : w5.frozen? ⟨b1, 1, none⟩ = false := row_free HR5.out.h1 1
          have fy2 : w5.frozen? ⟨b1, 2, none⟩ = false := row_free HR5.out.h1 2
          have fy3 : w5.frozen? ⟨b1, 3, none⟩ = false := row_free HR5.out.h1 3
          have fy4 : w5.frozen? ⟨b1, 4, none⟩ = false := row_free HR5.out.h1 4
          have fy5 : w5.frozen? ⟨b1, 5, none⟩ = false := row_free HR5.out.h1 5
          have fy6 : w5.frozen? ⟨b1, 6, none⟩ = false := row_free HR5.out.h1 6
          have fy7 : w5.frozen? ⟨b1, 7, none⟩ = false := row_free HR5.out.h1 7
          have fy8 : w5.frozen? ⟨b1, 8, none⟩ = false := row_free HR5.out.h1 8
          have fz0 : w5.frozen? ⟨b2, 0, none⟩ = false := row_free HR5.out.h2 0
          have fz1 : w5.frozen? ⟨b2, 1, none⟩ = false := row_free HR5.out.h2 1
          have fz2 : w5.frozen? ⟨b2, 2, none⟩ = false := row_free HR5.out.h2 2
          have fz3 : w5.frozen? ⟨b2, 3, none⟩ = false := row_free HR5.out.h2 3
          have fz4 : w5.frozen? ⟨b2, 4, none⟩ = false := row_free HR5.out.h2 4
          have fz5 : w5.frozen? ⟨b2, 5, none⟩ = false := row_free HR5.out.h2 5
          have fz6 : w5.frozen? ⟨b2, 6, none⟩ = false := row_free HR5.out.h2 6
          have fz7 : w5.frozen? ⟨b2, 7, none⟩ = false := row_free HR5.out.h2 7
          have p1 : b1 < w5.heap.size := lt_of_blk HR5.out.h1
          have p2 : b2 < w5.heap.size := lt_of_blk HR5.out.h2
          have n01 : b0 ≠ b1 := by have := HR5.out.l1; have := HR5.out.l2; have := HR5.out.l3; have := HR5.out.l4; omega
          have n02 : b0 ≠ b2 := by have := HR5.out.l1; have := HR5.out.l2; have := HR5.out.l3; have := HR5.out.l4; omega
          have n12 : b1 ≠ b2 := by have := HR5.out.l1; have := HR5.out.l2; have := HR5.out.l3; have := HR5.out.l4; omega
          have n13 : b1 ≠ b3 := by have := HR5.out.l1; have := HR5.out.l2; have := HR5.out.l3; have := HR5.out.l4; omega
          have n14 : b1 ≠ b4 := by have := HR5.out.l1; have := HR5.out.l2; have := HR5.out.l3; have := HR5.out.l4; omega
          have n23 : b2 ≠ b3 := by have := HR5.out.l1; have := HR5.out.l2; have := HR5.out.l3; have := HR5.out.l4; omega
          have n24 : b2 ≠ b4 := by have := HR5.out.l1; have := HR5.out.l2; have := HR5.out.l3; have := HR5.out.l4; omega
          have n04 : b0 ≠ b4 := by have := HR5.out.l1; have := HR5.out.l2; have := HR5.out.l3; have := HR5.out.l4; omega
          have n03 : b0 ≠ b3 := by have := HR5.out.l1; have := HR5.out.l2; have := HR5.out.l3; have := HR5.out.l4; omega
          go_region
          have n12 : b1 ≠ b2 := by have := HR5.out.l2; omega
          have hE1 : ((((((((((((((((((w5.setCell ⟨b1, 0, none⟩ (.int .u32 s0)).setCell ⟨b1, 1, none⟩ (.int .u32 s1)).setCell ⟨b1, 2, none⟩ (.int .u32 s2)).setCell ⟨b1, 3, none⟩ (.int .u32 s3)).setCell ⟨b1, 4, none⟩ (.int .u32 s4)).setCell ⟨b1, 5, none⟩ (.int .u32 s5)).setCell ⟨b1, 6, none⟩ (.int .u32 s6)).setCell ⟨b1, 7, none⟩ (.int .u32 s7)).setCell ⟨b1, 8, none⟩ (.int .u32 pn)).setCell ⟨b2, 0, none⟩ (.int .i64 0)).setCell ⟨b2, 1, none⟩ (.int .u32 0)).setCell ⟨b2, 2, none⟩ (.int .u32 0)).setCell ⟨b2, 3, none⟩ (.int .u32 0)).setCell ⟨b2, 4, none⟩ (.int .u32 0)).setCell ⟨b2, 5, none⟩ (.int .u32 0)).setCell ⟨b2, 6, none⟩ (.int .u32 0)).setCell ⟨b2, 7, none⟩ (.int .i64 0)).drew).heap[b1]? = some (.cells ([.int .u32 s0, .int .u32 s1, .int .u32 s2, .int .u32 s3, .int .u32 s4, .int .u32 s5, .int .u32 s6, .int .u32 s7, .int .u32 pn] : List Value).toArray 26 (0, 0)) := by
            have h := set9 HR5.out.h1 rfl (.int .u32 s0) (.int .u32 s1) (.int .u32 s2) (.int .u32 s3) (.int .u32 s4) (.int .u32 s5) (.int .u32 s6) (.int .u32 s7) (.int .u32 pn)
            exact blk_drew' (blk_setCell (blk_setCell (blk_setCell (blk_setCell (blk_setCell (blk_setCell (blk_setCell (blk_setCell h n12 _) n12 _) n12 _) n12 _) n12 _) n12 _) n12 _) n12 _)
          have hE2 : ((((((((((((((((((w5.setCell ⟨b1, 0, none⟩ (.int .u32 s0)).setCell ⟨b1, 1, none⟩ (.int .u32 s1)).setCell ⟨b1, 2, none⟩ (.int .u32 s2)).setCell ⟨b1, 3, none⟩ (.int .u32 s3)).setCell ⟨b1, 4, none⟩ (.int .u32 s4)).setCell ⟨b1, 5, none⟩ (.int .u32 s5)).setCell ⟨b1, 6, none⟩ (.int .u32 s6)).setCell ⟨b1, 7, none⟩ (.int .u32 s7)).setCell ⟨b1, 8, none⟩ (.int .u32 pn)).setCell ⟨b2, 0, none⟩ (.int .i64 0)).setCell ⟨b2, 1, none⟩ (.int .u32 0)).setCell ⟨b2, 2, none⟩ (.int .u32 0)).setCell ⟨b2, 3, none⟩ (.int .u32 0)).setCell ⟨b2, 4, none⟩ (.int .u32 0)).setCell ⟨b2, 5, none⟩ (.int .u32 0)).setCell ⟨b2, 6, none⟩ (.int .u32 0)).setCell ⟨b2, 7, none⟩ (.int .i64 0)).drew).heap[b2]? = some (.cells ([.int .i64 0, .int .u32 0, .int .u32 0, .int .u32 0, .int .u32 0, .int .u32 0, .int .u32 0, .int .i64 0] : List Value).toArray 34 (0, 0)) := by
            refine blk_drew' (set8 (w := (((((((((w5.setCell ⟨b1, 0, none⟩ (.int .u32 s0)).setCell ⟨b1, 1, none⟩ (.int .u32 s1)).setCell ⟨b1, 2, none⟩ (.int .u32 s2)).setCell ⟨b1, 3, none⟩ (.int .u32 s3)).setCell ⟨b1, 4, none⟩ (.int .u32 s4)).setCell ⟨b1, 5, none⟩ (.int .u32 s5)).setCell ⟨b1, 6, none⟩ (.int .u32 s6)).setCell ⟨b1, 7, none⟩ (.int .u32 s7)).setCell ⟨b1, 8, none⟩ (.int .u32 pn))) (L := [.int .i64 0, .int .u32 0, .int .u32 0, .int .u32 0, .int .u32 0, .int .u32 0, .int .u32 0, .int .i64 0]) ?_ rfl (.int .i64 0) (.int .u32 0) (.int .u32 0) (.int .u32 0) (.int .u32 0) (.int .u32 0) (.int .u32 0) (.int .i64 0))
            exact (blk_setCell (blk_setCell (blk_setCell (blk_setCell (blk_setCell (blk_setCell (blk_setCell (blk_setCell (blk_setCell HR5.out.h2 n12.symm _) n12.symm _) n12.symm _) n12.symm _) n12.symm _) n12.symm _) n12.symm _) n12.symm _) n12.symm _)
          have hend : Mod (fun k => k = b1 ∨ k = b2) w5 ((((((((((((((((((w5.setCell ⟨b1, 0, none⟩ (.int .u32 s0)).setCell ⟨b1, 1, none⟩ (.int .u32 s1)).setCell ⟨b1, 2, none⟩ (.int .u32 s2)).setCell ⟨b1, 3, none⟩ (.int .u32 s3)).setCell ⟨b1, 4, none⟩ (.int .u32 s4)).setCell ⟨b1, 5, none⟩ (.int .u32 s5)).setCell ⟨b1, 6, none⟩ (.int .u32 s6)).setCell ⟨b1, 7, none⟩ (.int .u32 s7)).setCell ⟨b1, 8, none⟩ (.int .u32 pn)).setCell ⟨b2, 0, none⟩ (.int .i64 0)).setCell ⟨b2, 1, none⟩ (.int .u32 0)).setCell ⟨b2, 2, none⟩ (.int .u32 0)).setCell ⟨b2, 3, none⟩ (.int .u32 0)).setCell ⟨b2, 4, none⟩ (.int .u32 0)).setCell ⟨b2, 5, none⟩ (.int .u32 0)).setCell ⟨b2, 6, none⟩ (.int .u32 0)).setCell ⟨b2, 7, none⟩ (.int .i64 0)).drew) := (Mod.put (Mod.put (Mod.put (Mod.put (Mod.put (Mod.put (Mod.put (Mod.put (Mod.put (Mod.put (Mod.put (Mod.put (Mod.put (Mod.put (Mod.put (Mod.put (Mod.put (Mod.refl _ w5) (.inl rfl) 0 _) (.inl rfl) 1 _) (.inl rfl) 2 _) (.inl rfl) 3 _) (.inl rfl) 4 _) (.inl rfl) 5 _) (.inl rfl) 6 _) (.inl rfl) 7 _) (.inl rfl) 8 _) (.inr rfl) 0 _) (.inr rfl) 1 _) (.inr rfl) 2 _) (.inr rfl) 3 _) (.inr rfl) 4 _) (.inr rfl) 5 _) (.inr rfl) 6 _) (.inr rfl) 7 _).drew
          generalize (((((((((((((((((w5.setCell ⟨b1, 0, none⟩ (.int .u32 s0)).setCell ⟨b1, 1, none⟩ (.int .u32 s1)).setCell ⟨b1, 2, none⟩ (.int .u32 s2)).setCell ⟨b1, 3, none⟩ (.int .u32 s3)).setCell ⟨b1, 4, none⟩ (.int .u32 s4)).setCell ⟨b1, 5, none⟩ (.int .u32 s5)).setCell ⟨b1, 6, none⟩ (.int .u32 s6)).setCell ⟨b1, 7, none⟩ (.int .u32 s7)).setCell ⟨b1, 8, none⟩ (.int .u32 pn)).setCell ⟨b2, 0, none⟩ (.int .i64 0)).setCell ⟨b2, 1, none⟩ (.int .u32 0)).setCell ⟨b2, 2, none⟩ (.int .u32 0)).setCell ⟨b2, 3, none⟩ (.int .u32 0)).setCell ⟨b2, 4, none⟩ (.int .u32 0)).setCell ⟨b2, 5, none⟩ (.int .u32 0)).setCell ⟨b2, 6, none⟩ (.int .u32 0)).setCell ⟨b2, 7, none⟩ (.int .i64 0)).drew = wE at hE1 hE2 hend ⊢
          have e0 := row_cell hE1 0
          have e1 := row_cell hE1 1
          have e2 := row_cell hE1 2
          have e3 := row_cell hE1 3
          have e4 := row_cell hE1 4
          have e5 := row_cell hE1 5
          have e6 := row_cell hE1 6
          have e7 := row_cell hE1 7
          have e8 := row_cell hE1 8
          have z0 := row_cell hE2 0
          have z1 := row_cell hE2 1
          have z2 := row_cell hE2 2
          have z3 := row_cell hE2 3
          have z4 := row_cell hE2 4
          have z5 := row_cell hE2 5
          have z6 := row_cell hE2 6
          have z7 := row_cell hE2 7
          simp only [List.getElem?_cons_zero, List.getElem?_cons_succ] at e0 e1 e2 e3 e4 e5 e6 e7 e8 z0 z1 z2 z3 z4 z5 z6 z7
          go_wp2
          refine bodyPost_ret (v := .tuple #[.agg #[.int .u32 s0, .int .u32 s1, .int .u32 s2, .int .u32 s3, .int .u32 s4, .int .u32 s5, .int .u32 s6, .int .u32 s7, .int .u32 pn], .agg #[.int .i64 0, .int .u32 0, .int .u32 0, .int .u32 0, .int .u32 0, .int .u32 0, .int .u32 0, .int .i64 0]]) (by simp [results, Tryz.results16, go_sem, e0, e1, e2, e3, e4, e5, e6, e7, e8, z0, z1, z2, z3, z4, z5, z6, z7]) rfl ?_
          have hmE : Mod K.inn w wE := HR5.out.m.step hend (fun i hi q => by have := HR5.out.l0; have := HR5.out.l1; have := HR5.out.l2; rcases q with q | q <;> omega)
          have hrE : RfM wE K _ := HR5.out.r.kept hend (fun k hk q => by have := HR5.out.lK k hk; have := HR5.out.l0; have := HR5.out.l1; have := HR5.out.l2; rcases q with q | q <;> omega)
          have ho := HOUT.out
          have hd : doR S root [r0, r1, r2, r3, r4, r5, r6, r7] pn o a b c' = ⟨[r0, r1, r2, r3, r4, r5, r6, r7].set a ((b : Int) + 256 * c'), pn, goesS, S⟩ := by rw [HO.out]; rfl
          rw [hd, if_neg (by simp [goesS])] at ho
          skip
          rw [HSE.out] at ho
          subst ho
          exact ⟨rfl, hmE, hrE⟩
        · skip
          by_cases c2 : o = 2
          · have d0 : ((o : Int) == 0) = false := beq_eq_false_iff_ne.2 (by omega)
            have d1 : ((o : Int) == 1) = false := beq_eq_false_iff_ne.2 (by omega)
            have d2 : ((o : Int) == 2) = true := beq_iff_eq.2 (by omega)
            have d3 : ((o : Int) == 3) = false := beq_eq_false_iff_ne.2 (by omega)
            have d12 : decide ((o : Int) ≤ 12) = true := decide_eq_true (by omega)
            have d16 : decide ((o : Int) ≤ 16) = true := decide_eq_true (by omega)
            have d17 : ((o : Int) == 17) = false := beq_eq_false_iff_ne.2 (by omega)
            have d18 : ((o : Int) == 18) = false := beq_eq_false_iff_ne.2 (by omega)
            have d19 : ((o : Int) == 19) = false := beq_eq_false_iff_ne.2 (by omega)
            have d20 : ((o : Int) == 20) = false := beq_eq_false_iff_ne.2 (by omega)
            have hg := HGOOD.out
            have hn : N = 1 := HNE.out.symm.trans <| by rw [c2]; rfl
            rw [hn] at hg
            have ia : (a : Int) < 8 := by omega
            have HA8 : Hid (a < 8) := by show a < 8; omega
            clear hg hn
            have HO : Hid (o = 2) := c2
            clear c2
            obtain ⟨vA, hvA⟩ : ∃ v, v = [r0, r1, r2, r3, r4, r5, r6, r7].getD a 0 := ⟨_, rfl⟩
            have qA : w3.cell? ⟨b0, a, none⟩ = some (.int .u32 vA) := by rw [hvA]; exact regs9 HR3.out.h0 HA8.out
            have hrA : 0 ≤ vA ∧ vA ≤ 4294967295 := by rw [hvA]; exact HREG.out _ (regs_mem (R := [r0, r1, r2, r3, r4, r5, r6, r7]) rfl HA8.out)
            have HVA := Lib.hid hvA
            clear hvA
            have e1 : vA.tmod 65536 = vA % 65536 := Int.tmod_eq_emod_of_nonneg hrA.1
            have e2 : (65536 * ((b : Int) + 256 * c')) % 4294967296 = 65536 * ((b : Int) + 256 * c') := by omega
            have e3 : (vA % 65536 + 65536 * ((b : Int) + 256 * c')) % 4294967296 = vA % 65536 + 65536 * ((b : Int) + 256 * c') := by omega
            obtain ⟨s0, s1, s2, s3, s4, s5, s6, s7, hse⟩ := list8' (l := [r0, r1, r2, r3, r4, r5, r6, r7].set a (vA % 65536 + 65536 * ((b : Int) + 256 * c'))) (by rw [List.length_set]; rfl)
            have HSE := Lib.hid hse
            clear hse
            have fa : w3.frozen? ⟨b0, a, none⟩ = false := row_free HR3.out.h0 a
            have px : b0 < w3.heap.size := lt_of_blk HR3.out.h0
            have ngb : g ≠ b0 := NGB.out
            obtain ⟨u0, u1, u2, u3⟩ := HB3.out
            have i4 : (4 : Int) ≤ c := HC4.out
            go_upto_region 21 with (fail)
            go_region
            go_upto_region 42 with (fail)
            have hmm : Mod (fun k => k = b0) w3 ((w3.setCell ⟨b0, a, none⟩ (.int .u32 (vA % 65536 + 65536 * ((b : Int) + 256 * c')))).drew) := (Mod.put' (Mod.refl (fun k => k = b0) w3) (show b0 = b0 from rfl) a _).drew
            have hr4 := HR3.out.put0 hmm (blk_drew' (set9regs HR3.out.h0 HA8.out HSE.out))
            generalize (w3.setCell ⟨b0, a, none⟩ (.int .u32 (vA % 65536 + 65536 * ((b : Int) + 256 * c')))).drew = w4 at hr4 hmm ⊢
            have HR4 := Lib.hid hr4
            clear hr4 hmm u0 u1 u2 u3 fa px qA ia
            go_upto_region 42 with (fail)
            have x0 := row_cell HR4.out.h0 0
            have x1 := row_cell HR4.out.h0 1
            have x2 := row_cell HR4.out.h0 2
            have x3 := row_cell HR4.out.h0 3
            have x4 := row_cell HR4.out.h0 4
            have x5 := row_cell HR4.out.h0 5
            have x6 := row_cell HR4.out.h0 6
            have x7 := row_cell HR4.out.h0 7
            have x8 := row_cell HR4.out.h0 8
            simp only [List.getElem?_cons_zero, List.getElem?_cons_succ] at x0 x1 x2 x3 x4 x5 x6 x7 x8
            have fx8 : w4.frozen? ⟨b0, 8, none⟩ = false := row_free HR4.out.h0 8
            have px : b0 < w4.heap.size := lt_of_blk HR4.out.h0
            go_upto_region 43 with (fail)
            have hmm : Mod (fun k => k = b0) w4 (w4.setCell ⟨b0, 8, none⟩ (.int .u32 pn)) := Mod.put' (Mod.refl (fun k => k = b0) w4) (show b0 = b0 from rfl) 8 _
            have hr5 := HR4.out.put0 hmm (A0' := [.int .u32 s0, .int .u32 s1, .int .u32 s2, .int .u32 s3, .int .u32 s4, .int .u32 s5, .int .u32 s6, .int .u32 s7, .int .u32 pn]) (row_set HR4.out.h0 8 _)
            generalize (w4.setCell ⟨b0, 8, none⟩ (.int .u32 pn)) = w5 at hr5 ⊢
            clear hmm fx8 px x0 x1 x2 x3 x4 x5 x6 x7 x8
            have HR5 := Lib.hid hr5
            clear hr5
            have x0 := row_cell HR5.out.h0 0
            have x1 := row_cell HR5.out.h0 1
            have x2 := row_cell HR5.out.h0 2
            have x3 := row_cell HR5.out.h0 3
            have x4 := row_cell HR5.out.h0 4
            have x5 := row_cell HR5.out.h0 5
            have x6 := row_cell HR5.out.h0 6
            have x7 := row_cell HR5.out.h0 7
            have x8 := row_cell HR5.out.h0 8
            have t0 := row_cell HR5.out.h4 0
            have t1 := row_cell HR5.out.h4 1
            have t2 := row_cell HR5.out.h4 2
            have t3 := row_cell HR5.out.h4 3
            have t4 := row_cell HR5.out.h4 4
            have t5 := row_cell HR5.out.h4 5
            have t6 := row_cell HR5.out.h4 6
            have t7 := row_cell HR5.out.h4 7
            simp only [List.getElem?_cons_zero, List.getElem?_cons_succ] at x0 x1 x2 x3 x4 x5 x6 x7 x8 t0 t1 t2 t3 t4 t5 t6 t7
            have y0 := row_cell HR5.out.h1 0
            have y1 := row_cell HR5.out.h1 1
            have y2 := row_cell HR5.out.h1 2
            have y3 := row_cell HR5.out.h1 3
            have y4 := row_cell HR5.out.h1 4
            have y5 := row_cell HR5.out.h1 5
            have y6 := row_cell HR5.out.h1 6
            have y7 := row_cell HR5.out.h1 7
            have y8 := row_cell HR5.out.h1 8
            have z0 := row_cell HR5.out.h2 0
            have z1 := row_cell HR5.out.h2 1
            have z2 := row_cell HR5.out.h2 2
            have z3 := row_cell HR5.out.h2 3
            have z4 := row_cell HR5.out.h2 4
            have z5 := row_cell HR5.out.h2 5
            have z6 := row_cell HR5.out.h2 6
            have z7 := row_cell HR5.out.h2 7
            simp only [List.getElem?_cons_zero, List.getElem?_cons_succ] at y0 y1 y2 y3 y4 y5 y6 y7 y8 z0 z1 z2 z3 z4 z5 z6 z7
            have fy0 : w5.frozen? ⟨b1, 0, none⟩ = false := row_free HR5.out.h1 0
            have fy1 : w5.frozen? ⟨b1, 1, none⟩ = false := row_free HR5.out.h1 1
            have fy2 : w5.frozen? ⟨b1, 2, none⟩ = false := row_free HR5.out.h1 2
            have fy3 : w5.frozen? ⟨b1, 3, none⟩ = false := row_free HR5.out.h1 3
            have fy4 : w5.frozen? ⟨b1, 4, none⟩ = false := row_free HR5.out.h1 4
            have fy5 : w5.frozen? ⟨b1, 5, none⟩ = false := row_free HR5.out.h1 5
            have fy6 : w5.frozen? ⟨b1, 6, none⟩ = false := row_free HR5.out.h1 6
            have fy7 : w5.frozen? ⟨b1, 7, none⟩ = false := row_free HR5.out.h1 7
            have fy8 : w5.frozen? ⟨b1, 8, none⟩ = false := row_free HR5.out.h1 8
            have fz0 : w5.frozen? ⟨b2, 0, none⟩ = false := row_free HR5.out.h2 0
            have fz1 : w5.frozen? ⟨b2, 1, none⟩ = false := row_free HR5.out.h2 1
            have fz2 : w5.frozen? ⟨b2, 2, none⟩ = false := row_free HR5.out.h2 2
            have fz3 : w5.frozen? ⟨b2, 3, none⟩ = false := row_free HR5.out.h2 3
            have fz4 : w5.frozen? ⟨b2, 4, none⟩ = false := row_free HR5.out.h2 4
            have fz5 : w5.frozen? ⟨b2, 5, none⟩ = false := row_free HR5.out.h2 5
            have fz6 : w5.frozen? ⟨b2, 6, none⟩ = false := row_free HR5.out.h2 6
            have fz7 : w5.frozen? ⟨b2, 7, none⟩ = false := row_free HR5.out.h2 7
            have p1 : b1 < w5.heap.size := lt_of_blk HR5.out.h1
            have p2 : b2 < w5.heap.size := lt_of_blk HR5.out.h2
            have n01 : b0 ≠ b1 := by have := HR5.out.l1; have := HR5.out.l2; have := HR5.out.l3; have := HR5.out.l4; omega
            have n02 : b0 ≠ b2 := by have := HR5.out.l1; have := HR5.out.l2; have := HR5.out.l3; have := HR5.out.l4; omega
            have n12 : b1 ≠ b2 := by have := HR5.out.l1; have := HR5.out.l2; have := HR5.out.l3; have := HR5.out.l4; omega
            have n13 : b1 ≠ b3 := by have := HR5.out.l1; have := HR5.out.l2; have := HR5.out.l3; have := HR5.out.l4; omega
            have n14 : b1 ≠ b4 := by have := HR5.out.l1; have := HR5.out.l2; have := HR5.out.l3; have := HR5.out.l4; omega
            have n23 : b2 ≠ b3 := by have := HR5.out.l1; have := HR5.out.l2; have := HR5.out.l3; have := HR5.out.l4; omega
            have n24 : b2 ≠ b4 := by have := HR5.out.l1; have := HR5.out.l2; have := HR5.out.l3; have := HR5.out.l4; omega
            have n04 : b0 ≠ b4 := by have := HR5.out.l1; have := HR5.out.l2; have := HR5.out.l3; have := HR5.out.l4; omega
            have n03 : b0 ≠ b3 := by have := HR5.out.l1; have := HR5.out.l2; have := HR5.out.l3; have := HR5.out.l4; omega
            go_region
            have n12 : b1 ≠ b2 := by have := HR5.out.l2; omega
            have hE1 : ((((((((((((((((((w5.setCell ⟨b1, 0, none⟩ (.int .u32 s0)).setCell ⟨b1, 1, none⟩ (.int .u32 s1)).setCell ⟨b1, 2, none⟩ (.int .u32 s2)).setCell ⟨b1, 3, none⟩ (.int .u32 s3)).setCell ⟨b1, 4, none⟩ (.int .u32 s4)).setCell ⟨b1, 5, none⟩ (.int .u32 s5)).setCell ⟨b1, 6, none⟩ (.int .u32 s6)).setCell ⟨b1, 7, none⟩ (.int .u32 s7)).setCell ⟨b1, 8, none⟩ (.int .u32 pn)).setCell ⟨b2, 0, none⟩ (.int .i64 0)).setCell ⟨b2, 1, none⟩ (.int .u32 0)).setCell ⟨b2, 2, none⟩ (.int .u32 0)).setCell ⟨b2, 3, none⟩ (.int .u32 0)).setCell ⟨b2, 4, none⟩ (.int .u32 0)).setCell ⟨b2, 5, none⟩ (.int .u32 0)).setCell ⟨b2, 6, none⟩ (.int .u32 0)).setCell ⟨b2, 7, none⟩ (.int .i64 0)).drew).heap[b1]? = some (.cells ([.int .u32 s0, .int .u32 s1, .int .u32 s2, .int .u32 s3, .int .u32 s4, .int .u32 s5, .int .u32 s6, .int .u32 s7, .int .u32 pn] : List Value).toArray 26 (0, 0)) := by
              have h := set9 HR5.out.h1 rfl (.int .u32 s0) (.int .u32 s1) (.int .u32 s2) (.int .u32 s3) (.int .u32 s4) (.int .u32 s5) (.int .u32 s6) (.int .u32 s7) (.int .u32 pn)
              exact blk_drew' (blk_setCell (blk_setCell (blk_setCell (blk_setCell (blk_setCell (blk_setCell (blk_setCell (blk_setCell h n12 _) n12 _) n12 _) n12 _) n12 _) n12 _) n12 _) n12 _)
            have hE2 : ((((((((((((((((((w5.setCell ⟨b1, 0, none⟩ (.int .u32 s0)).setCell ⟨b1, 1, none⟩ (.int .u32 s1)).setCell ⟨b1, 2, none⟩ (.int .u32 s2)).setCell ⟨b1, 3, none⟩ (.int .u32 s3)).setCell ⟨b1, 4, none⟩ (.int .u32 s4)).setCell ⟨b1, 5, none⟩ (.int .u32 s5)).setCell ⟨b1, 6, none⟩ (.int .u32 s6)).setCell ⟨b1, 7, none⟩ (.int .u32 s7)).setCell ⟨b1, 8, none⟩ (.int .u32 pn)).setCell ⟨b2, 0, none⟩ (.int .i64 0)).setCell ⟨b2, 1, none⟩ (.int .u32 0)).setCell ⟨b2, 2, none⟩ (.int .u32 0)).setCell ⟨b2, 3, none⟩ (.int .u32 0)).setCell ⟨b2, 4, none⟩ (.int .u32 0)).setCell ⟨b2, 5, none⟩ (.int .u32 0)).setCell ⟨b2, 6, none⟩ (.int .u32 0)).setCell ⟨b2, 7, none⟩ (.int .i64 0)).drew).heap[b2]? = some (.cells ([.int .i64 0, .int .u32 0, .int .u32 0, .int .u32 0, .int .u32 0, .int .u32 0, .int .u32 0, .int .i64 0] : List Value).toArray 34 (0, 0)) := by
              refine blk_drew' (set8 (w := (((((((((w5.setCell ⟨b1, 0, none⟩ (.int .u32 s0)).setCell ⟨b1, 1, none⟩ (.int .u32 s1)).setCell ⟨b1, 2, none⟩ (.int .u32 s2)).setCell ⟨b1, 3, none⟩ (.int .u32 s3)).setCell ⟨b1, 4, none⟩ (.int .u32 s4)).setCell ⟨b1, 5, none⟩ (.int .u32 s5)).setCell ⟨b1, 6, none⟩ (.int .u32 s6)).setCell ⟨b1, 7, none⟩ (.int .u32 s7)).setCell ⟨b1, 8, none⟩ (.int .u32 pn))) (L := [.int .i64 0, .int .u32 0, .int .u32 0, .int .u32 0, .int .u32 0, .int .u32 0, .int .u32 0, .int .i64 0]) ?_ rfl (.int .i64 0) (.int .u32 0) (.int .u32 0) (.int .u32 0) (.int .u32 0) (.int .u32 0) (.int .u32 0) (.int .i64 0))
              exact (blk_setCell (blk_setCell (blk_setCell (blk_setCell (blk_setCell (blk_setCell (blk_setCell (blk_setCell (blk_setCell HR5.out.h2 n12.symm _) n12.symm _) n12.symm _) n12.symm _) n12.symm _) n12.symm _) n12.symm _) n12.symm _) n12.symm _)
            have hend : Mod (fun k => k = b1 ∨ k = b2) w5 ((((((((((((((((((w5.setCell ⟨b1, 0, none⟩ (.int .u32 s0)).setCell ⟨b1, 1, none⟩ (.int .u32 s1)).setCell ⟨b1, 2, none⟩ (.int .u32 s2)).setCell ⟨b1, 3, none⟩ (.int .u32 s3)).setCell ⟨b1, 4, none⟩ (.int .u32 s4)).setCell ⟨b1, 5, none⟩ (.int .u32 s5)).setCell ⟨b1, 6, none⟩ (.int .u32 s6)).setCell ⟨b1, 7, none⟩ (.int .u32 s7)).setCell ⟨b1, 8, none⟩ (.int .u32 pn)).setCell ⟨b2, 0, none⟩ (.int .i64 0)).setCell ⟨b2, 1, none⟩ (.int .u32 0)).setCell ⟨b2, 2, none⟩ (.int .u32 0)).setCell ⟨b2, 3, none⟩ (.int .u32 0)).setCell ⟨b2, 4, none⟩ (.int .u32 0)).setCell ⟨b2, 5, none⟩ (.int .u32 0)).setCell ⟨b2, 6, none⟩ (.int .u32 0)).setCell ⟨b2, 7, none⟩ (.int .i64 0)).drew) := (Mod.put (Mod.put (Mod.put (Mod.put (Mod.put (Mod.put (Mod.put (Mod.put (Mod.put (Mod.put (Mod.put (Mod.put (Mod.put (Mod.put (Mod.put (Mod.put (Mod.put (Mod.refl _ w5) (.inl rfl) 0 _) (.inl rfl) 1 _) (.inl rfl) 2 _) (.inl rfl) 3 _) (.inl rfl) 4 _) (.inl rfl) 5 _) (.inl rfl) 6 _) (.inl rfl) 7 _) (.inl rfl) 8 _) (.inr rfl) 0 _) (.inr rfl) 1 _) (.inr rfl) 2 _) (.inr rfl) 3 _) (.inr rfl) 4 _) (.inr rfl) 5 _) (.inr rfl) 6 _) (.inr rfl) 7 _).drew
            generalize (((((((((((((((((w5.setCell ⟨b1, 0, none⟩ (.int .u32 s0)).setCell ⟨b1, 1, none⟩ (.int .u32 s1)).setCell ⟨b1, 2, none⟩ (.int .u32 s2)).setCell ⟨b1, 3, none⟩ (.int .u32 s3)).setCell ⟨b1, 4, none⟩ (.int .u32 s4)).setCell ⟨b1, 5, none⟩ (.int .u32 s5)).setCell ⟨b1, 6, none⟩ (.int .u32 s6)).setCell ⟨b1, 7, none⟩ (.int .u32 s7)).setCell ⟨b1, 8, none⟩ (.int .u32 pn)).setCell ⟨b2, 0, none⟩ (.int .i64 0)).setCell ⟨b2, 1, none⟩ (.int .u32 0)).setCell ⟨b2, 2, none⟩ (.int .u32 0)).setCell ⟨b2, 3, none⟩ (.int .u32 0)).setCell ⟨b2, 4, none⟩ (.int .u32 0)).setCell ⟨b2, 5, none⟩ (.int .u32 0)).setCell ⟨b2, 6, none⟩ (.int .u32 0)).setCell ⟨b2, 7, none⟩ (.int .i64 0)).drew = wE at hE1 hE2 hend ⊢
            have e0 := row_cell hE1 0
            have e1 := row_cell hE1 1
            have e2 := row_cell hE1 2
            have e3 := row_cell hE1 3
            have e4 := row_cell hE1 4
            have e5 := row_cell hE1 5
            have e6 := row_cell hE1 6
            have e7 := row_cell hE1 7
            have e8 := row_cell hE1 8
            have z0 := row_cell hE2 0
            have z1 := row_cell hE2 1
            have z2 := row_cell hE2 2
            have z3 := row_cell hE2 3
            have z4 := row_cell hE2 4
            have z5 := row_cell hE2 5
            have z6 := row_cell hE2 6
            have z7 := row_cell hE2 7
            simp only [List.getElem?_cons_zero, List.getElem?_cons_succ] at e0 e1 e2 e3 e4 e5 e6 e7 e8 z0 z1 z2 z3 z4 z5 z6 z7
            go_wp2
            refine bodyPost_ret (v := .tuple #[.agg #[.int .u32 s0, .int .u32 s1, .int .u32 s2, .int .u32 s3, .int .u32 s4, .int .u32 s5, .int .u32 s6, .int .u32 s7, .int .u32 pn], .agg #[.int .i64 0, .int .u32 0, .int .u32 0, .int .u32 0, .int .u32 0, .int .u32 0, .int .u32 0, .int .i64 0]]) (by simp [results, Tryz.results16, go_sem, e0, e1, e2, e3, e4, e5, e6, e7, e8, z0, z1, z2, z3, z4, z5, z6, z7]) rfl ?_
            have hmE : Mod K.inn w wE := HR5.out.m.step hend (fun i hi q => by have := HR5.out.l0; have := HR5.out.l1; have := HR5.out.l2; rcases q with q | q <;> omega)
            have hrE : RfM wE K _ := HR5.out.r.kept hend (fun k hk q => by have := HR5.out.lK k hk; have := HR5.out.l0; have := HR5.out.l1; have := HR5.out.l2; rcases q with q | q <;> omega)
            have ho := HOUT.out
            have hd : doR S root [r0, r1, r2, r3, r4, r5, r6, r7] pn o a b c' = ⟨[r0, r1, r2, r3, r4, r5, r6, r7].set a ([r0, r1, r2, r3, r4, r5, r6, r7].getD a 0 % 65536 + 65536 * ((b : Int) + 256 * c')), pn, goesS, S⟩ := by rw [HO.out]; rfl
            rw [hd, if_neg (by simp [goesS])] at ho
            rw [← HVA.out] at ho
            rw [HSE.out] at ho
            subst ho
            exact ⟨rfl, hmE, hrE⟩
          · skip
            have c3 : o = 3 := by omega
            have d0 : ((o : Int) == 0) = false := beq_eq_false_iff_ne.2 (by omega)
            have d1 : ((o : Int) == 1) = false := beq_eq_false_iff_ne.2 (by omega)
            have d2 : ((o : Int) == 2) = false := beq_eq_false_iff_ne.2 (by omega)
            have d3 : ((o : Int) == 3) = true := beq_iff_eq.2 (by omega)
            have d12 : decide ((o : Int) ≤ 12) = true := decide_eq_true (by omega)
            have d16 : decide ((o : Int) ≤ 16) = true := decide_eq_true (by omega)
            have d17 : ((o : Int) == 17) = false := beq_eq_false_iff_ne.2 (by omega)
            have d18 : ((o : Int) == 18) = false := beq_eq_false_iff_ne.2 (by omega)
            have d19 : ((o : Int) == 19) = false := beq_eq_false_iff_ne.2 (by omega)
            have d20 : ((o : Int) == 20) = false := beq_eq_false_iff_ne.2 (by omega)
            have hg := HGOOD.out
            have hn : N = 2 := HNE.out.symm.trans <| by rw [c3]; rfl
            rw [hn] at hg
            have ia : (a : Int) < 8 := by omega
            have HA8 : Hid (a < 8) := by show a < 8; omega
            have ib : (b : Int) < 8 := by omega
            have HB8 : Hid (b < 8) := by show b < 8; omega
            clear hg hn
            have HO : Hid (o = 3) := c3
            clear c3
            obtain ⟨vA, hvA⟩ : ∃ v, v = [r0, r1, r2, r3, r4, r5, r6, r7].getD a 0 := ⟨_, rfl⟩
            have qA : w3.cell? ⟨b0, a, none⟩ = some (.int .u32 vA) := by rw [hvA]; exact regs9 HR3.out.h0 HA8.out
            have hrA : 0 ≤ vA ∧ vA ≤ 4294967295 := by rw [hvA]; exact HREG.out _ (regs_mem (R := [r0, r1, r2, r3, r4, r5, r6, r7]) rfl HA8.out)
            have HVA := Lib.hid hvA
            clear hvA
            obtain ⟨vB, hvB⟩ : ∃ v, v = [r0, r1, r2, r3, r4, r5, r6, r7].getD b 0 := ⟨_, rfl⟩
            have qB : w3.cell? ⟨b0, b, none⟩ = some (.int .u32 vB) := by rw [hvB]; exact regs9 HR3.out.h0 HB8.out
            have hrB : 0 ≤ vB ∧ vB ≤ 4294967295 := by rw [hvB]; exact HREG.out _ (regs_mem (R := [r0, r1, r2, r3, r4, r5, r6, r7]) rfl HB8.out)
            have HVB := Lib.hid hvB
            clear hvB
            obtain ⟨s0, s1, s2, s3, s4, s5, s6, s7, hse⟩ := list8' (l := [r0, r1, r2, r3, r4, r5, r6, r7].set a (vB)) (by rw [List.length_set]; rfl)
            have HSE := Lib.hid hse
            clear hse
            have fa : w3.frozen? ⟨b0, a, none⟩ = false := row_free HR3.out.h0 a
            have px : b0 < w3.heap.size := lt_of_blk HR3.out.h0
            have ngb : g ≠ b0 := NGB.out
            obtain ⟨u0, u1, u2, u3⟩ := HB3.out
            have i4 : (4 : Int) ≤ c := HC4.out
            go_upto_region 23 with (fail)
            go_region
            go_upto_region 42 with (fail)
            have hmm : Mod (fun k => k = b0) w3 ((w3.setCell ⟨b0, a, none⟩ (.int .u32 (vB))).drew) := (Mod.put' (Mod.refl (fun k => k = b0) w3) (show b0 = b0 from rfl) a _).drew
            have hr4 := HR3.out.put0 hmm (blk_drew' (set9regs HR3.out.h0 HA8.out HSE.out))
            generalize (w3.setCell ⟨b0, a, none⟩ (.int .u32 (vB))).drew = w4 at hr4 hmm ⊢
            have HR4 := Lib.hid hr4
            clear hr4 hmm u0 u1 u2 u3 fa px qA ia
            go_upto_region 42 with (fail)
            have x0 := row_cell HR4.out.h0 0
            have x1 := row_cell HR4.out.h0 1
            have x2 := row_cell HR4.out.h0 2
            have x3 := row_cell HR4.out.h0 3
            have x4 := row_cell HR4.out.h0 4
            have x5 := row_cell HR4.out.h0 5
            have x6 := row_cell HR4.out.h0 6
            have x7 := row_cell HR4.out.h0 7
            have x8 := row_cell HR4.out.h0 8
            simp only [List.getElem?_cons_zero, List.getElem?_cons_succ] at x0 x1 x2 x3 x4 x5 x6 x7 x8
            have fx8 : w4.frozen? ⟨b0, 8, none⟩ = false := row_free HR4.out.h0 8
            have px : b0 < w4.heap.size := lt_of_blk HR4.out.h0
            go_upto_region 43 with (fail)
            have hmm : Mod (fun k => k = b0) w4 (w4.setCell ⟨b0, 8, none⟩ (.int .u32 pn)) := Mod.put' (Mod.refl (fun k => k = b0) w4) (show b0 = b0 from rfl) 8 _
            have hr5 := HR4.out.put0 hmm (A0' := [.int .u32 s0, .int .u32 s1, .int .u32 s2, .int .u32 s3, .int .u32 s4, .int .u32 s5, .int .u32 s6, .int .u32 s7, .int .u32 pn]) (row_set HR4.out.h0 8 _)
            generalize (w4.setCell ⟨b0, 8, none⟩ (.int .u32 pn)) = w5 at hr5 ⊢
            clear hmm fx8 px x0 x1 x2 x3 x4 x5 x6 x7 x8
            have HR5 := Lib.hid hr5
            clear hr5
            have x0 := row_cell HR5.out.h0 0
            have x1 := row_cell HR5.out.h0 1
            have x2 := row_cell HR5.out.h0 2
            have x3 := row_cell HR5.out.h0 3
            have x4 := row_cell HR5.out.h0 4
            have x5 := row_cell HR5.out.h0 5
            have x6 := row_cell HR5.out.h0 6
            have x7 := row_cell HR5.out.h0 7
            have x8 := row_cell HR5.out.h0 8
            have t0 := row_cell HR5.out.h4 0
            have t1 := row_cell HR5.out.h4 1
            have t2 := row_cell HR5.out.h4 2
            have t3 := row_cell HR5.out.h4 3
            have t4 := row_cell HR5.out.h4 4
            have t5 := row_cell HR5.out.h4 5
            have t6 := row_cell HR5.out.h4 6
            have t7 := row_cell HR5.out.h4 7
            simp only [List.getElem?_cons_zero, List.getElem?_cons_succ] at x0 x1 x2 x3 x4 x5 x6 x7 x8 t0 t1 t2 t3 t4 t5 t6 t7
            have y0 := row_cell HR5.out.h1 0
            have y1 := row_cell HR5.out.h1 1
            have y2 := row_cell HR5.out.h1 2
            have y3 := row_cell HR5.out.h1 3
            have y4 := row_cell HR5.out.h1 4
            have y5 := row_cell HR5.out.h1 5
            have y6 := row_cell HR5.out.h1 6
            have y7 := row_cell HR5.out.h1 7
            have y8 := row_cell HR5.out.h1 8
            have z0 := row_cell HR5.out.h2 0
            have z1 := row_cell HR5.out.h2 1
            have z2 := row_cell HR5.out.h2 2
            have z3 := row_cell HR5.out.h2 3
            have z4 := row_cell HR5.out.h2 4
            have z5 := row_cell HR5.out.h2 5
            have z6 := row_cell HR5.out.h2 6
            have z7 := row_cell HR5.out.h2 7
            simp only [List.getElem?_cons_zero, List.getElem?_cons_succ] at y0 y1 y2 y3 y4 y5 y6 y7 y8 z0 z1 z2 z3 z4 z5 z6 z7
            have fy0 : w5.frozen? ⟨b1, 0, none⟩ = false := row_free HR5.out.h1 0
            have fy1 : w5.frozen? ⟨b1, 1, none⟩ = false := row_free HR5.out.h1 1
            have fy2 : w5.frozen? ⟨b1, 2, none⟩ = false := row_free HR5.out.h1 2
            have fy3 : w5.frozen? ⟨b1, 3, none⟩ = false := row_free HR5.out.h1 3
            have fy4 : w5.frozen? ⟨b1, 4, none⟩ = false := row_free HR5.out.h1 4
            have fy5 : w5.frozen? ⟨b1, 5, none⟩ = false := row_free HR5.out.h1 5
            have fy6 : w5.frozen? ⟨b1, 6, none⟩ = false := row_free HR5.out.h1 6
            have fy7 : w5.frozen? ⟨b1, 7, none⟩ = false := row_free HR5.out.h1 7
            have fy8 : w5.frozen? ⟨b1, 8, none⟩ = false := row_free HR5.out.h1 8
            have fz0 : w5.frozen? ⟨b2, 0, none⟩ = false := row_free HR5.out.h2 0
            have fz1 : w5.frozen? ⟨b2, 1, none⟩ = false := row_free HR5.out.h2 1
            have fz2 : w5.frozen? ⟨b2, 2, none⟩ = false := row_free HR5.out.h2 2
            have fz3 : w5.frozen? ⟨b2, 3, none⟩ = false := row_free HR5.out.h2 3
            have fz4 : w5.frozen? ⟨b2, 4, none⟩ = false := row_free HR5.out.h2 4
            have fz5 : w5.frozen? ⟨b2, 5, none⟩ = false := row_free HR5.out.h2 5
            have fz6 : w5.frozen? ⟨b2, 6, none⟩ = false := row_free HR5.out.h2 6
            have fz7 : w5.frozen? ⟨b2, 7, none⟩ = false := row_free HR5.out.h2 7
            have p1 : b1 < w5.heap.size := lt_of_blk HR5.out.h1
            have p2 : b2 < w5.heap.size := lt_of_blk HR5.out.h2
            have n01 : b0 ≠ b1 := by have := HR5.out.l1; have := HR5.out.l2; have := HR5.out.l3; have := HR5.out.l4; omega
            have n02 : b0 ≠ b2 := by have := HR5.out.l1; have := HR5.out.l2; have := HR5.out.l3; have := HR5.out.l4; omega
            have n12 : b1 ≠ b2 := by have := HR5.out.l1; have := HR5.out.l2; have := HR5.out.l3; have := HR5.out.l4; omega
            have n13 : b1 ≠ b3 := by have := HR5.out.l1; have := HR5.out.l2; have := HR5.out.l3; have := HR5.out.l4; omega
            have n14 : b1 ≠ b4 := by have := HR5.out.l1; have := HR5.out.l2; have := HR5.out.l3; have := HR5.out.l4; omega
            have n23 : b2 ≠ b3 := by have := HR5.out.l1; have := HR5.out.l2; have := HR5.out.l3; have := HR5.out.l4; omega
            have n24 : b2 ≠ b4 := by have := HR5.out.l1; have := HR5.out.l2; have := HR5.out.l3; have := HR5.out.l4; omega
            have n04 : b0 ≠ b4 := by have := HR5.out.l1; have := HR5.out.l2; have := HR5.out.l3; have := HR5.out.l4; omega
            have n03 : b0 ≠ b3 := by have := HR5.out.l1; have := HR5.out.l2; have := HR5.out.l3; have := HR5.out.l4; omega
            go_region
            have n12 : b1 ≠ b2 := by have := HR5.out.l2; omega
            have hE1 : ((((((((((((((((((w5.setCell ⟨b1, 0, none⟩ (.int .u32 s0)).setCell ⟨b1, 1, none⟩ (.int .u32 s1)).setCell ⟨b1, 2, none⟩ (.int .u32 s2)).setCell ⟨b1, 3, none⟩ (.int .u32 s3)).setCell ⟨b1, 4, none⟩ (.int .u32 s4)).setCell ⟨b1, 5, none⟩ (.int .u32 s5)).setCell ⟨b1, 6, none⟩ (.int .u32 s6)).setCell ⟨b1, 7, none⟩ (.int .u32 s7)).setCell ⟨b1, 8, none⟩ (.int .u32 pn)).setCell ⟨b2, 0, none⟩ (.int .i64 0)).setCell ⟨b2, 1, none⟩ (.int .u32 0)).setCell ⟨b2, 2, none⟩ (.int .u32 0)).setCell ⟨b2, 3, none⟩ (.int .u32 0)).setCell ⟨b2, 4, none⟩ (.int .u32 0)).setCell ⟨b2, 5, none⟩ (.int .u32 0)).setCell ⟨b2, 6, none⟩ (.int .u32 0)).setCell ⟨b2, 7, none⟩ (.int .i64 0)).drew).heap[b1]? = some (.cells ([.int .u32 s0, .int .u32 s1, .int .u32 s2, .int .u32 s3, .int .u32 s4, .int .u32 s5, .int .u32 s6, .int .u32 s7, .int .u32 pn] : List Value).toArray 26 (0, 0)) := by
              have h := set9 HR5.out.h1 rfl (.int .u32 s0) (.int .u32 s1) (.int .u32 s2) (.int .u32 s3) (.int .u32 s4) (.int .u32 s5) (.int .u32 s6) (.int .u32 s7) (.int .u32 pn)
              exact blk_drew' (blk_setCell (blk_setCell (blk_setCell (blk_setCell (blk_setCell (blk_setCell (blk_setCell (blk_setCell h n12 _) n12 _) n12 _) n12 _) n12 _) n12 _) n12 _) n12 _)
            have hE2 : ((((((((((((((((((w5.setCell ⟨b1, 0, none⟩ (.int .u32 s0)).setCell ⟨b1, 1, none⟩ (.int .u32 s1)).setCell ⟨b1, 2, none⟩ (.int .u32 s2)).setCell ⟨b1, 3, none⟩ (.int .u32 s3)).setCell ⟨b1, 4, none⟩ (.int .u32 s4)).setCell ⟨b1, 5, none⟩ (.int .u32 s5)).setCell ⟨b1, 6, none⟩ (.int .u32 s6)).setCell ⟨b1, 7, none⟩ (.int .u32 s7)).setCell ⟨b1, 8, none⟩ (.int .u32 pn)).setCell ⟨b2, 0, none⟩ (.int .i64 0)).setCell ⟨b2, 1, none⟩ (.int .u32 0)).setCell ⟨b2, 2, none⟩ (.int .u32 0)).setCell ⟨b2, 3, none⟩ (.int .u32 0)).setCell ⟨b2, 4, none⟩ (.int .u32 0)).setCell ⟨b2, 5, none⟩ (.int .u32 0)).setCell ⟨b2, 6, none⟩ (.int .u32 0)).setCell ⟨b2, 7, none⟩ (.int .i64 0)).drew).heap[b2]? = some (.cells ([.int .i64 0, .int .u32 0, .int .u32 0, .int .u32 0, .int .u32 0, .int .u32 0, .int .u32 0, .int .i64 0] : List Value).toArray 34 (0, 0)) := by
              refine blk_drew' (set8 (w := (((((((((w5.setCell ⟨b1, 0, none⟩ (.int .u32 s0)).setCell ⟨b1, 1, none⟩ (.int .u32 s1)).setCell ⟨b1, 2, none⟩ (.int .u32 s2)).setCell ⟨b1, 3, none⟩ (.int .u32 s3)).setCell ⟨b1, 4, none⟩ (.int .u32 s4)).setCell ⟨b1, 5, none⟩ (.int .u32 s5)).setCell ⟨b1, 6, none⟩ (.int .u32 s6)).setCell ⟨b1, 7, none⟩ (.int .u32 s7)).setCell ⟨b1, 8, none⟩ (.int .u32 pn))) (L := [.int .i64 0, .int .u32 0, .int .u32 0, .int .u32 0, .int .u32 0, .int .u32 0, .int .u32 0, .int .i64 0]) ?_ rfl (.int .i64 0) (.int .u32 0) (.int .u32 0) (.int .u32 0) (.int .u32 0) (.int .u32 0) (.int .u32 0) (.int .i64 0))
              exact (blk_setCell (blk_setCell (blk_setCell (blk_setCell (blk_setCell (blk_setCell (blk_setCell (blk_setCell (blk_setCell HR5.out.h2 n12.symm _) n12.symm _) n12.symm _) n12.symm _) n12.symm _) n12.symm _) n12.symm _) n12.symm _) n12.symm _)
            have hend : Mod (fun k => k = b1 ∨ k = b2) w5 ((((((((((((((((((w5.setCell ⟨b1, 0, none⟩ (.int .u32 s0)).setCell ⟨b1, 1, none⟩ (.int .u32 s1)).setCell ⟨b1, 2, none⟩ (.int .u32 s2)).setCell ⟨b1, 3, none⟩ (.int .u32 s3)).setCell ⟨b1, 4, none⟩ (.int .u32 s4)).setCell ⟨b1, 5, none⟩ (.int .u32 s5)).setCell ⟨b1, 6, none⟩ (.int .u32 s6)).setCell ⟨b1, 7, none⟩ (.int .u32 s7)).setCell ⟨b1, 8, none⟩ (.int .u32 pn)).setCell ⟨b2, 0, none⟩ (.int .i64 0)).setCell ⟨b2, 1, none⟩ (.int .u32 0)).setCell ⟨b2, 2, none⟩ (.int .u32 0)).setCell ⟨b2, 3, none⟩ (.int .u32 0)).setCell ⟨b2, 4, none⟩ (.int .u32 0)).setCell ⟨b2, 5, none⟩ (.int .u32 0)).setCell ⟨b2, 6, none⟩ (.int .u32 0)).setCell ⟨b2, 7, none⟩ (.int .i64 0)).drew) := (Mod.put (Mod.put (Mod.put (Mod.put (Mod.put (Mod.put (Mod.put (Mod.put (Mod.put (Mod.put (Mod.put (Mod.put (Mod.put (Mod.put (Mod.put (Mod.put (Mod.put (Mod.refl _ w5) (.inl rfl) 0 _) (.inl rfl) 1 _) (.inl rfl) 2 _) (.inl rfl) 3 _) (.inl rfl) 4 _) (.inl rfl) 5 _) (.inl rfl) 6 _) (.inl rfl) 7 _) (.inl rfl) 8 _) (.inr rfl) 0 _) (.inr rfl) 1 _) (.inr rfl) 2 _) (.inr rfl) 3 _) (.inr rfl) 4 _) (.inr rfl) 5 _) (.inr rfl) 6 _) (.inr rfl) 7 _).drew
            generalize (((((((((((((((((w5.setCell ⟨b1, 0, none⟩ (.int .u32 s0)).setCell ⟨b1, 1, none⟩ (.int .u32 s1)).setCell ⟨b1, 2, none⟩ (.int .u32 s2)).setCell ⟨b1, 3, none⟩ (.int .u32 s3)).setCell ⟨b1, 4, none⟩ (.int .u32 s4)).setCell ⟨b1, 5, none⟩ (.int .u32 s5)).setCell ⟨b1, 6, none⟩ (.int .u32 s6)).setCell ⟨b1, 7, none⟩ (.int .u32 s7)).setCell ⟨b1, 8, none⟩ (.int .u32 pn)).setCell ⟨b2, 0, none⟩ (.int .i64 0)).setCell ⟨b2, 1, none⟩ (.int .u32 0)).setCell ⟨b2, 2, none⟩ (.int .u32 0)).setCell ⟨b2, 3, none⟩ (.int .u32 0)).setCell ⟨b2, 4, none⟩ (.int .u32 0)).setCell ⟨b2, 5, none⟩ (.int .u32 0)).setCell ⟨b2, 6, none⟩ (.int .u32 0)).setCell ⟨b2, 7, none⟩ (.int .i64 0)).drew = wE at hE1 hE2 hend ⊢
            have e0 := row_cell hE1 0
            have e1 := row_cell hE1 1
            have e2 := row_cell hE1 2
            have e3 := row_cell hE1 3
            have e4 := row_cell hE1 4
            have e5 := row_cell hE1 5
            have e6 := row_cell hE1 6
            have e7 := row_cell hE1 7
            have e8 := row_cell hE1 8
            have z0 := row_cell hE2 0
            have z1 := row_cell hE2 1
            have z2 := row_cell hE2 2
            have z3 := row_cell hE2 3
            have z4 := row_cell hE2 4
            have z5 := row_cell hE2 5
            have z6 := row_cell hE2 6
            have z7 := row_cell hE2 7
            simp only [List.getElem?_cons_zero, List.getElem?_cons_succ] at e0 e1 e2 e3 e4 e5 e6 e7 e8 z0 z1 z2 z3 z4 z5 z6 z7
            go_wp2
            refine bodyPost_ret (v := .tuple #[.agg #[.int .u32 s0, .int .u32 s1, .int .u32 s2, .int .u32 s3, .int .u32 s4, .int .u32 s5, .int .u32 s6, .int .u32 s7, .int .u32 pn], .agg #[.int .i64 0, .int .u32 0, .int .u32 0, .int .u32 0, .int .u32 0, .int .u32 0, .int .u32 0, .int .i64 0]]) (by simp [results, Tryz.results16, go_sem, e0, e1, e2, e3, e4, e5, e6, e7, e8, z0, z1, z2, z3, z4, z5, z6, z7]) rfl ?_
            have hmE : Mod K.inn w wE := HR5.out.m.step hend (fun i hi q => by have := HR5.out.l0; have := HR5.out.l1; have := HR5.out.l2; rcases q with q | q <;> omega)
            have hrE : RfM wE K _ := HR5.out.r.kept hend (fun k hk q => by have := HR5.out.lK k hk; have := HR5.out.l0; have := HR5.out.l1; have := HR5.out.l2; rcases q with q | q <;> omega)
            have ho := HOUT.out
            have hd : doR S root [r0, r1, r2, r3, r4, r5, r6, r7] pn o a b c' = ⟨[r0, r1, r2, r3, r4, r5, r6, r7].set a ([r0, r1, r2, r3, r4, r5, r6, r7].getD b 0), pn, goesS, S⟩ := by rw [HO.out]; rfl
            rw [hd, if_neg (by simp [goesS])] at ho
            rw [← HVB.out] at ho
            rw [HSE.out] at ho
            subst ho
            exact ⟨rfl, hmE, hrE⟩

end Go.Proofs.YtlbebneblmgdcaaGreatDoor
