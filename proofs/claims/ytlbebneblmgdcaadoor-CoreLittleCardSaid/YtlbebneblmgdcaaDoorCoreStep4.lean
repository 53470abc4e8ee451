/- core.Step: an instruction that is good. (Printed by wip/gen_step.py.) -/
import Derived.Test.YtlbebneblmgdcaaDoorCoreStep
namespace Go.Proofs.YtlbebneblmgdcaaDoor
open Go.RowKit
set_option maxRecDepth 100000

set_option maxHeartbeats 8000000 in
theorem step_4 {B F : Nat} {S : List Fr} (root r0 r1 r2 r3 r4 r5 r6 r7 r8 : Int) (w : World) (hm : PhM w B F S) (h8 : 0 ≤ r8 ∧ r8 ≤ 4294967295) (o : Nat) (a b c' : Int) (he : (fetchR S root r8 4).1 = 0) (hbs : (fetchR S root r8 4).2 = [(o : Int), a, b, c']) (ho : o ≤ 20) (hra : 0 ≤ a ∧ a ≤ 255) (hrb : 0 ≤ b ∧ b ≤ 255) (hrc : 0 ≤ c' ∧ c' ≤ 255) (hreg : ∀ x ∈ [r0, r1, r2, r3, r4, r5, r6, r7], 0 ≤ x ∧ x ≤ 4294967295) (hgood : ¬ ((1 ≤ namedR o ∧ 7 < a) ∨ (2 ≤ namedR o ∧ 7 < b) ∨ (3 ≤ namedR o ∧ 7 < c'))) :
    Calls Tryd.prog 6 #[.pointer (some ⟨B, 0, none⟩), .int .i64 root, .agg #[.int .u32 r0, .int .u32 r1, .int .u32 r2, .int .u32 r3, .int .u32 r4, .int .u32 r5, .int .u32 r6, .int .u32 r7, .int .u32 r8]] w (StepPost B F (if (doR S root [r0, r1, r2, r3, r4, r5, r6, r7] ((r8 + 4) % 1048576) o a b c').s.k = 3 ∨ (doR S root [r0, r1, r2, r3, r4, r5, r6, r7] ((r8 + 4) % 1048576) o a b c').s.k = 1 then ⟨[r0, r1, r2, r3, r4, r5, r6, r7], r8, (doR S root [r0, r1, r2, r3, r4, r5, r6, r7] ((r8 + 4) % 1048576) o a b c').s, (doR S root [r0, r1, r2, r3, r4, r5, r6, r7] ((r8 + 4) % 1048576) o a b c').S⟩ else doR S root [r0, r1, r2, r3, r4, r5, r6, r7] ((r8 + 4) % 1048576) o a b c') w) := by
  have HFE : Hid (∀ w' , Mod No w w' → Calls Tryd.prog 17 #[.pointer (some ⟨B, 0, none⟩), .int .i64 root, .int .u32 r8, .int .i64 4] w' (OwnB w' (fetchR S root r8 4).1 (fetchR S root r8 4).2)) := fun w' hm' => pfetchR root r8 4 w' (hm.kept hm' (fun q => q) (fun q => q)) h8.1 h8.2 (by omega)
  have HM := Lib.hid hm
  have hfit : r8 + 4 ≤ 1048576 := fetchR_fits he (by omega)
  have hpr : 0 ≤ (r8 + 4) % 1048576 ∧ (r8 + 4) % 1048576 < 1048576 := by omega
  have HDO : Hid (∀ (w' : World) (P : Nat), PhM w' B F S → CpuAt w' P [r0, r1, r2, r3, r4, r5, r6, r7] ((r8 + 4) % 1048576) (.pointer (some ⟨B, 0, none⟩)) root (stopL 0 0 0 0 0 0 0 0) → P ≠ B → P ≠ F → Calls Tryd.prog (opsFn.getD o 0) #[.pointer (some ⟨P, 0, none⟩), .agg #[.int .u8 o, .int .u8 a, .int .u8 b, .int .u8 c']] w' (DoS w' P B F (doR S root [r0, r1, r2, r3, r4, r5, r6, r7] ((r8 + 4) % 1048576) o a b c').R (doR S root [r0, r1, r2, r3, r4, r5, r6, r7] ((r8 + 4) % 1048576) o a b c').pc root (doR S root [r0, r1, r2, r3, r4, r5, r6, r7] ((r8 + 4) % 1048576) o a b c').s.L (doR S root [r0, r1, r2, r3, r4, r5, r6, r7] ((r8 + 4) % 1048576) o a b c').S)) :=
    fun w' P hm' hc' hPB hPF => do_any P o a b c' _ _ root w' hm' hc' hreg (by omega) hra hrb hrc hpr (by refine ⟨fun q => ?_, fun q => ?_, fun q => ?_⟩ <;> omega) hPB hPF
  obtain ⟨pn, hpn⟩ : ∃ pn, pn = (r8 + 4) % 1048576 := ⟨_, rfl⟩
  rw [← hpn] at HDO ⊢
  have HPN := Lib.hid hpn
  generalize doR S root [r0, r1, r2, r3, r4, r5, r6, r7] pn o a b c' = d at HDO ⊢
  obtain ⟨R', pc', s', S'⟩ := d
  dsimp only at HDO ⊢
  generalize hout : (if s'.k = 3 ∨ s'.k = 1 then (⟨[r0, r1, r2, r3, r4, r5, r6, r7], r8, s', S'⟩ : Out) else ⟨R', pc', s', S'⟩) = out
  have HOUT := Lib.hid hout
  clear hout
  clear hreg hfit hpn hra hrb hrc hpr
  obtain ⟨fn, hfn⟩ : ∃ fn, fn = opsFn.getD o 0 := ⟨_, rfl⟩
  have HFN := Lib.hid hfn
  rw [← hfn] at HDO
  clear hfn
  have HFR := Lib.hid (fetchR_range (root := root) (va := r8) (n := 4) hm.ok)
  have HFS : Hid ((fetchR S root r8 4).2.length ≤ 256) := Lib.hid fetchR_small
  rw [he] at HFE
  have HBS := Lib.hid hbs
  generalize (fetchR S root r8 4).2 = bs at HFE HFR HFS HBS
  clear he hbs
  clear hm h8
  go_enter Tryd.func6, Tryd.ntmps6
  go_wp2
  refine wp_scope_on 0 rfl ?_
  go_upto_region 6 with (fail)
  have hwb := stepW_made w r0 r1 r2 r3 r4 r5 r6 r7 r8
  generalize ((((w.alloc (.cells #[.int .u32 r0, .int .u32 r1, .int .u32 r2, .int .u32 r3, .int .u32 r4, .int .u32 r5, .int .u32 r6, .int .u32 r7, .int .u32 r8] 26)).alloc (.cells #[.int .u32 0, .int .u32 0, .int .u32 0, .int .u32 0, .int .u32 0, .int .u32 0, .int .u32 0, .int .u32 0, .int .u32 0] 26)).alloc (.cells #[.int .i64 0, .int .u32 0, .int .u32 0, .int .u32 0, .int .u32 0, .int .u32 0, .int .u32 0, .int .i64 0] 34)).alloc (.cells #[.int .u8 0, .int .u8 0, .int .u8 0, .int .u8 0] 63)) = w1 at hwb ⊢
  generalize w.heap.size + 1 + 1 + 1 = b3 at hwb ⊢
  generalize w.heap.size + 1 + 1 = b2 at hwb ⊢
  generalize w.heap.size + 1 = b1 at hwb ⊢
  generalize w.heap.size = b0 at hwb ⊢
  have HW := Lib.hid hwb
  have x8 := row_cell hwb.h0 8
  simp only [List.getElem?_cons_zero, List.getElem?_cons_succ] at x8
  clear hwb
  go_wp2_with fail
  refine (HFE.out _ HW.out.m).mono ?_
  rintro e w2 ⟨q, k, c, rfl, hm2, hown⟩
  have HW2 := Lib.hid (HW.out.kept hm2)
  have HW1 := Lib.hid HW.out.h3
  have HOWN := Lib.hid hown
  clear x8 hm2 hown HW HFE
  obtain ⟨hk, hby, hblk⟩ := Byt.ofOwn HOWN.out HFR.out (Nat.le_trans HFS.out (by omega))
  obtain ⟨g, off, rfl, hg, hcell⟩ := hby.at_ (by have := HBS.out; rw [this]; simp)
  have hgl := (hblk g off rfl).1
  have hB := HBS.out
  rw [hB] at hcell
  have u0 := hcell 0 (o : Int) rfl
  have u1 := hcell 1 a rfl
  have u2 := hcell 2 b rfl
  have u3 := hcell 3 c' rfl
  simp only [Nat.add_zero] at u0
  have hk4 : k = 4 := by rw [hk, hB]; rfl
  subst hk4
  have hg3 : g ≠ b3 := by have := lt_of_blk HW1.out; omega
  have HU : Hid (w2.cell? ⟨g, off, none⟩ = some (.int .u8 o) ∧ w2.cell? ⟨g, off + 1, none⟩ = some (.int .u8 a) ∧ w2.cell? ⟨g, off + 2, none⟩ = some (.int .u8 b) ∧ w2.cell? ⟨g, off + 3, none⟩ = some (.int .u8 c')) := Lib.hid ⟨u0, u1, u2, u3⟩
  have hc4 : 4 ≤ c := by have := hby.fit; rw [hB] at this; exact this
  have v0 := row_cell HW2.out.h3 0
  have v1 := row_cell HW2.out.h3 1
  have v2 := row_cell HW2.out.h3 2
  have v3 := row_cell HW2.out.h3 3
  simp only [List.getElem?_cons_zero, List.getElem?_cons_succ] at v0 v1 v2 v3
  have fv0 : w2.frozen? ⟨b3, 0, none⟩ = false := row_free HW2.out.h3 0
  have fv1 : w2.frozen? ⟨b3, 1, none⟩ = false := row_free HW2.out.h3 1
  have fv2 : w2.frozen? ⟨b3, 2, none⟩ = false := row_free HW2.out.h3 2
  have fv3 : w2.frozen? ⟨b3, 3, none⟩ = false := row_free HW2.out.h3 3
  have p3 : b3 < w2.heap.size := lt_of_blk HW2.out.h3
  clear hcell hby hblk HOWN hk hB
  go_upto_region 9 with (fail)
  go_region
  have hsw := HW2.out.instr o a b c'
  have hmm : Mod (fun k => k = b3) w2 (((((w2.setCell ⟨b3, 0, none⟩ (.int .u8 o)).setCell ⟨b3, 1, none⟩ (.int .u8 a)).setCell ⟨b3, 2, none⟩ (.int .u8 b)).setCell ⟨b3, 3, none⟩ (.int .u8 c')).drew) := mod_instr (w := w2) (b := b3) (.int .u8 o) (.int .u8 a) (.int .u8 b) (.int .u8 c')
  generalize (((((w2.setCell ⟨b3, 0, none⟩ (.int .u8 o)).setCell ⟨b3, 1, none⟩ (.int .u8 a)).setCell ⟨b3, 2, none⟩ (.int .u8 b)).setCell ⟨b3, 3, none⟩ (.int .u8 c')).drew) = w3 at hsw hmm ⊢
  have hu3 : w3.cell? ⟨g, off, none⟩ = some (.int .u8 o) ∧ w3.cell? ⟨g, off + 1, none⟩ = some (.int .u8 a) ∧ w3.cell? ⟨g, off + 2, none⟩ = some (.int .u8 b) ∧ w3.cell? ⟨g, off + 3, none⟩ = some (.int .u8 c') := by
    obtain ⟨x0, x1, x2, x3⟩ := HU.out
    exact ⟨(World.cell?_of_block (w := w2) (hmm.block g hg hg3)).trans x0, (World.cell?_of_block (w := w2) (hmm.block g hg hg3)).trans x1, (World.cell?_of_block (w := w2) (hmm.block g hg hg3)).trans x2, (World.cell?_of_block (w := w2) (hmm.block g hg hg3)).trans x3⟩
  have HW3 := Lib.hid hsw
  have HU3 := Lib.hid hu3
  clear hmm HU HW2 u0 u1 u2 u3 v0 v1 v2 v3 fv0 fv1 fv2 fv3 p3 hsw hu3 HW1 HFR HFS HBS
  have hS1 : (fun w' : World => w'.cell? ⟨b3, 0, none⟩ = some (.int .u8 o)) w3 := row_cell HW3.out.h3 0
  have u1 := hS1
  go_upto_region 10 with (fail)
  go_region_held3 (fun w' : World => w'.cell? ⟨b3, 0, none⟩ = some (.int .u8 o)) (first | exact hS1 | assumption) ((go_at_call 18; refine (operators_any _).mono ?_; rintro e w4 ⟨bm, rfl, hmap, hm4⟩; have hlook := ops_look2 hmap o fn (by omega) HFN.out; have HW4 := Lib.hid (HW3.out.kept ((Mod.refl No w3).drew.trans hm4)); have HM4 := Lib.hid ((Mod.refl No w3).drew.trans hm4); have hS2 : (fun w' : World => w'.cell? ⟨b3, 0, none⟩ = some (.int .u8 o)) w4 := row_cell HW4.out.h3 0; clear hm4 hmap))
  have HU4 := Lib.hid (⟨cells_at HM4.out HU3.out.1, cells_at HM4.out HU3.out.2.1, cells_at HM4.out HU3.out.2.2.1, cells_at HM4.out HU3.out.2.2.2⟩ : _ ∧ _ ∧ _ ∧ _)
  clear u1 hS2 hS1 HW3 HU3
  obtain ⟨v0, v1, v2, v3⟩ : w4.cell? ⟨b3, 0, none⟩ = some (.int .u8 o) ∧ w4.cell? ⟨b3, 1, none⟩ = some (.int .u8 a) ∧ w4.cell? ⟨b3, 2, none⟩ = some (.int .u8 b) ∧ w4.cell? ⟨b3, 3, none⟩ = some (.int .u8 c') := ⟨row_cell HW4.out.h3 0, row_cell HW4.out.h3 1, row_cell HW4.out.h3 2, row_cell HW4.out.h3 3⟩
  have HSH : Hid (∀ w', Calls Tryd.prog 19 #[.agg #[.int .u8 o, .int .u8 a, .int .u8 b, .int .u8 c']] w' fun e w2 => (∃ n k, e = .returned (.agg #[.int .i64 (namedR o), .int .i64 n, .bool k])) ∧ Mod No w' w2) := fun w' => shape_any o a b c' w' (by omega)
  clear hlook HM4
  have hfld := shape_field
  go_wp2_with (go_at_call 19; refine (HSH.out _).mono ?_; rintro e w5 ⟨⟨n1, k1, rfl⟩, hm5⟩; have HW5 := Lib.hid (HW4.out.kept hm5); have HU5 := Lib.hid (⟨cells_at hm5 HU4.out.1, cells_at hm5 HU4.out.2.1, cells_at hm5 HU4.out.2.2.1, cells_at hm5 HU4.out.2.2.2⟩ : _ ∧ _ ∧ _ ∧ _); clear hm5)
  have hN : namedR o ≤ 3 := namedR_le _
  generalize namedR o = N at hN hgood ⊢
  clear HSH v0 v1 v2 v3
  clear hfld
  go_wp2_with fail
  go_loopw [51] (fun iv wr => ∃ (j : Nat), j ≤ N ∧ iv = .int .i64 j ∧ wr = w5 ∧ ((1 ≤ j → a ≤ 7) ∧ (2 ≤ j → b ≤ 7) ∧ (3 ≤ j → c' ≤ 7))) (fun iv _ => N - (intOf iv).toNat)
  case atStart => exact ⟨0, Nat.zero_le _, rfl, rfl, by omega⟩
  case round =>
    obtain ⟨j, hj, rfl, rfl, hok⟩ := hrel
    by_cases hlt : j < N
    · have hlt' : (j : Int) < (N : Int) := by omega
      have hsum : IntKind.i64.wrap (1 + (j : Int)) = ((1 + j : Nat) : Int) := by rw [IntWalk.i64_in _ (by omega)]; omega
      have hj4 : ((1 + j : Nat) : Int) < 4 := by omega
      have hj0 : (0 : Int) ≤ ((1 + j : Nat) : Int) := by omega
      obtain ⟨x, hx, hxe⟩ : ∃ x, wr.cell? ⟨g, off + (1 + j), none⟩ = some (.int .u8 x) ∧ ((j = 0 ∧ x = a) ∨ (j = 1 ∧ x = b) ∨ (j = 2 ∧ x = c')) := by
        rcases (show j = 0 ∨ j = 1 ∨ j = 2 by omega) with rfl | rfl | rfl
        · exact ⟨a, HU5.out.2.1, .inl ⟨rfl, rfl⟩⟩
        · exact ⟨b, HU5.out.2.2.1, .inr (.inl ⟨rfl, rfl⟩)⟩
        · exact ⟨c', HU5.out.2.2.2, .inr (.inr ⟨rfl, rfl⟩)⟩
      have HXE := Lib.hid hxe
      have HOK := Lib.hid hok
      by_cases h7 : 7 < x
      · have d7 : decide (x > 7) = true := decide_eq_true h7
        clear hxe hok
        exfalso
        have := HXE.out
        omega
      · have d7 : decide (x > 7) = false := decide_eq_false h7
        clear hxe hok
        go_wp2
        go_roundw
        case rel => exact ⟨j + 1, by omega, by go_num, (by first | rfl | trivial), by have := HXE.out; have := HOK.out; omega⟩
        case measure => simp [intOf]; omega
    · obtain rfl : j = N := by omega
      clear hgood hok hlt hj hN HU5
      have x8 : wr.cell? ⟨b0, 8, none⟩ = some (.int .u32 r8) := row_cell HW5.out.h0 8
      have x0 : wr.cell? ⟨b0, 0, none⟩ = some (.int .u32 r0) := row_cell HW5.out.h0 0
      have x1 : wr.cell? ⟨b0, 1, none⟩ = some (.int .u32 r1) := row_cell HW5.out.h0 1
      have x2 : wr.cell? ⟨b0, 2, none⟩ = some (.int .u32 r2) := row_cell HW5.out.h0 2
      have x3 : wr.cell? ⟨b0, 3, none⟩ = some (.int .u32 r3) := row_cell HW5.out.h0 3
      have x4 : wr.cell? ⟨b0, 4, none⟩ = some (.int .u32 r4) := row_cell HW5.out.h0 4
      have x5 : wr.cell? ⟨b0, 5, none⟩ = some (.int .u32 r5) := row_cell HW5.out.h0 5
      have x6 : wr.cell? ⟨b0, 6, none⟩ = some (.int .u32 r6) := row_cell HW5.out.h0 6
      have x7 : wr.cell? ⟨b0, 7, none⟩ = some (.int .u32 r7) := row_cell HW5.out.h0 7
      have v0 : wr.cell? ⟨b3, 0, none⟩ = some (.int .u8 o) := row_cell HW5.out.h3 0
      have v1 : wr.cell? ⟨b3, 1, none⟩ = some (.int .u8 a) := row_cell HW5.out.h3 1
      have v2 : wr.cell? ⟨b3, 2, none⟩ = some (.int .u8 b) := row_cell HW5.out.h3 2
      have v3 : wr.cell? ⟨b3, 3, none⟩ = some (.int .u8 c') := row_cell HW5.out.h3 3
      have k0 : b0 ≠ wr.heap.size := by have := lt_of_blk HW5.out.h0; omega
      have k3 : b3 ≠ wr.heap.size := by have := lt_of_blk HW5.out.h3; omega
      have k0' : b0 < wr.heap.size := lt_of_blk HW5.out.h0
      have k3' : b3 < wr.heap.size := lt_of_blk HW5.out.h3
      have hcf : ∀ args w, (callFunc fn args).run Tryd.prog w = .ok (.enter fn args) w := by rw [HFN.out]; exact ops_call o ho
      go_wp2_with fail
      have hPB : wr.heap.size ≠ B := by have := HM.out.ltB; have := HW5.out.m.size; omega
      have hPF : wr.heap.size ≠ F := by have := HM.out.ltF; have := HW5.out.m.size; omega
      have hPw : w.heap.size ≤ wr.heap.size := HW5.out.m.size
      rw [← HPN.out]
      have hm7 : Mod No wr (wr.alloc (.cells #[.int .u32 r0, .int .u32 r1, .int .u32 r2, .int .u32 r3, .int .u32 r4, .int .u32 r5, .int .u32 r6, .int .u32 r7, .int .u32 pn, .pointer (some ⟨B, 0, none⟩), .int .i64 root, .int .i64 0, .int .u32 0, .int .u32 0, .int .u32 0, .int .u32 0, .int .u32 0, .int .u32 0, .int .i64 0] 74)) := (Mod.refl No wr).alloc _
      have hc7 : CpuAt (wr.alloc (.cells #[.int .u32 r0, .int .u32 r1, .int .u32 r2, .int .u32 r3, .int .u32 r4, .int .u32 r5, .int .u32 r6, .int .u32 r7, .int .u32 pn, .pointer (some ⟨B, 0, none⟩), .int .i64 root, .int .i64 0, .int .u32 0, .int .u32 0, .int .u32 0, .int .u32 0, .int .u32 0, .int .u32 0, .int .i64 0] 74)) wr.heap.size [r0, r1, r2, r3, r4, r5, r6, r7] pn (.pointer (some ⟨B, 0, none⟩)) root (stopL 0 0 0 0 0 0 0 0) := ⟨heap_alloc_new wr _, rfl⟩
      generalize (wr.alloc (.cells #[.int .u32 r0, .int .u32 r1, .int .u32 r2, .int .u32 r3, .int .u32 r4, .int .u32 r5, .int .u32 r6, .int .u32 r7, .int .u32 pn, .pointer (some ⟨B, 0, none⟩), .int .i64 root, .int .i64 0, .int .u32 0, .int .u32 0, .int .u32 0, .int .u32 0, .int .u32 0, .int .u32 0, .int .i64 0] 74)) = w7 at hm7 hc7 ⊢
      generalize wr.heap.size = P at hc7 hPB hPF k0 k3 k0' k3' hPw ⊢
      have hPb := k3'
      have HW7 := Lib.hid (HW5.out.kept hm7)
      have HPH7 := Lib.hid (HM.out.kept HW7.out.m (fun q => q) (fun q => q))
      have HDP := Lib.hid (HDO.out w7 P HPH7.out hc7 hPB hPF)
      clear x0 x1 x2 x3 x4 x5 x6 x7 x8 v0 v1 v2 v3 k0 k3 k0' HW5 hm7 hc7 HDO HPN HPH7 hcf
      refine HDP.out.mono ?_
      rintro e w8 ⟨rfl, hc8, hp8, hm8⟩
      have HW8 := Lib.hid (HW7.out.keptPF hm8 hPb HM.out.ltF)
      have HP8 := Lib.hid hp8
      obtain ⟨q0, q1, q2, q3, q4, q5, q6, q7, rfl⟩ : ∃ q0 q1 q2 q3 q4 q5 q6 q7, R' = [q0, q1, q2, q3, q4, q5, q6, q7] := by
        have hl := hc8.2
        match R', hl with
        | [q0, q1, q2, q3, q4, q5, q6, q7], _ => exact ⟨q0, q1, q2, q3, q4, q5, q6, q7, rfl⟩
      obtain ⟨sk, sc, sa1, sa2, sa3, sa4, sa5, sy⟩ := s'
      have HC8 := Lib.hid hc8
      have t0 : w8.cell? ⟨P, 11, none⟩ = some (.int .i64 sk) := HC8.out.rest 3
      have t1 : w8.cell? ⟨P, 12, none⟩ = some (.int .u32 sc) := HC8.out.rest 4
      have t2 : w8.cell? ⟨P, 13, none⟩ = some (.int .u32 sa1) := HC8.out.rest 5
      have t3 : w8.cell? ⟨P, 14, none⟩ = some (.int .u32 sa2) := HC8.out.rest 6
      have t4 : w8.cell? ⟨P, 15, none⟩ = some (.int .u32 sa3) := HC8.out.rest 7
      have t5 : w8.cell? ⟨P, 16, none⟩ = some (.int .u32 sa4) := HC8.out.rest 8
      have t6 : w8.cell? ⟨P, 17, none⟩ = some (.int .u32 sa5) := HC8.out.rest 9
      have t7 : w8.cell? ⟨P, 18, none⟩ = some (.int .i64 sy) := HC8.out.rest 10
      have HMF : Hid (Mod (One F) w w8) := by
        refine Lib.hid (HW7.out.m.of_no.step hm8 (fun i hi q => ?_))
        rcases q with q | q
        · exact absurd hi (by omega)
        · exact q
      clear hc8 hp8 hm8 HW7 HDP
      dsimp only
      have x0 := row_cell HW8.out.h0 0
      have x1 := row_cell HW8.out.h0 1
      have x2 := row_cell HW8.out.h0 2
      have x3 := row_cell HW8.out.h0 3
      have x4 := row_cell HW8.out.h0 4
      have x5 := row_cell HW8.out.h0 5
      have x6 := row_cell HW8.out.h0 6
      have x7 := row_cell HW8.out.h0 7
      have x8 := row_cell HW8.out.h0 8
      have y0 := row_cell HW8.out.h1 0
      have y1 := row_cell HW8.out.h1 1
      have y2 := row_cell HW8.out.h1 2
      have y3 := row_cell HW8.out.h1 3
      have y4 := row_cell HW8.out.h1 4
      have y5 := row_cell HW8.out.h1 5
      have y6 := row_cell HW8.out.h1 6
      have y7 := row_cell HW8.out.h1 7
      have y8 := row_cell HW8.out.h1 8
      have z0 := row_cell HW8.out.h2 0
      have z1 := row_cell HW8.out.h2 1
      have z2 := row_cell HW8.out.h2 2
      have z3 := row_cell HW8.out.h2 3
      have z4 := row_cell HW8.out.h2 4
      have z5 := row_cell HW8.out.h2 5
      have z6 := row_cell HW8.out.h2 6
      have z7 := row_cell HW8.out.h2 7
      have v0 := row_cell HW8.out.h3 0
      have v1 := row_cell HW8.out.h3 1
      have v2 := row_cell HW8.out.h3 2
      have v3 := row_cell HW8.out.h3 3
      simp only [List.getElem?_cons_zero, List.getElem?_cons_succ] at x0 x1 x2 x3 x4 x5 x6 x7 x8 y0 y1 y2 y3 y4 y5 y6 y7 y8 z0 z1 z2 z3 z4 z5 z6 z7 v0 v1 v2 v3
      have fy0 : w8.frozen? ⟨b1, 0, none⟩ = false := row_free HW8.out.h1 0
      have fy1 : w8.frozen? ⟨b1, 1, none⟩ = false := row_free HW8.out.h1 1
      have fy2 : w8.frozen? ⟨b1, 2, none⟩ = false := row_free HW8.out.h1 2
      have fy3 : w8.frozen? ⟨b1, 3, none⟩ = false := row_free HW8.out.h1 3
      have fy4 : w8.frozen? ⟨b1, 4, none⟩ = false := row_free HW8.out.h1 4
      have fy5 : w8.frozen? ⟨b1, 5, none⟩ = false := row_free HW8.out.h1 5
      have fy6 : w8.frozen? ⟨b1, 6, none⟩ = false := row_free HW8.out.h1 6
      have fy7 : w8.frozen? ⟨b1, 7, none⟩ = false := row_free HW8.out.h1 7
      have fy8 : w8.frozen? ⟨b1, 8, none⟩ = false := row_free HW8.out.h1 8
      have fz0 : w8.frozen? ⟨b2, 0, none⟩ = false := row_free HW8.out.h2 0
      have fz1 : w8.frozen? ⟨b2, 1, none⟩ = false := row_free HW8.out.h2 1
      have fz2 : w8.frozen? ⟨b2, 2, none⟩ = false := row_free HW8.out.h2 2
      have fz3 : w8.frozen? ⟨b2, 3, none⟩ = false := row_free HW8.out.h2 3
      have fz4 : w8.frozen? ⟨b2, 4, none⟩ = false := row_free HW8.out.h2 4
      have fz5 : w8.frozen? ⟨b2, 5, none⟩ = false := row_free HW8.out.h2 5
      have fz6 : w8.frozen? ⟨b2, 6, none⟩ = false := row_free HW8.out.h2 6
      have fz7 : w8.frozen? ⟨b2, 7, none⟩ = false := row_free HW8.out.h2 7
      have fv0 : w8.frozen? ⟨b3, 0, none⟩ = false := row_free HW8.out.h3 0
      have fv1 : w8.frozen? ⟨b3, 1, none⟩ = false := row_free HW8.out.h3 1
      have fv2 : w8.frozen? ⟨b3, 2, none⟩ = false := row_free HW8.out.h3 2
      have fv3 : w8.frozen? ⟨b3, 3, none⟩ = false := row_free HW8.out.h3 3
      have p1 : b1 < w8.heap.size := lt_of_blk HW8.out.h1
      have p2 : b2 < w8.heap.size := lt_of_blk HW8.out.h2
      have p3 : b3 < w8.heap.size := lt_of_blk HW8.out.h3
      have n01 : b0 ≠ b1 := by have := HW8.out.l1; omega
      have n02 : b0 ≠ b2 := by have := HW8.out.l1; have := HW8.out.l2; omega
      have n12 : b1 ≠ b2 := by have := HW8.out.l2; omega
      have hPb2 : b2 < P := by have := HW8.out.l3; omega
      have hPb1 : b1 < P := by have := HW8.out.l2; omega
      have hPp : P < w8.heap.size := lt_of_blk HC8.out.1
      have nP1 : P ≠ b1 := by omega
      have nP2 : P ≠ b2 := by omega
      have HL : Hid (w.heap.size ≤ b0 ∧ b0 < b1 ∧ b1 < b2) := ⟨HW8.out.l0, HW8.out.l1, HW8.out.l2⟩
      have HH1 := Lib.hid HW8.out.h1
      have HH2 := Lib.hid HW8.out.h2
      have HPq : Hid (w8.cell? ⟨P, 0, none⟩ = some (.int .u32 q0) ∧ w8.cell? ⟨P, 1, none⟩ = some (.int .u32 q1) ∧ w8.cell? ⟨P, 2, none⟩ = some (.int .u32 q2) ∧ w8.cell? ⟨P, 3, none⟩ = some (.int .u32 q3) ∧ w8.cell? ⟨P, 4, none⟩ = some (.int .u32 q4) ∧ w8.cell? ⟨P, 5, none⟩ = some (.int .u32 q5) ∧ w8.cell? ⟨P, 6, none⟩ = some (.int .u32 q6) ∧ w8.cell? ⟨P, 7, none⟩ = some (.int .u32 q7) ∧ w8.cell? ⟨P, 8, none⟩ = some (.int .u32 pc')) :=
        ⟨HC8.out.reg (k := 0) (by omega), HC8.out.reg (k := 1) (by omega), HC8.out.reg (k := 2) (by omega), HC8.out.reg (k := 3) (by omega), HC8.out.reg (k := 4) (by omega), HC8.out.reg (k := 5) (by omega), HC8.out.reg (k := 6) (by omega), HC8.out.reg (k := 7) (by omega), HC8.out.rest 0⟩
      clear HW8 HC8 hPb hPw v0 v1 v2 v3 fv0 fv1 fv2 fv3 n01 n02 hPB hPF p3
      by_cases hk3 : sk = 3
      · subst hk3
        have he : out = ⟨[r0, r1, r2, r3, r4, r5, r6, r7], r8, ⟨3, sc, sa1, sa2, sa3, sa4, sa5, sy⟩, S'⟩ := by rw [← HOUT.out]; exact if_pos (.inl rfl)
        have HE := Lib.hid he
        clear he HOUT HPq
        go_upto_region 23 with (fail)
        go_region
        have hE1 : (((((((((((((((((w8.setCell ⟨b1, 0, none⟩ (.int .u32 r0)).setCell ⟨b1, 1, none⟩ (.int .u32 r1)).setCell ⟨b1, 2, none⟩ (.int .u32 r2)).setCell ⟨b1, 3, none⟩ (.int .u32 r3)).setCell ⟨b1, 4, none⟩ (.int .u32 r4)).setCell ⟨b1, 5, none⟩ (.int .u32 r5)).setCell ⟨b1, 6, none⟩ (.int .u32 r6)).setCell ⟨b1, 7, none⟩ (.int .u32 r7)).setCell ⟨b1, 8, none⟩ (.int .u32 r8)).setCell ⟨b2, 0, none⟩ (.int .i64 3)).setCell ⟨b2, 1, none⟩ (.int .u32 sc)).setCell ⟨b2, 2, none⟩ (.int .u32 sa1)).setCell ⟨b2, 3, none⟩ (.int .u32 sa2)).setCell ⟨b2, 4, none⟩ (.int .u32 sa3)).setCell ⟨b2, 5, none⟩ (.int .u32 sa4)).setCell ⟨b2, 6, none⟩ (.int .u32 sa5)).setCell ⟨b2, 7, none⟩ (.int .i64 sy)).heap[b1]? = some (.cells ([.int .u32 r0, .int .u32 r1, .int .u32 r2, .int .u32 r3, .int .u32 r4, .int .u32 r5, .int .u32 r6, .int .u32 r7, .int .u32 r8] : List Value).toArray 26 (0, 0)) := by
          have h := set9 HH1.out rfl (.int .u32 r0) (.int .u32 r1) (.int .u32 r2) (.int .u32 r3) (.int .u32 r4) (.int .u32 r5) (.int .u32 r6) (.int .u32 r7) (.int .u32 r8)
          exact (blk_setCell (blk_setCell (blk_setCell (blk_setCell (blk_setCell (blk_setCell (blk_setCell (blk_setCell h n12 _) n12 _) n12 _) n12 _) n12 _) n12 _) n12 _) n12 _)
        have hE2 : (((((((((((((((((w8.setCell ⟨b1, 0, none⟩ (.int .u32 r0)).setCell ⟨b1, 1, none⟩ (.int .u32 r1)).setCell ⟨b1, 2, none⟩ (.int .u32 r2)).setCell ⟨b1, 3, none⟩ (.int .u32 r3)).setCell ⟨b1, 4, none⟩ (.int .u32 r4)).setCell ⟨b1, 5, none⟩ (.int .u32 r5)).setCell ⟨b1, 6, none⟩ (.int .u32 r6)).setCell ⟨b1, 7, none⟩ (.int .u32 r7)).setCell ⟨b1, 8, none⟩ (.int .u32 r8)).setCell ⟨b2, 0, none⟩ (.int .i64 3)).setCell ⟨b2, 1, none⟩ (.int .u32 sc)).setCell ⟨b2, 2, none⟩ (.int .u32 sa1)).setCell ⟨b2, 3, none⟩ (.int .u32 sa2)).setCell ⟨b2, 4, none⟩ (.int .u32 sa3)).setCell ⟨b2, 5, none⟩ (.int .u32 sa4)).setCell ⟨b2, 6, none⟩ (.int .u32 sa5)).setCell ⟨b2, 7, none⟩ (.int .i64 sy)).heap[b2]? = some (.cells ([.int .i64 3, .int .u32 sc, .int .u32 sa1, .int .u32 sa2, .int .u32 sa3, .int .u32 sa4, .int .u32 sa5, .int .i64 sy] : List Value).toArray 34 (0, 0)) := by
          refine set8 (w := (((((((((w8.setCell ⟨b1, 0, none⟩ (.int .u32 r0)).setCell ⟨b1, 1, none⟩ (.int .u32 r1)).setCell ⟨b1, 2, none⟩ (.int .u32 r2)).setCell ⟨b1, 3, none⟩ (.int .u32 r3)).setCell ⟨b1, 4, none⟩ (.int .u32 r4)).setCell ⟨b1, 5, none⟩ (.int .u32 r5)).setCell ⟨b1, 6, none⟩ (.int .u32 r6)).setCell ⟨b1, 7, none⟩ (.int .u32 r7)).setCell ⟨b1, 8, none⟩ (.int .u32 r8))) (L := [.int .i64 0, .int .u32 0, .int .u32 0, .int .u32 0, .int .u32 0, .int .u32 0, .int .u32 0, .int .i64 0]) ?_ rfl (.int .i64 3) (.int .u32 sc) (.int .u32 sa1) (.int .u32 sa2) (.int .u32 sa3) (.int .u32 sa4) (.int .u32 sa5) (.int .i64 sy)
          exact (blk_setCell (blk_setCell (blk_setCell (blk_setCell (blk_setCell (blk_setCell (blk_setCell (blk_setCell (blk_setCell HH2.out n12.symm _) n12.symm _) n12.symm _) n12.symm _) n12.symm _) n12.symm _) n12.symm _) n12.symm _) n12.symm _)
        have hend : Mod (fun k => k = b1 ∨ k = b2) w8 (((((((((((((((((w8.setCell ⟨b1, 0, none⟩ (.int .u32 r0)).setCell ⟨b1, 1, none⟩ (.int .u32 r1)).setCell ⟨b1, 2, none⟩ (.int .u32 r2)).setCell ⟨b1, 3, none⟩ (.int .u32 r3)).setCell ⟨b1, 4, none⟩ (.int .u32 r4)).setCell ⟨b1, 5, none⟩ (.int .u32 r5)).setCell ⟨b1, 6, none⟩ (.int .u32 r6)).setCell ⟨b1, 7, none⟩ (.int .u32 r7)).setCell ⟨b1, 8, none⟩ (.int .u32 r8)).setCell ⟨b2, 0, none⟩ (.int .i64 3)).setCell ⟨b2, 1, none⟩ (.int .u32 sc)).setCell ⟨b2, 2, none⟩ (.int .u32 sa1)).setCell ⟨b2, 3, none⟩ (.int .u32 sa2)).setCell ⟨b2, 4, none⟩ (.int .u32 sa3)).setCell ⟨b2, 5, none⟩ (.int .u32 sa4)).setCell ⟨b2, 6, none⟩ (.int .u32 sa5)).setCell ⟨b2, 7, none⟩ (.int .i64 sy)) := (Mod.put (Mod.put (Mod.put (Mod.put (Mod.put (Mod.put (Mod.put (Mod.put (Mod.put (Mod.put (Mod.put (Mod.put (Mod.put (Mod.put (Mod.put (Mod.put (Mod.put (Mod.refl _ w8) (.inl rfl) 0 _) (.inl rfl) 1 _) (.inl rfl) 2 _) (.inl rfl) 3 _) (.inl rfl) 4 _) (.inl rfl) 5 _) (.inl rfl) 6 _) (.inl rfl) 7 _) (.inl rfl) 8 _) (.inr rfl) 0 _) (.inr rfl) 1 _) (.inr rfl) 2 _) (.inr rfl) 3 _) (.inr rfl) 4 _) (.inr rfl) 5 _) (.inr rfl) 6 _) (.inr rfl) 7 _)
        generalize (((((((((((((((((w8.setCell ⟨b1, 0, none⟩ (.int .u32 r0)).setCell ⟨b1, 1, none⟩ (.int .u32 r1)).setCell ⟨b1, 2, none⟩ (.int .u32 r2)).setCell ⟨b1, 3, none⟩ (.int .u32 r3)).setCell ⟨b1, 4, none⟩ (.int .u32 r4)).setCell ⟨b1, 5, none⟩ (.int .u32 r5)).setCell ⟨b1, 6, none⟩ (.int .u32 r6)).setCell ⟨b1, 7, none⟩ (.int .u32 r7)).setCell ⟨b1, 8, none⟩ (.int .u32 r8)).setCell ⟨b2, 0, none⟩ (.int .i64 3)).setCell ⟨b2, 1, none⟩ (.int .u32 sc)).setCell ⟨b2, 2, none⟩ (.int .u32 sa1)).setCell ⟨b2, 3, none⟩ (.int .u32 sa2)).setCell ⟨b2, 4, none⟩ (.int .u32 sa3)).setCell ⟨b2, 5, none⟩ (.int .u32 sa4)).setCell ⟨b2, 6, none⟩ (.int .u32 sa5)).setCell ⟨b2, 7, none⟩ (.int .i64 sy)) = wD at hE1 hE2 hend ⊢
        have hE1 : wD.drew.heap[b1]? = _ := hE1
        have hE2 : wD.drew.heap[b2]? = _ := hE2
        have hend := hend.drew
        generalize wD.drew = wE at hE1 hE2 hend ⊢
        have e0 := row_cell hE1 0
        have e1 := row_cell hE1 1
        have e2 := row_cell hE1 2
        have e3 := row_cell hE1 3
        have e4 := row_cell hE1 4
        have e5 := row_cell hE1 5
        have e6 := row_cell hE1 6
        have e7 := row_cell hE1 7
        have e8 := row_cell hE1 8
        have g0 := row_cell hE2 0
        have g1 := row_cell hE2 1
        have g2 := row_cell hE2 2
        have g3 := row_cell hE2 3
        have g4 := row_cell hE2 4
        have g5 := row_cell hE2 5
        have g6 := row_cell hE2 6
        have g7 := row_cell hE2 7
        simp only [List.getElem?_cons_zero, List.getElem?_cons_succ] at e0 e1 e2 e3 e4 e5 e6 e7 e8 g0 g1 g2 g3 g4 g5 g6 g7
        go_wp2
        refine bodyPost_ret (v := .tuple #[.agg #[.int .u32 r0, .int .u32 r1, .int .u32 r2, .int .u32 r3, .int .u32 r4, .int .u32 r5, .int .u32 r6, .int .u32 r7, .int .u32 r8], .agg #[.int .i64 3, .int .u32 sc, .int .u32 sa1, .int .u32 sa2, .int .u32 sa3, .int .u32 sa4, .int .u32 sa5, .int .i64 sy]]) (by simp [results, Tryd.results6, go_sem, e0, e1, e2, e3, e4, e5, e6, e7, e8, g0, g1, g2, g3, g4, g5, g6, g7]) rfl ?_
        rw [HE.out]
        exact ⟨rfl, HMF.out.step hend (fun i hi q => by have := HL.out; rcases q with q | q <;> omega), HP8.out.kept hend (by have := HM.out.ltB; have := HL.out; omega) (by have := HM.out.ltF; have := HL.out; omega)⟩
      · by_cases hk1 : sk = 1
        · subst hk1
          have he : out = ⟨[r0, r1, r2, r3, r4, r5, r6, r7], r8, ⟨1, sc, sa1, sa2, sa3, sa4, sa5, sy⟩, S'⟩ := by rw [← HOUT.out]; exact if_pos (.inr rfl)
          have HE := Lib.hid he
          clear he HOUT HPq
          go_upto_region 23 with (fail)
          go_region
          have hE1 : (((((((((((((((((w8.setCell ⟨b1, 0, none⟩ (.int .u32 r0)).setCell ⟨b1, 1, none⟩ (.int .u32 r1)).setCell ⟨b1, 2, none⟩ (.int .u32 r2)).setCell ⟨b1, 3, none⟩ (.int .u32 r3)).setCell ⟨b1, 4, none⟩ (.int .u32 r4)).setCell ⟨b1, 5, none⟩ (.int .u32 r5)).setCell ⟨b1, 6, none⟩ (.int .u32 r6)).setCell ⟨b1, 7, none⟩ (.int .u32 r7)).setCell ⟨b1, 8, none⟩ (.int .u32 r8)).setCell ⟨b2, 0, none⟩ (.int .i64 1)).setCell ⟨b2, 1, none⟩ (.int .u32 sc)).setCell ⟨b2, 2, none⟩ (.int .u32 sa1)).setCell ⟨b2, 3, none⟩ (.int .u32 sa2)).setCell ⟨b2, 4, none⟩ (.int .u32 sa3)).setCell ⟨b2, 5, none⟩ (.int .u32 sa4)).setCell ⟨b2, 6, none⟩ (.int .u32 sa5)).setCell ⟨b2, 7, none⟩ (.int .i64 sy)).heap[b1]? = some (.cells ([.int .u32 r0, .int .u32 r1, .int .u32 r2, .int .u32 r3, .int .u32 r4, .int .u32 r5, .int .u32 r6, .int .u32 r7, .int .u32 r8] : List Value).toArray 26 (0, 0)) := by
            have h := set9 HH1.out rfl (.int .u32 r0) (.int .u32 r1) (.int .u32 r2) (.int .u32 r3) (.int .u32 r4) (.int .u32 r5) (.int .u32 r6) (.int .u32 r7) (.int .u32 r8)
            exact (blk_setCell (blk_setCell (blk_setCell (blk_setCell (blk_setCell (blk_setCell (blk_setCell (blk_setCell h n12 _) n12 _) n12 _) n12 _) n12 _) n12 _) n12 _) n12 _)
          have hE2 : (((((((((((((((((w8.setCell ⟨b1, 0, none⟩ (.int .u32 r0)).setCell ⟨b1, 1, none⟩ (.int .u32 r1)).setCell ⟨b1, 2, none⟩ (.int .u32 r2)).setCell ⟨b1, 3, none⟩ (.int .u32 r3)).setCell ⟨b1, 4, none⟩ (.int .u32 r4)).setCell ⟨b1, 5, none⟩ (.int .u32 r5)).setCell ⟨b1, 6, none⟩ (.int .u32 r6)).setCell ⟨b1, 7, none⟩ (.int .u32 r7)).setCell ⟨b1, 8, none⟩ (.int .u32 r8)).setCell ⟨b2, 0, none⟩ (.int .i64 1)).setCell ⟨b2, 1, none⟩ (.int .u32 sc)).setCell ⟨b2, 2, none⟩ (.int .u32 sa1)).setCell ⟨b2, 3, none⟩ (.int .u32 sa2)).setCell ⟨b2, 4, none⟩ (.int .u32 sa3)).setCell ⟨b2, 5, none⟩ (.int .u32 sa4)).setCell ⟨b2, 6, none⟩ (.int .u32 sa5)).setCell ⟨b2, 7, none⟩ (.int .i64 sy)).heap[b2]? = some (.cells ([.int .i64 1, .int .u32 sc, .int .u32 sa1, .int .u32 sa2, .int .u32 sa3, .int .u32 sa4, .int .u32 sa5, .int .i64 sy] : List Value).toArray 34 (0, 0)) := by
            refine set8 (w := (((((((((w8.setCell ⟨b1, 0, none⟩ (.int .u32 r0)).setCell ⟨b1, 1, none⟩ (.int .u32 r1)).setCell ⟨b1, 2, none⟩ (.int .u32 r2)).setCell ⟨b1, 3, none⟩ (.int .u32 r3)).setCell ⟨b1, 4, none⟩ (.int .u32 r4)).setCell ⟨b1, 5, none⟩ (.int .u32 r5)).setCell ⟨b1, 6, none⟩ (.int .u32 r6)).setCell ⟨b1, 7, none⟩ (.int .u32 r7)).setCell ⟨b1, 8, none⟩ (.int .u32 r8))) (L := [.int .i64 0, .int .u32 0, .int .u32 0, .int .u32 0, .int .u32 0, .int .u32 0, .int .u32 0, .int .i64 0]) ?_ rfl (.int .i64 1) (.int .u32 sc) (.int .u32 sa1) (.int .u32 sa2) (.int .u32 sa3) (.int .u32 sa4) (.int .u32 sa5) (.int .i64 sy)
            exact (blk_setCell (blk_setCell (blk_setCell (blk_setCell (blk_setCell (blk_setCell (blk_setCell (blk_setCell (blk_setCell HH2.out n12.symm _) n12.symm _) n12.symm _) n12.symm _) n12.symm _) n12.symm _) n12.symm _) n12.symm _) n12.symm _)
          have hend : Mod (fun k => k = b1 ∨ k = b2) w8 (((((((((((((((((w8.setCell ⟨b1, 0, none⟩ (.int .u32 r0)).setCell ⟨b1, 1, none⟩ (.int .u32 r1)).setCell ⟨b1, 2, none⟩ (.int .u32 r2)).setCell ⟨b1, 3, none⟩ (.int .u32 r3)).setCell ⟨b1, 4, none⟩ (.int .u32 r4)).setCell ⟨b1, 5, none⟩ (.int .u32 r5)).setCell ⟨b1, 6, none⟩ (.int .u32 r6)).setCell ⟨b1, 7, none⟩ (.int .u32 r7)).setCell ⟨b1, 8, none⟩ (.int .u32 r8)).setCell ⟨b2, 0, none⟩ (.int .i64 1)).setCell ⟨b2, 1, none⟩ (.int .u32 sc)).setCell ⟨b2, 2, none⟩ (.int .u32 sa1)).setCell ⟨b2, 3, none⟩ (.int .u32 sa2)).setCell ⟨b2, 4, none⟩ (.int .u32 sa3)).setCell ⟨b2, 5, none⟩ (.int .u32 sa4)).setCell ⟨b2, 6, none⟩ (.int .u32 sa5)).setCell ⟨b2, 7, none⟩ (.int .i64 sy)) := (Mod.put (Mod.put (Mod.put (Mod.put (Mod.put (Mod.put (Mod.put (Mod.put (Mod.put (Mod.put (Mod.put (Mod.put (Mod.put (Mod.put (Mod.put (Mod.put (Mod.put (Mod.refl _ w8) (.inl rfl) 0 _) (.inl rfl) 1 _) (.inl rfl) 2 _) (.inl rfl) 3 _) (.inl rfl) 4 _) (.inl rfl) 5 _) (.inl rfl) 6 _) (.inl rfl) 7 _) (.inl rfl) 8 _) (.inr rfl) 0 _) (.inr rfl) 1 _) (.inr rfl) 2 _) (.inr rfl) 3 _) (.inr rfl) 4 _) (.inr rfl) 5 _) (.inr rfl) 6 _) (.inr rfl) 7 _)
          generalize (((((((((((((((((w8.setCell ⟨b1, 0, none⟩ (.int .u32 r0)).setCell ⟨b1, 1, none⟩ (.int .u32 r1)).setCell ⟨b1, 2, none⟩ (.int .u32 r2)).setCell ⟨b1, 3, none⟩ (.int .u32 r3)).setCell ⟨b1, 4, none⟩ (.int .u32 r4)).setCell ⟨b1, 5, none⟩ (.int .u32 r5)).setCell ⟨b1, 6, none⟩ (.int .u32 r6)).setCell ⟨b1, 7, none⟩ (.int .u32 r7)).setCell ⟨b1, 8, none⟩ (.int .u32 r8)).setCell ⟨b2, 0, none⟩ (.int .i64 1)).setCell ⟨b2, 1, none⟩ (.int .u32 sc)).setCell ⟨b2, 2, none⟩ (.int .u32 sa1)).setCell ⟨b2, 3, none⟩ (.int .u32 sa2)).setCell ⟨b2, 4, none⟩ (.int .u32 sa3)).setCell ⟨b2, 5, none⟩ (.int .u32 sa4)).setCell ⟨b2, 6, none⟩ (.int .u32 sa5)).setCell ⟨b2, 7, none⟩ (.int .i64 sy)) = wD at hE1 hE2 hend ⊢
          have hE1 : wD.drew.heap[b1]? = _ := hE1
          have hE2 : wD.drew.heap[b2]? = _ := hE2
          have hend := hend.drew
          generalize wD.drew = wE at hE1 hE2 hend ⊢
          have e0 := row_cell hE1 0
          have e1 := row_cell hE1 1
          have e2 := row_cell hE1 2
          have e3 := row_cell hE1 3
          have e4 := row_cell hE1 4
          have e5 := row_cell hE1 5
          have e6 := row_cell hE1 6
          have e7 := row_cell hE1 7
          have e8 := row_cell hE1 8
          have g0 := row_cell hE2 0
          have g1 := row_cell hE2 1
          have g2 := row_cell hE2 2
          have g3 := row_cell hE2 3
          have g4 := row_cell hE2 4
          have g5 := row_cell hE2 5
          have g6 := row_cell hE2 6
          have g7 := row_cell hE2 7
          simp only [List.getElem?_cons_zero, List.getElem?_cons_succ] at e0 e1 e2 e3 e4 e5 e6 e7 e8 g0 g1 g2 g3 g4 g5 g6 g7
          go_wp2
          refine bodyPost_ret (v := .tuple #[.agg #[.int .u32 r0, .int .u32 r1, .int .u32 r2, .int .u32 r3, .int .u32 r4, .int .u32 r5, .int .u32 r6, .int .u32 r7, .int .u32 r8], .agg #[.int .i64 1, .int .u32 sc, .int .u32 sa1, .int .u32 sa2, .int .u32 sa3, .int .u32 sa4, .int .u32 sa5, .int .i64 sy]]) (by simp [results, Tryd.results6, go_sem, e0, e1, e2, e3, e4, e5, e6, e7, e8, g0, g1, g2, g3, g4, g5, g6, g7]) rfl ?_
          rw [HE.out]
          exact ⟨rfl, HMF.out.step hend (fun i hi q => by have := HL.out; rcases q with q | q <;> omega), HP8.out.kept hend (by have := HM.out.ltB; have := HL.out; omega) (by have := HM.out.ltF; have := HL.out; omega)⟩
        · have he : out = ⟨[q0, q1, q2, q3, q4, q5, q6, q7], pc', ⟨sk, sc, sa1, sa2, sa3, sa4, sa5, sy⟩, S'⟩ := by rw [← HOUT.out]; exact if_neg (fun q => q.elim hk3 hk1)
          have HE := Lib.hid he
          have d3 : decide (sk = 3) = false := decide_eq_false hk3
          have d1 : decide (sk = 1) = false := decide_eq_false hk1
          have d3' : (sk == 3) = false := beq_eq_false_iff_ne.2 hk3
          have d1' : (sk == 1) = false := beq_eq_false_iff_ne.2 hk1
          obtain ⟨m0, m1, m2, m3, m4, m5, m6, m7, m8⟩ := HPq.out
          clear he HOUT HPq x0 x1 x2 x3 x4 x5 x6 x7 x8
          go_upto_region 24 with (fail)
          go_region
          have hE1 : (((((((((((((((((w8.setCell ⟨b1, 0, none⟩ (.int .u32 q0)).setCell ⟨b1, 1, none⟩ (.int .u32 q1)).setCell ⟨b1, 2, none⟩ (.int .u32 q2)).setCell ⟨b1, 3, none⟩ (.int .u32 q3)).setCell ⟨b1, 4, none⟩ (.int .u32 q4)).setCell ⟨b1, 5, none⟩ (.int .u32 q5)).setCell ⟨b1, 6, none⟩ (.int .u32 q6)).setCell ⟨b1, 7, none⟩ (.int .u32 q7)).setCell ⟨b1, 8, none⟩ (.int .u32 pc')).setCell ⟨b2, 0, none⟩ (.int .i64 sk)).setCell ⟨b2, 1, none⟩ (.int .u32 sc)).setCell ⟨b2, 2, none⟩ (.int .u32 sa1)).setCell ⟨b2, 3, none⟩ (.int .u32 sa2)).setCell ⟨b2, 4, none⟩ (.int .u32 sa3)).setCell ⟨b2, 5, none⟩ (.int .u32 sa4)).setCell ⟨b2, 6, none⟩ (.int .u32 sa5)).setCell ⟨b2, 7, none⟩ (.int .i64 sy)).heap[b1]? = some (.cells ([.int .u32 q0, .int .u32 q1, .int .u32 q2, .int .u32 q3, .int .u32 q4, .int .u32 q5, .int .u32 q6, .int .u32 q7, .int .u32 pc'] : List Value).toArray 26 (0, 0)) := by
            have h := set9 HH1.out rfl (.int .u32 q0) (.int .u32 q1) (.int .u32 q2) (.int .u32 q3) (.int .u32 q4) (.int .u32 q5) (.int .u32 q6) (.int .u32 q7) (.int .u32 pc')
            exact (blk_setCell (blk_setCell (blk_setCell (blk_setCell (blk_setCell (blk_setCell (blk_setCell (blk_setCell h n12 _) n12 _) n12 _) n12 _) n12 _) n12 _) n12 _) n12 _)
          have hE2 : (((((((((((((((((w8.setCell ⟨b1, 0, none⟩ (.int .u32 q0)).setCell ⟨b1, 1, none⟩ (.int .u32 q1)).setCell ⟨b1, 2, none⟩ (.int .u32 q2)).setCell ⟨b1, 3, none⟩ (.int .u32 q3)).setCell ⟨b1, 4, none⟩ (.int .u32 q4)).setCell ⟨b1, 5, none⟩ (.int .u32 q5)).setCell ⟨b1, 6, none⟩ (.int .u32 q6)).setCell ⟨b1, 7, none⟩ (.int .u32 q7)).setCell ⟨b1, 8, none⟩ (.int .u32 pc')).setCell ⟨b2, 0, none⟩ (.int .i64 sk)).setCell ⟨b2, 1, none⟩ (.int .u32 sc)).setCell ⟨b2, 2, none⟩ (.int .u32 sa1)).setCell ⟨b2, 3, none⟩ (.int .u32 sa2)).setCell ⟨b2, 4, none⟩ (.int .u32 sa3)).setCell ⟨b2, 5, none⟩ (.int .u32 sa4)).setCell ⟨b2, 6, none⟩ (.int .u32 sa5)).setCell ⟨b2, 7, none⟩ (.int .i64 sy)).heap[b2]? = some (.cells ([.int .i64 sk, .int .u32 sc, .int .u32 sa1, .int .u32 sa2, .int .u32 sa3, .int .u32 sa4, .int .u32 sa5, .int .i64 sy] : List Value).toArray 34 (0, 0)) := by
            refine set8 (w := (((((((((w8.setCell ⟨b1, 0, none⟩ (.int .u32 q0)).setCell ⟨b1, 1, none⟩ (.int .u32 q1)).setCell ⟨b1, 2, none⟩ (.int .u32 q2)).setCell ⟨b1, 3, none⟩ (.int .u32 q3)).setCell ⟨b1, 4, none⟩ (.int .u32 q4)).setCell ⟨b1, 5, none⟩ (.int .u32 q5)).setCell ⟨b1, 6, none⟩ (.int .u32 q6)).setCell ⟨b1, 7, none⟩ (.int .u32 q7)).setCell ⟨b1, 8, none⟩ (.int .u32 pc'))) (L := [.int .i64 0, .int .u32 0, .int .u32 0, .int .u32 0, .int .u32 0, .int .u32 0, .int .u32 0, .int .i64 0]) ?_ rfl (.int .i64 sk) (.int .u32 sc) (.int .u32 sa1) (.int .u32 sa2) (.int .u32 sa3) (.int .u32 sa4) (.int .u32 sa5) (.int .i64 sy)
            exact (blk_setCell (blk_setCell (blk_setCell (blk_setCell (blk_setCell (blk_setCell (blk_setCell (blk_setCell (blk_setCell HH2.out n12.symm _) n12.symm _) n12.symm _) n12.symm _) n12.symm _) n12.symm _) n12.symm _) n12.symm _) n12.symm _)
          have hend : Mod (fun k => k = b1 ∨ k = b2) w8 (((((((((((((((((w8.setCell ⟨b1, 0, none⟩ (.int .u32 q0)).setCell ⟨b1, 1, none⟩ (.int .u32 q1)).setCell ⟨b1, 2, none⟩ (.int .u32 q2)).setCell ⟨b1, 3, none⟩ (.int .u32 q3)).setCell ⟨b1, 4, none⟩ (.int .u32 q4)).setCell ⟨b1, 5, none⟩ (.int .u32 q5)).setCell ⟨b1, 6, none⟩ (.int .u32 q6)).setCell ⟨b1, 7, none⟩ (.int .u32 q7)).setCell ⟨b1, 8, none⟩ (.int .u32 pc')).setCell ⟨b2, 0, none⟩ (.int .i64 sk)).setCell ⟨b2, 1, none⟩ (.int .u32 sc)).setCell ⟨b2, 2, none⟩ (.int .u32 sa1)).setCell ⟨b2, 3, none⟩ (.int .u32 sa2)).setCell ⟨b2, 4, none⟩ (.int .u32 sa3)).setCell ⟨b2, 5, none⟩ (.int .u32 sa4)).setCell ⟨b2, 6, none⟩ (.int .u32 sa5)).setCell ⟨b2, 7, none⟩ (.int .i64 sy)) := (Mod.put (Mod.put (Mod.put (Mod.put (Mod.put (Mod.put (Mod.put (Mod.put (Mod.put (Mod.put (Mod.put (Mod.put (Mod.put (Mod.put (Mod.put (Mod.put (Mod.put (Mod.refl _ w8) (.inl rfl) 0 _) (.inl rfl) 1 _) (.inl rfl) 2 _) (.inl rfl) 3 _) (.inl rfl) 4 _) (.inl rfl) 5 _) (.inl rfl) 6 _) (.inl rfl) 7 _) (.inl rfl) 8 _) (.inr rfl) 0 _) (.inr rfl) 1 _) (.inr rfl) 2 _) (.inr rfl) 3 _) (.inr rfl) 4 _) (.inr rfl) 5 _) (.inr rfl) 6 _) (.inr rfl) 7 _)
          generalize (((((((((((((((((w8.setCell ⟨b1, 0, none⟩ (.int .u32 q0)).setCell ⟨b1, 1, none⟩ (.int .u32 q1)).setCell ⟨b1, 2, none⟩ (.int .u32 q2)).setCell ⟨b1, 3, none⟩ (.int .u32 q3)).setCell ⟨b1, 4, none⟩ (.int .u32 q4)).setCell ⟨b1, 5, none⟩ (.int .u32 q5)).setCell ⟨b1, 6, none⟩ (.int .u32 q6)).setCell ⟨b1, 7, none⟩ (.int .u32 q7)).setCell ⟨b1, 8, none⟩ (.int .u32 pc')).setCell ⟨b2, 0, none⟩ (.int .i64 sk)).setCell ⟨b2, 1, none⟩ (.int .u32 sc)).setCell ⟨b2, 2, none⟩ (.int .u32 sa1)).setCell ⟨b2, 3, none⟩ (.int .u32 sa2)).setCell ⟨b2, 4, none⟩ (.int .u32 sa3)).setCell ⟨b2, 5, none⟩ (.int .u32 sa4)).setCell ⟨b2, 6, none⟩ (.int .u32 sa5)).setCell ⟨b2, 7, none⟩ (.int .i64 sy)) = wD at hE1 hE2 hend ⊢
          have hE1 : wD.drew.heap[b1]? = _ := hE1
          have hE2 : wD.drew.heap[b2]? = _ := hE2
          have hend := hend.drew
          generalize wD.drew = wE at hE1 hE2 hend ⊢
          have e0 := row_cell hE1 0
          have e1 := row_cell hE1 1
          have e2 := row_cell hE1 2
          have e3 := row_cell hE1 3
          have e4 := row_cell hE1 4
          have e5 := row_cell hE1 5
          have e6 := row_cell hE1 6
          have e7 := row_cell hE1 7
          have e8 := row_cell hE1 8
          have g0 := row_cell hE2 0
          have g1 := row_cell hE2 1
          have g2 := row_cell hE2 2
          have g3 := row_cell hE2 3
          have g4 := row_cell hE2 4
          have g5 := row_cell hE2 5
          have g6 := row_cell hE2 6
          have g7 := row_cell hE2 7
          simp only [List.getElem?_cons_zero, List.getElem?_cons_succ] at e0 e1 e2 e3 e4 e5 e6 e7 e8 g0 g1 g2 g3 g4 g5 g6 g7
          go_wp2
          refine bodyPost_ret (v := .tuple #[.agg #[.int .u32 q0, .int .u32 q1, .int .u32 q2, .int .u32 q3, .int .u32 q4, .int .u32 q5, .int .u32 q6, .int .u32 q7, .int .u32 pc'], .agg #[.int .i64 sk, .int .u32 sc, .int .u32 sa1, .int .u32 sa2, .int .u32 sa3, .int .u32 sa4, .int .u32 sa5, .int .i64 sy]]) (by simp [results, Tryd.results6, go_sem, e0, e1, e2, e3, e4, e5, e6, e7, e8, g0, g1, g2, g3, g4, g5, g6, g7]) rfl ?_
          rw [HE.out]
          exact ⟨rfl, HMF.out.step hend (fun i hi q => by have := HL.out; rcases q with q | q <;> omega), HP8.out.kept hend (by have := HM.out.ltB; have := HL.out; omega) (by have := HM.out.ltF; have := HL.out; omega)⟩

end Go.Proofs.YtlbebneblmgdcaaDoor
