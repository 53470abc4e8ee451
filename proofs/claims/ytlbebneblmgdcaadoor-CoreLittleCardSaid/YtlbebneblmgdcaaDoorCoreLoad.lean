/- core: loads. -/
import Derived.Test.YtlbebneblmgdcaaDoorCoreDoF
import Derived.Test.YtlbebneblmgdcaaDoorFetchR
namespace Go.Proofs.YtlbebneblmgdcaaDoor
open Go.RowKit
set_option maxRecDepth 100000

/-- The number of bytes, the least first. -/
def numR : List Int → Int
  | [] => 0
  | b :: l => b + 256 * numR l
theorem numR_range : ∀ (l : List Int), (∀ x ∈ l, 0 ≤ x ∧ x ≤ 255) → 0 ≤ numR l ∧ numR l < 256 ^ l.length
  | [], _ => by simp [numR]
  | b :: l, h => by
    have h1 := numR_range l (fun x hx => h x (List.mem_cons_of_mem _ hx))
    have h2 := h b (List.mem_cons_self ..)
    rw [List.length_cons, Int.pow_succ]
    simp only [numR]
    omega
theorem numR_app : ∀ (l : List Int) (x : Int), numR (l ++ [x]) = numR l + x * 256 ^ l.length
  | [], x => by simp [numR]
  | b :: l, x => by
    rw [List.cons_append, numR, numR, numR_app l x, List.length_cons, Int.pow_succ, Int.mul_add, Int.add_assoc, Int.mul_left_comm, Int.mul_comm 256 (256 ^ l.length)]

theorem or_next (s x : Int) (k : Nat) (hk : k < 4) (hs : 0 ≤ s ∧ s < 256 ^ k) (hx : 0 ≤ x ∧ x ≤ 255) : bits .or .u32 s (x * 256 ^ k) = s + x * 256 ^ k := by
  rcases (show k = 0 ∨ k = 1 ∨ k = 2 ∨ k = 3 by omega) with rfl | rfl | rfl | rfl
  all_goals simp only [Int.reducePow] at hs ⊢
  · exact or_low s (x * 1) 0 (by omega) (by omega) (by omega) (by omega) (by omega) (by omega)
  · exact or_low s (x * 256) 8 (by omega) (by omega) (by omega) (by omega) (by omega) (by omega)
  · exact or_low s (x * 65536) 16 (by omega) (by omega) (by omega) (by omega) (by omega) (by omega)
  · exact or_low s (x * 16777216) 24 (by omega) (by omega) (by omega) (by omega) (by omega) (by omega)

theorem shl_bytes (y : Int) (j : Nat) (hj : j < 4) (hy : 0 ≤ y ∧ y ≤ 255) : y * 2 ^ (8 * j) % 4294967296 = y * 256 ^ j := by
  rcases (show j = 0 ∨ j = 1 ∨ j = 2 ∨ j = 3 by omega) with rfl | rfl | rfl | rfl
  all_goals simp only [Nat.reduceMul, Int.reducePow]
  all_goals omega

/-- What a load leaves: the registers, the stop. -/
def loadRegs (S : List Fr) (root : Int) (R : List Int) (a b : Nat) (c n : Int) : List Int :=
  if (fetchR S root ((R.getD b 0 + c) % 1048576) n).1 = 0 then R.set a (numR (fetchR S root ((R.getD b 0 + c) % 1048576) n).2) else R
def loadStop (S : List Fr) (root : Int) (R : List Int) (b : Nat) (c n : Int) : List Value :=
  if (fetchR S root ((R.getD b 0 + c) % 1048576) n).1 = 0 then stopL 0 0 0 0 0 0 0 0 else stopL 3 0 0 0 0 0 0 (fetchR S root ((R.getD b 0 + c) % 1048576) n).1

set_option maxHeartbeats 4000000 in
theorem load_any {B F : Nat} {S : List Fr} (P a b : Nat) (c : Int) (N : Nat) (o : Int) (R : List Int) (pc : Int) (root : Int) (w : World) (hm : PhM w B F S) (h : CpuAt w P R pc (.pointer (some ⟨B, 0, none⟩)) root (stopL 0 0 0 0 0 0 0 0)) (hR : ∀ x ∈ R, 0 ≤ x ∧ x ≤ 4294967295) (ha : a < 8) (hb : b < 8) (hN : 1 ≤ N ∧ N ≤ 4) :
    Calls Tryd.prog 64 #[.pointer (some ⟨P, 0, none⟩), .agg #[.int .u8 o, .int .u8 a, .int .u8 b, .int .u8 c], .int .i64 N] w (DoP w P (loadRegs S root R a b c N) pc (.pointer (some ⟨B, 0, none⟩)) root (loadStop S root R b c N)) := by
  have hP : P < w.heap.size := World.block_lt_of_cell? w _ (h.reg (k := 0) (by omega))
  have H := Lib.hid h
  have HM := Lib.hid hm
  have hok := Lib.hid hm.ok
  have ia : (a : Int) < 8 := by omega
  have ib : (b : Int) < 8 := by omega
  obtain ⟨x, hx⟩ : ∃ x, x = R.getD b 0 := ⟨_, rfl⟩
  obtain ⟨x0, x1⟩ := hR _ (regs_mem h.2 hb)
  unfold loadRegs loadStop
  rw [← hx] at x0 x1 ⊢
  have hat : (IntKind.u32.wrap (x + IntKind.u32.wrap c)).tmod 1048576 = (x + c) % 1048576 := by
    rw [IntKind.wrap_u32, IntKind.wrap_u32, Int.tmod_eq_emod_of_nonneg (by omega)]; omega
  have HAT := Lib.hid hat
  have hat0 : 0 ≤ (x + c) % 1048576 ∧ (x + c) % 1048576 < 1048576 := by omega
  generalize (x + c) % 1048576 = at' at HAT hat0 ⊢
  have HFR := Lib.hid (fetchR_range (root := root) (va := at') (n := N) hok.out)
  have HFS : Hid ((fetchR S root at' N).2.length ≤ 256) := Lib.hid fetchR_small
  have HFL : Hid ((fetchR S root at' N).1 = 0 → ((fetchR S root at' N).2.length : Int) = N) := Lib.hid fetchR_len
  have HFE : Hid (∀ w' , Mod No w w' → Calls Tryd.prog 17 #[.pointer (some ⟨B, 0, none⟩), .int .i64 root, .int .u32 at', .int .i64 N] w' (OwnB w' (fetchR S root at' N).1 (fetchR S root at' N).2)) := fun w' hm' => pfetchR root at' N w' (HM.out.kept hm' (fun q => q) (fun q => q)) hat0.1 (by omega) (by omega)
  generalize (fetchR S root at' N).1 = er at HFL HFE ⊢
  generalize (fetchR S root at' N).2 = bs at HFL HFR HFE HFS ⊢
  have HX := Lib.hid hx
  clear h hm hx hat hR hok
  go_enter Tryd.func64, Tryd.ntmps64
  go_upto_region 1 with (fail)
  have hm1 : Mod No w (w.alloc (.cells #[.int .u8 o, .int .u8 a, .int .u8 b, .int .u8 c] 63)) := (Mod.refl No w).alloc _
  have hB : (w.alloc (.cells #[.int .u8 o, .int .u8 a, .int .u8 b, .int .u8 c] 63)).heap[w.heap.size]? = some (.cells ([.int .u8 o, .int .u8 a, .int .u8 b, .int .u8 c] : List Value).toArray 63 (0, 0)) := heap_alloc_new w _
  have hne : P ≠ w.heap.size := by omega
  generalize (w.alloc (.cells #[.int .u8 o, .int .u8 a, .int .u8 b, .int .u8 c] 63)) = w1 at hm1 hB ⊢
  generalize w.heap.size = bx at hB hne ⊢
  have H1 := Lib.hid (H.out.kept hm1 (fun q => q))
  have HB := Lib.hid hB
  have HS : Hid (∀ w2, Mod No w1 w2 → (fun w' : World => w'.cell? ⟨bx, 0, none⟩ = some (.int .u8 o) ∧ w'.cell? ⟨bx, 1, none⟩ = some (.int .u8 a) ∧ w'.cell? ⟨bx, 2, none⟩ = some (.int .u8 b) ∧ w'.cell? ⟨bx, 3, none⟩ = some (.int .u8 c) ∧ w'.cell? ⟨P, b, none⟩ = some (.int .u32 x) ∧ w'.cell? ⟨P, 9, none⟩ = some (.pointer (some ⟨B, 0, none⟩)) ∧ w'.cell? ⟨P, 10, none⟩ = some (.int .i64 root)) w2) := fun w2 hm =>
    have hh := H1.out.kept hm (fun q => q)
    ⟨row_cell (hm.blk HB.out (fun q => q)) 0, row_cell (hm.blk HB.out (fun q => q)) 1, row_cell (hm.blk HB.out (fun q => q)) 2, row_cell (hm.blk HB.out (fun q => q)) 3, by rw [HX.out]; exact hh.reg hb, hh.rest 1, hh.rest 2⟩
  have hS1 := HS.out w1 (Mod.refl No w1)
  obtain ⟨u0, u1, u2, u3, u4, u5, u6⟩ := hS1
  have hS1 := HS.out w1 (Mod.refl No w1)
  have HM1 := Lib.hid hm1
  have hP1 : P < w1.heap.size := Nat.lt_of_lt_of_le hP hm1.size
  clear hm1 hB hP
  go_region_held3 (fun w' : World => w'.cell? ⟨bx, 0, none⟩ = some (.int .u8 o) ∧ w'.cell? ⟨bx, 1, none⟩ = some (.int .u8 a) ∧ w'.cell? ⟨bx, 2, none⟩ = some (.int .u8 b) ∧ w'.cell? ⟨bx, 3, none⟩ = some (.int .u8 c) ∧ w'.cell? ⟨P, b, none⟩ = some (.int .u32 x) ∧ w'.cell? ⟨P, 9, none⟩ = some (.pointer (some ⟨B, 0, none⟩)) ∧ w'.cell? ⟨P, 10, none⟩ = some (.int .i64 root)) (first | exact hS1 | assumption) ((go_at_call 17; rw [HAT.out]; refine (HFE.out _ (HM1.out.drew)).mono ?_; rintro e w2 ⟨q, k, cp, rfl, hm2, hown⟩; have hS2 := HS.out w2 ((Mod.refl No w1).drew.trans hm2); have HM2 := Lib.hid ((HM1.out.drew).trans hm2); have HH2 := Lib.hid (H1.out.kept ((Mod.refl No w1).drew.trans hm2) (fun q => q)); have HBX2 := Lib.hid (((Mod.refl No w1).drew.trans hm2).blk HB.out (fun q => q)); have HOWN := Lib.hid hown; clear hm2 hown))
  obtain ⟨hk, hby, hblk⟩ := Byt.ofOwn HOWN.out HFR.out (Nat.le_trans HFS.out (by omega))
  have hP2 : P < w2.heap.size := lt_of_blk HH2.out.1
  have s0 : w2.cell? ⟨P, 11, none⟩ = some (.int .i64 0) := HH2.out.rest 3
  have s1 : w2.cell? ⟨P, 12, none⟩ = some (.int .u32 0) := HH2.out.rest 4
  have s2 : w2.cell? ⟨P, 13, none⟩ = some (.int .u32 0) := HH2.out.rest 5
  have s3 : w2.cell? ⟨P, 14, none⟩ = some (.int .u32 0) := HH2.out.rest 6
  have s4 : w2.cell? ⟨P, 15, none⟩ = some (.int .u32 0) := HH2.out.rest 7
  have s5 : w2.cell? ⟨P, 16, none⟩ = some (.int .u32 0) := HH2.out.rest 8
  have s6 : w2.cell? ⟨P, 17, none⟩ = some (.int .u32 0) := HH2.out.rest 9
  have s7 : w2.cell? ⟨P, 18, none⟩ = some (.int .i64 0) := HH2.out.rest 10
  have f0 : w2.frozen? ⟨P, 11, none⟩ = false := row_free HH2.out.1 11
  have f1 : w2.frozen? ⟨P, 12, none⟩ = false := row_free HH2.out.1 12
  have f2 : w2.frozen? ⟨P, 13, none⟩ = false := row_free HH2.out.1 13
  have f3 : w2.frozen? ⟨P, 14, none⟩ = false := row_free HH2.out.1 14
  have f4 : w2.frozen? ⟨P, 15, none⟩ = false := row_free HH2.out.1 15
  have f5 : w2.frozen? ⟨P, 16, none⟩ = false := row_free HH2.out.1 16
  have f6 : w2.frozen? ⟨P, 17, none⟩ = false := row_free HH2.out.1 17
  have f7 : w2.frozen? ⟨P, 18, none⟩ = false := row_free HH2.out.1 18
  clear hS2 hS1 u0 u1 u2 u3 u4 u5 u6 HS HB H1 HFE HAT HM H
  by_cases he : er = 0
  · rw [if_pos he, if_pos he]
    subst he
    have hlen : bs.length = N := by have := HFL.out rfl; omega
    obtain ⟨z, hz⟩ : ∃ z, z = R.getD a 0 := ⟨_, rfl⟩
    have ra : w2.cell? ⟨P, a, none⟩ = some (.int .u32 z) := by rw [hz]; exact HH2.out.reg ha
    have fa : w2.frozen? ⟨P, a, none⟩ = false := row_free HH2.out.1 a
    have b1 : w2.cell? ⟨bx, 1, none⟩ = some (.int .u8 a) := row_cell HBX2.out 1
    have HBY := Lib.hid hby
    have HBLK := Lib.hid hblk
    clear s0 s1 s2 s3 s4 s5 s6 s7 f0 f1 f2 f3 f4 f5 f6 f7 hby hblk HOWN hz
    go_upto_region 4 with (fail)
    go_region
    have hw0 : CpuAt (w2.setCell ⟨P, a, none⟩ (.int .u32 0)).drew P (R.set a (numR (bs.take 0))) pc (.pointer (some ⟨B, 0, none⟩)) root (stopL 0 0 0 0 0 0 0 0) ∧ Mod (fun k => k = P) w2 (w2.setCell ⟨P, a, none⟩ (.int .u32 0)).drew := ⟨(HH2.out.set ha 0).kept ((Mod.refl No _).drew) (fun q => q), (mod_at a _).drew⟩
    generalize (w2.setCell ⟨P, a, none⟩ (.int .u32 0)).drew = w3 at hw0 ⊢
    have HW0 := Lib.hid hw0
    clear hw0 ra fa b1
    go_wp2_with fail
    go_loopw [52] (fun iv wr => ∃ (j : Nat), j ≤ bs.length ∧ iv = .int .i64 j ∧ CpuAt wr P (R.set a (numR (bs.take j))) pc (.pointer (some ⟨B, 0, none⟩)) root (stopL 0 0 0 0 0 0 0 0) ∧ Mod (fun k => k = P) w2 wr) (fun iv _ => bs.length - (intOf iv).toNat)
    case atStart => exact ⟨0, Nat.zero_le _, rfl, HW0.out⟩
    case round =>
      obtain ⟨j, hj, rfl, hcw, hmw⟩ := hrel
      have HCW := Lib.hid hcw
      have HMW := Lib.hid hmw
      clear hcw hmw
      by_cases hlt : j < bs.length
      · have hlt' : (j : Int) < (bs.length : Int) := by omega
        obtain ⟨y, hy⟩ : ∃ y, bs[j]? = some y := ⟨_, List.getElem?_eq_getElem hlt⟩
        obtain ⟨g, off, rfl, hg, hcell⟩ := HBY.out.at_ (by omega)
        have hgP : g ≠ P := by
          have := (HBLK.out g off rfl).1
          rw [World.size_drew] at this
          omega
        have yr := HFR.out y (List.mem_of_getElem? hy)
        have yc : wr.cell? ⟨g, off + j, none⟩ = some (.int .u8 y) := (World.cell?_of_block (w := w2) (HMW.out.block g hg hgP)).trans (hcell j y hy)
        have bc : wr.cell? ⟨bx, 1, none⟩ = some (.int .u8 a) := row_cell (HMW.out.blk HBX2.out (fun q => hne q.symm)) 1
        obtain ⟨s, hs⟩ : ∃ s, s = numR (bs.take j) := ⟨_, rfl⟩
        have rs : wr.cell? ⟨P, a, none⟩ = some (.int .u32 s) := by
          have := HCW.out.reg ha
          rwa [List.getD_eq_getElem?_getD, List.getElem?_set_self (by have := HH2.out.2; omega), Option.getD_some, ← hs] at this
        have fs : wr.frozen? ⟨P, a, none⟩ = false := row_free HCW.out.1 a
        have hPr : P < wr.heap.size := lt_of_blk HCW.out.1
        have hsr : 0 ≤ s ∧ s < 256 ^ j := by
          have := numR_range (bs.take j) (fun x hx => HFR.out x (List.mem_of_mem_take hx))
          rwa [List.length_take, Nat.min_eq_left hj, ← hs] at this
        have HSR := Lib.hid hsr
        have HY := Lib.hid hy
        have HSE := Lib.hid hs
        have HYR := Lib.hid yr
        obtain ⟨y0, y1⟩ := yr
        have k0 : (0 : Int) ≤ j := by omega
        have k1 : (j : Int) ≤ 3 := by omega
        clear hcell hy hs hg hsr
        go_upto_region 8 with (fail)
        go_region
        have hfin : CpuAt (wr.setCell ⟨P, a, none⟩ (.int .u32 (bits .or .u32 s (y * 2 ^ (8 * j) % 4294967296)))).drew P (R.set a (numR (bs.take (j + 1)))) pc (.pointer (some ⟨B, 0, none⟩)) root (stopL 0 0 0 0 0 0 0 0) ∧ Mod (fun k => k = P) w2 (wr.setCell ⟨P, a, none⟩ (.int .u32 (bits .or .u32 s (y * 2 ^ (8 * j) % 4294967296)))).drew := by
          have e1 : bits .or .u32 s (y * 2 ^ (8 * j) % 4294967296) = numR (bs.take (j + 1)) := by
            have h3 := shl_bytes y j (by omega) HYR.out
            rw [h3, or_next s y j (by omega) HSR.out HYR.out, List.take_add_one, HY.out, Option.toList_some, numR_app, ← HSE.out, List.length_take, Nat.min_eq_left (by omega)]
          rw [e1]
          have h4 := HCW.out.set ha (numR (bs.take (j + 1)))
          rw [List.set_set] at h4
          exact ⟨h4.kept ((Mod.refl No _).drew) (fun q => q), (HMW.out.trans (mod_at a _)).drew⟩
        have HFIN := Lib.hid hfin
        clear hfin
        go_wp2_with fail
        go_roundw
        case rel => exact ⟨j + 1, by omega, by go_num, HFIN.out⟩
        case measure => simp [intOf]; omega
      · obtain rfl : j = bs.length := by omega
        go_wp2_with fail
        go_end0
        have hh := HCW.out
        rw [List.take_length] at hh
        exact ⟨rfl, hh, (HM2.out.of_no).trans HMW.out⟩
  · rw [if_neg he, if_neg he]
    have d1 : (er == 0) = false := beq_eq_false_iff_ne.2 he
    have d2 : (er != 0) = true := bne_iff_ne.2 he
    go_wp2_with fail
    go_end0
    exact ⟨rfl, (HH2.out.stop rfl _ _ _ _ _ _ _ _), (HM2.out.of_no).trans (mod_stop _ _ _ _ _ _ _ _)⟩

end Go.Proofs.YtlbebneblmgdcaaDoor
