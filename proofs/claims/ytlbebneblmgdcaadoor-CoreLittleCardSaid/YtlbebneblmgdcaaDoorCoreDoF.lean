/- core: a hypercall's stop. -/
import Derived.Test.YtlbebneblmgdcaaDoorCoreDoC
import Derived.Laws.Cover3
namespace Go.Proofs.YtlbebneblmgdcaaDoor
open Go.RowKit
set_option maxRecDepth 100000

/-- A stop's cells. -/
def stopL (kind call a1 a2 a3 a4 a5 why : Int) : List Value := [.int .i64 kind, .int .u32 call, .int .u32 a1, .int .u32 a2, .int .u32 a3, .int .u32 a4, .int .u32 a5, .int .i64 why]

theorem CpuAt.stop {w : World} {P : Nat} {R : List Int} {pc : Int} {mv : Value} {root : Int} {st : List Value} (h : CpuAt w P R pc mv root st) (hst : st.length = 8) (v0 v1 v2 v3 v4 v5 v6 v7 : Value) :
    CpuAt ((((((((w.setCell ⟨P, 11, none⟩ v0).setCell ⟨P, 12, none⟩ v1).setCell ⟨P, 13, none⟩ v2).setCell ⟨P, 14, none⟩ v3).setCell ⟨P, 15, none⟩ v4).setCell ⟨P, 16, none⟩ v5).setCell ⟨P, 17, none⟩ v6).setCell ⟨P, 18, none⟩ v7) P R pc mv root [v0, v1, v2, v3, v4, v5, v6, v7] := by
  obtain ⟨s0, s1, s2, s3, s4, s5, s6, s7, rfl⟩ : ∃ s0 s1 s2 s3 s4 s5 s6 s7, st = [s0, s1, s2, s3, s4, s5, s6, s7] := by
    match st, hst with
    | [s0, s1, s2, s3, s4, s5, s6, s7], _ => exact ⟨s0, s1, s2, s3, s4, s5, s6, s7, rfl⟩
  exact ((((((((h.stSet 0 v0).stSet 1 v1).stSet 2 v2).stSet 3 v3).stSet 4 v4).stSet 5 v5).stSet 6 v6).stSet 7 v7)

theorem mod_stop {w : World} {P : Nat} (v0 v1 v2 v3 v4 v5 v6 v7 : Value) :
    Mod (fun k => k = P) w ((((((((w.setCell ⟨P, 11, none⟩ v0).setCell ⟨P, 12, none⟩ v1).setCell ⟨P, 13, none⟩ v2).setCell ⟨P, 14, none⟩ v3).setCell ⟨P, 15, none⟩ v4).setCell ⟨P, 16, none⟩ v5).setCell ⟨P, 17, none⟩ v6).setCell ⟨P, 18, none⟩ v7) :=
  (((((((mod_at 11 v0).trans (mod_at 12 v1)).trans (mod_at 13 v2)).trans (mod_at 14 v3)).trans (mod_at 15 v4)).trans (mod_at 16 v5)).trans (mod_at 17 v6)).trans (mod_at 18 v7)

set_option maxHeartbeats 4000000 in
theorem do_call (P : Nat) (a b c : Int) (o : Int) (R : List Int) (pc : Int) (mv : Value) (root : Int) (st : List Value) (w : World) (h : CpuAt w P R pc mv root st) (hst : st.length = 8) (hb : 0 ≤ b ∧ b ≤ 255) (hc : 0 ≤ c ∧ c ≤ 255) :
    Calls Tryd.prog 51 #[.pointer (some ⟨P, 0, none⟩), .agg #[.int .u8 o, .int .u8 a, .int .u8 b, .int .u8 c]] w (DoP w P R pc mv root (stopL 2 (b + 256 * c) (R.getD 1 0) (R.getD 2 0) (R.getD 3 0) (R.getD 4 0) (R.getD 5 0) 0)) := by
  have hP : P < w.heap.size := World.block_lt_of_cell? w _ (h.reg (k := 0) (by omega))
  have H := Lib.hid h
  have HK := Lib.hid (fun w' => ik_any o a b c w' hb hc)
  generalize b + 256 * c = k at HK ⊢
  obtain ⟨r1, hr1⟩ : ∃ x, x = R.getD 1 0 := ⟨_, rfl⟩
  obtain ⟨r2, hr2⟩ : ∃ x, x = R.getD 2 0 := ⟨_, rfl⟩
  obtain ⟨r3, hr3⟩ : ∃ x, x = R.getD 3 0 := ⟨_, rfl⟩
  obtain ⟨r4, hr4⟩ : ∃ x, x = R.getD 4 0 := ⟨_, rfl⟩
  obtain ⟨r5, hr5⟩ : ∃ x, x = R.getD 5 0 := ⟨_, rfl⟩
  obtain ⟨s0, s1, s2, s3, s4, s5, s6, s7, hs⟩ : ∃ s0 s1 s2 s3 s4 s5 s6 s7, st = [s0, s1, s2, s3, s4, s5, s6, s7] := by
    match st, hst with
    | [s0, s1, s2, s3, s4, s5, s6, s7], _ => exact ⟨s0, s1, s2, s3, s4, s5, s6, s7, rfl⟩
  rw [← hr1, ← hr2, ← hr3, ← hr4, ← hr5]
  clear h hb hc
  have hat : ∀ w, (Instr.arrayAt 31 (.slice (some ⟨P, 1, none⟩) 5 7)).run Tryd.prog w = .ok (.pointer (some ⟨P, 1, none⟩)) w := fun w => run_arrayAt w 31 _ 5 _ 5 7 Tryd.underlying31 (by omega)
  go_enter Tryd.func51, Tryd.ntmps51
  go_upto_region 1 with (fail)
  have hm1 : Mod No w (w.alloc (.cells #[.int .u8 o, .int .u8 a, .int .u8 b, .int .u8 c] 63)) := (Mod.refl No w).alloc _
  have hB : (w.alloc (.cells #[.int .u8 o, .int .u8 a, .int .u8 b, .int .u8 c] 63)).heap[w.heap.size]? = some (.cells ([.int .u8 o, .int .u8 a, .int .u8 b, .int .u8 c] : List Value).toArray 63 (0, 0)) := heap_alloc_new w _
  have hne : P ≠ w.heap.size := by omega
  generalize (w.alloc (.cells #[.int .u8 o, .int .u8 a, .int .u8 b, .int .u8 c] 63)) = w1 at hm1 hB ⊢
  generalize w.heap.size = bx at hB hne ⊢
  have H1 := Lib.hid (H.out.kept hm1 (fun q => q))
  have HB := Lib.hid hB
  have HS : Hid (∀ w2, Mod No w1 w2 → (fun w' : World => w'.cell? ⟨bx, 0, none⟩ = some (.int .u8 o) ∧ w'.cell? ⟨bx, 1, none⟩ = some (.int .u8 a) ∧ w'.cell? ⟨bx, 2, none⟩ = some (.int .u8 b) ∧ w'.cell? ⟨bx, 3, none⟩ = some (.int .u8 c) ∧ w'.cell? ⟨P, 1, none⟩ = some (.int .u32 r1) ∧ w'.cell? ⟨P, 2, none⟩ = some (.int .u32 r2) ∧ w'.cell? ⟨P, 3, none⟩ = some (.int .u32 r3) ∧ w'.cell? ⟨P, 4, none⟩ = some (.int .u32 r4) ∧ w'.cell? ⟨P, 5, none⟩ = some (.int .u32 r5)) w2) := fun w2 hm =>
    have hh := H1.out.kept hm (fun q => q)
    ⟨row_cell (hm.blk HB.out (fun q => q)) 0, row_cell (hm.blk HB.out (fun q => q)) 1, row_cell (hm.blk HB.out (fun q => q)) 2, row_cell (hm.blk HB.out (fun q => q)) 3, by rw [hr1]; exact hh.reg (by omega), by rw [hr2]; exact hh.reg (by omega), by rw [hr3]; exact hh.reg (by omega), by rw [hr4]; exact hh.reg (by omega), by rw [hr5]; exact hh.reg (by omega)⟩
  have HT : Hid (∀ w2, Mod No w1 w2 → (w2.cell? ⟨P, 11, none⟩ = some s0 ∧ w2.cell? ⟨P, 12, none⟩ = some s1 ∧ w2.cell? ⟨P, 13, none⟩ = some s2 ∧ w2.cell? ⟨P, 14, none⟩ = some s3 ∧ w2.cell? ⟨P, 15, none⟩ = some s4 ∧ w2.cell? ⟨P, 16, none⟩ = some s5 ∧ w2.cell? ⟨P, 17, none⟩ = some s6 ∧ w2.cell? ⟨P, 18, none⟩ = some s7) ∧ ∀ j, w2.frozen? ⟨P, j, none⟩ = false) := fun w2 hm =>
    have hh := H1.out.kept hm (fun q => q)
    ⟨by subst hs; exact ⟨hh.rest 3, hh.rest 4, hh.rest 5, hh.rest 6, hh.rest 7, hh.rest 8, hh.rest 9, hh.rest 10⟩, fun j => row_free hh.1 j⟩
  have hS1 := HS.out w1 (Mod.refl No w1)
  obtain ⟨u0, u1, u2, u3, u4, u5, u6, u7, u8⟩ := hS1
  have HM1 := Lib.hid hm1
  have hP1 : P < w1.heap.size := Nat.lt_of_lt_of_le hP hm1.size
  clear hm1 hB hP hr1 hr2 hr3 hr4 hr5 hs
  go_region_with (go_at_call 58; refine (HK.out _).mono ?_; rintro e w2 ⟨rfl, hm2⟩; obtain ⟨-, -, -, -, x4, x5, x6, x7, x8⟩ := HS.out w2 ((Mod.refl No w1).drew.trans hm2); obtain ⟨⟨v0, v1, v2, v3, v4, v5, v6, v7⟩, v8⟩ := HT.out w2 ((Mod.refl No w1).drew.trans hm2); have g0 := v8 11; have g1 := v8 12; have g2 := v8 13; have g3 := v8 14; have g4 := v8 15; have g5 := v8 16; have g6 := v8 17; have g7 := v8 18; have hP2 : P < w2.heap.size := Nat.lt_of_lt_of_le hP1 hm2.size; have HM2 := Lib.hid ((Mod.refl No w1).drew.trans hm2); clear hm2 v8)
  all_goals go_end0
  all_goals exact ⟨rfl, (H1.out.kept HM2.out (fun q => q)).stop hst _ _ _ _ _ _ _ _, ((HM1.out.trans HM2.out).of_no).trans (mod_stop _ _ _ _ _ _ _ _)⟩

end Go.Proofs.YtlbebneblmgdcaaDoor
