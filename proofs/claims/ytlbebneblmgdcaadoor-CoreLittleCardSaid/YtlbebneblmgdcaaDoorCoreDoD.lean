/- core: the operators that take a number of 16 bits. -/
import Derived.Test.YtlbebneblmgdcaaDoorCoreDoC
namespace Go.Proofs.YtlbebneblmgdcaaDoor
open Go.RowKit
set_option maxRecDepth 100000

set_option maxHeartbeats 4000000 in
theorem do_set (P a : Nat) (b c : Int) (o : Int) (R : List Int) (pc : Int) (mv : Value) (root : Int) (st : List Value) (w : World) (h : CpuAt w P R pc mv root st) (ha : a < 8) (hb : 0 ≤ b ∧ b ≤ 255) (hc : 0 ≤ c ∧ c ≤ 255) :
    Calls Tryd.prog 32 #[.pointer (some ⟨P, 0, none⟩), .agg #[.int .u8 o, .int .u8 a, .int .u8 b, .int .u8 c]] w (DoP w P (R.set a (b + 256 * c)) pc mv root st) := by
  have ra := h.reg ha
  have fa : w.frozen? ⟨P, a, none⟩ = false := row_free h.1 a
  have hP : P < w.heap.size := World.block_lt_of_cell? w _ ra
  have H := Lib.hid h
  have ia : (a : Int) < 8 := by omega
  obtain ⟨z, hz⟩ : ∃ z, z = R.getD a 0 := ⟨_, rfl⟩
  rw [← hz] at ra
  have HK := Lib.hid (fun w' => ik_any o a b c w' hb hc)
  generalize b + 256 * c = k at HK ⊢
  clear hz h
  go_enter Tryd.func32, Tryd.ntmps32
  go_upto_region 1 with (fail)
  have hm1 : Mod No w (w.alloc (.cells #[.int .u8 o, .int .u8 a, .int .u8 b, .int .u8 c] 63)) := (Mod.refl No w).alloc _
  have hB : (w.alloc (.cells #[.int .u8 o, .int .u8 a, .int .u8 b, .int .u8 c] 63)).heap[w.heap.size]? = some (.cells ([.int .u8 o, .int .u8 a, .int .u8 b, .int .u8 c] : List Value).toArray 63 (0, 0)) := heap_alloc_new w _
  have hne : P ≠ w.heap.size := by omega
  generalize (w.alloc (.cells #[.int .u8 o, .int .u8 a, .int .u8 b, .int .u8 c] 63)) = w1 at hm1 hB ⊢
  generalize w.heap.size = bx at hB hne ⊢
  have H1 := Lib.hid (H.out.kept hm1 (fun q => q))
  have HB := Lib.hid hB
  have HS : Hid (∀ w2, Mod No w1 w2 → (fun w' : World => w'.cell? ⟨bx, 0, none⟩ = some (.int .u8 o) ∧ w'.cell? ⟨bx, 1, none⟩ = some (.int .u8 a) ∧ w'.cell? ⟨bx, 2, none⟩ = some (.int .u8 b) ∧ w'.cell? ⟨bx, 3, none⟩ = some (.int .u8 c)) w2 ∧ w2.cell? ⟨P, a, none⟩ = some (.int .u32 z)) := fun w2 hm => ⟨⟨row_cell (hm.blk HB.out (fun q => q)) 0, row_cell (hm.blk HB.out (fun q => q)) 1, row_cell (hm.blk HB.out (fun q => q)) 2, row_cell (hm.blk HB.out (fun q => q)) 3⟩,
    (World.cell?_of_block (w := w) ((hm1.trans hm).block P hP (fun q => q))).trans ra⟩
  have hS1 := HS.out w1 (Mod.refl No w1)
  have HM1 := Lib.hid hm1
  have hP1 : P < w1.heap.size := Nat.lt_of_lt_of_le hP hm1.size
  have u5 : w1.frozen? ⟨P, a, none⟩ = false := row_free H1.out.1 a
  clear ra fa hm1 hB hP H
  obtain ⟨hS1, u4⟩ := hS1
  obtain ⟨u0, u1, u2, u3⟩ := hS1
  have hS1 := (HS.out w1 (Mod.refl No w1)).1
  have HSX := HS
  go_region_held3 (fun w' : World => w'.cell? ⟨bx, 0, none⟩ = some (.int .u8 o) ∧ w'.cell? ⟨bx, 1, none⟩ = some (.int .u8 a) ∧ w'.cell? ⟨bx, 2, none⟩ = some (.int .u8 b) ∧ w'.cell? ⟨bx, 3, none⟩ = some (.int .u8 c)) (first | exact hS1 | assumption | go_keep) ((go_at_call 58; refine (HK.out _).mono ?_; rintro e w2 ⟨rfl, hm2⟩; obtain ⟨hS2, v4⟩ := HS.out w2 ((Mod.refl No w1).drew.trans hm2); have u6 : w2.frozen? ⟨P, a, none⟩ = false := row_free (H1.out.kept ((Mod.refl No w1).drew.trans hm2) (fun q => q)).1 a; have hP2 : P < w2.heap.size := Nat.lt_of_lt_of_le hP1 hm2.size; have HM2 := Lib.hid ((Mod.refl No w1).drew.trans hm2); clear hm2))
  all_goals (go_end0; exact ⟨rfl, ((H1.out.kept HM2.out (fun q => q)).set ha _), (((HM1.out.trans HM2.out).mono (fun _ _ q => q.elim)).trans (mod_at a _))⟩)

end Go.Proofs.YtlbebneblmgdcaaDoor
