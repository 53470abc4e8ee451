/- core: the operator that lays a register's upper half. -/
import Derived.Test.YtlbebneblmgdcaaDoorCoreDoC
namespace Go.Proofs.YtlbebneblmgdcaaDoor
open Go.RowKit
set_option maxRecDepth 100000

theorem and65535 (x : Int) (h0 : 0 ≤ x) (h1 : x ≤ 4294967295) : bits .and .u32 x 65535 = x % 65536 := by
  rw [Go.u32_and x 65535 h0 (by omega) (by omega) (by omega)]
  have : x.toNat &&& (65535 : Int).toNat = x.toNat % 65536 := Nat.and_two_pow_sub_one_eq_mod x.toNat 16
  rw [this]; omega
theorem or_high (z k : Int) (hk : 0 ≤ k ∧ k ≤ 65535) : bits .or .u32 (z % 65536) (k * 65536) = z % 65536 + 65536 * k := by
  rw [Go.u32_or (z % 65536) (k * 65536) (by omega) (by omega) (by omega) (by omega), Nat.or_comm, Go.nat_join 16 (k * 65536).toNat (z % 65536).toNat (by omega) (by omega)]
  omega
set_option maxHeartbeats 4000000 in
theorem do_high (P a : Nat) (b c : Int) (o : Int) (R : List Int) (pc : Int) (mv : Value) (root : Int) (st : List Value) (w : World) (h : CpuAt w P R pc mv root st) (hR : ∀ x ∈ R, 0 ≤ x ∧ x ≤ 4294967295) (ha : a < 8) (hb : 0 ≤ b ∧ b ≤ 255) (hc : 0 ≤ c ∧ c ≤ 255) :
    Calls Tryd.prog 33 #[.pointer (some ⟨P, 0, none⟩), .agg #[.int .u8 o, .int .u8 a, .int .u8 b, .int .u8 c]] w (DoP w P (R.set a (R.getD a 0 % 65536 + 65536 * (b + 256 * c))) pc mv root st) := by
  have ra := h.reg ha
  have fa : w.frozen? ⟨P, a, none⟩ = false := row_free h.1 a
  have hP : P < w.heap.size := World.block_lt_of_cell? w _ ra
  have H := Lib.hid h
  have ia : (a : Int) < 8 := by omega
  obtain ⟨z, hz⟩ : ∃ z, z = R.getD a 0 := ⟨_, rfl⟩
  obtain ⟨z0, z1⟩ := hR _ (regs_mem h.2 ha)
  rw [← hz] at ra z0 z1 ⊢
  have hk : 0 ≤ b + 256 * c ∧ b + 256 * c ≤ 65535 := by omega
  clear hR
  have HK := Lib.hid (fun w' => ik_any o a b c w' hb hc)
  generalize b + 256 * c = k at HK hk ⊢
  have e1 : bits .and .u32 z 65535 = z % 65536 := and65535 z z0 z1
  have e2 : IntKind.u32.wrap (k * 65536) = k * 65536 := IntWalk.u32_in _ (by omega)
  have e3 : bits .or .u32 (z % 65536) (k * 65536) = z % 65536 + 65536 * k := or_high z k hk
  clear hz h
  go_enter Tryd.func33, Tryd.ntmps33
  go_upto_region 1 with (fail)
  have hm1 : Mod No w (w.alloc (.cells #[.int .u8 o, .int .u8 a, .int .u8 b, .int .u8 c] 63)) := (Mod.refl No w).alloc _
  have hB : (w.alloc (.cells #[.int .u8 o, .int .u8 a, .int .u8 b, .int .u8 c] 63)).heap[w.heap.size]? = some (.cells ([.int .u8 o, .int .u8 a, .int .u8 b, .int .u8 c] : List Value).toArray 63 (0, 0)) := heap_alloc_new w _
  have hne : P ≠ w.heap.size := by omega
  generalize (w.alloc (.cells #[.int .u8 o, .int .u8 a, .int .u8 b, .int .u8 c] 63)) = w1 at hm1 hB ⊢
  generalize w.heap.size = bx at hB hne ⊢
  have H1 := Lib.hid (H.out.kept hm1 (fun q => q))
  have HB := Lib.hid hB
  have HS : Hid (∀ w2, Mod No w1 w2 → (w2.cell? ⟨bx, 0, none⟩ = some (.int .u8 o) ∧ w2.cell? ⟨bx, 1, none⟩ = some (.int .u8 a) ∧ w2.cell? ⟨bx, 2, none⟩ = some (.int .u8 b) ∧ w2.cell? ⟨bx, 3, none⟩ = some (.int .u8 c)) ∧ w2.cell? ⟨P, a, none⟩ = some (.int .u32 z) ∧ w2.frozen? ⟨P, a, none⟩ = false) := fun w2 hm => ⟨⟨row_cell (hm.blk HB.out (fun q => q)) 0, row_cell (hm.blk HB.out (fun q => q)) 1, row_cell (hm.blk HB.out (fun q => q)) 2, row_cell (hm.blk HB.out (fun q => q)) 3⟩,
    (World.cell?_of_block (w := w) ((hm1.trans hm).block P hP (fun q => q))).trans ra, row_free (H1.out.kept hm (fun q => q)).1 a⟩
  have hS1 := HS.out w1 (Mod.refl No w1)
  have HM1 := Lib.hid hm1
  have hP1 : P < w1.heap.size := Nat.lt_of_lt_of_le hP hm1.size
  clear ra fa hm1 hB hP H hk
  obtain ⟨⟨u0, u1, u2, u3⟩, u4, u5⟩ := hS1
  go_region_with (go_at_call 58; refine (HK.out _).mono ?_; rintro e w2 ⟨rfl, hm2⟩; obtain ⟨⟨v0, v1, v2, v3⟩, v4, v5⟩ := HS.out w2 ((Mod.refl No w1).drew.trans hm2); have hP2 : P < w2.heap.size := World.block_lt_of_cell? w2 _ v4; have HM2 := Lib.hid ((Mod.refl No w1).drew.trans hm2); clear hm2)
  all_goals go_end0
  all_goals refine ⟨rfl, ?_, (((HM1.out.trans HM2.out).of_no).trans (mod_at a _))⟩
  all_goals exact (H1.out.kept HM2.out (fun q => q)).set ha _

end Go.Proofs.YtlbebneblmgdcaaDoor
