/- core: the operators of two registers. (Printed by wip/gen_do.py.) -/
import Derived.Test.YtlbebneblmgdcaaDoorCoreDo
namespace Go.Proofs.YtlbebneblmgdcaaDoor
open Go.RowKit
set_option maxRecDepth 100000

set_option maxHeartbeats 4000000 in
theorem do_add (P a b c : Nat) (o : Int) (R : List Int) (pc : Int) (mv : Value) (root : Int) (st : List Value) (w : World) (h : CpuAt w P R pc mv root st) (hR : ∀ x ∈ R, 0 ≤ x ∧ x ≤ 4294967295) (ha : a < 8) (hb : b < 8) (hc : c < 8) :
    Calls Tryd.prog 35 #[.pointer (some ⟨P, 0, none⟩), .agg #[.int .u8 o, .int .u8 a, .int .u8 b, .int .u8 c]] w (DoP w P (R.set a (((R.getD b 0) + (R.getD c 0)) % 4294967296)) pc mv root st) := by
  have ra := h.reg ha
  have rb := h.reg hb
  have rc := h.reg hc
  have fa : w.frozen? ⟨P, a, none⟩ = false := row_free h.1 a
  have hP : P < w.heap.size := World.block_lt_of_cell? w _ ra
  have H := Lib.hid h
  have ia : (a : Int) < 8 := by omega
  have ib : (b : Int) < 8 := by omega
  have ic : (c : Int) < 8 := by omega
  obtain ⟨x, hx⟩ : ∃ x, x = R.getD b 0 := ⟨_, rfl⟩
  obtain ⟨y, hy⟩ : ∃ y, y = R.getD c 0 := ⟨_, rfl⟩
  obtain ⟨z, hz⟩ : ∃ z, z = R.getD a 0 := ⟨_, rfl⟩
  obtain ⟨x0, x1⟩ := hR _ (regs_mem h.2 hb)
  obtain ⟨y0, y1⟩ := hR _ (regs_mem h.2 hc)
  rw [← hx] at rb x0 x1 ⊢
  rw [← hy] at rc y0 y1 ⊢
  rw [← hz] at ra
  clear hx hy hz h hR
  go_enter Tryd.func35, Tryd.ntmps35
  go_upto_region 1 with (fail)
  go_region
  refine bodyPost_ret (results_none rfl _ _ _) rfl ?_
  exact DoP.of_set H.out ha _ _

set_option maxHeartbeats 4000000 in
theorem do_sub (P a b c : Nat) (o : Int) (R : List Int) (pc : Int) (mv : Value) (root : Int) (st : List Value) (w : World) (h : CpuAt w P R pc mv root st) (hR : ∀ x ∈ R, 0 ≤ x ∧ x ≤ 4294967295) (ha : a < 8) (hb : b < 8) (hc : c < 8) :
    Calls Tryd.prog 36 #[.pointer (some ⟨P, 0, none⟩), .agg #[.int .u8 o, .int .u8 a, .int .u8 b, .int .u8 c]] w (DoP w P (R.set a (((R.getD b 0) - (R.getD c 0)) % 4294967296)) pc mv root st) := by
  have ra := h.reg ha
  have rb := h.reg hb
  have rc := h.reg hc
  have fa : w.frozen? ⟨P, a, none⟩ = false := row_free h.1 a
  have hP : P < w.heap.size := World.block_lt_of_cell? w _ ra
  have H := Lib.hid h
  have ia : (a : Int) < 8 := by omega
  have ib : (b : Int) < 8 := by omega
  have ic : (c : Int) < 8 := by omega
  obtain ⟨x, hx⟩ : ∃ x, x = R.getD b 0 := ⟨_, rfl⟩
  obtain ⟨y, hy⟩ : ∃ y, y = R.getD c 0 := ⟨_, rfl⟩
  obtain ⟨z, hz⟩ : ∃ z, z = R.getD a 0 := ⟨_, rfl⟩
  obtain ⟨x0, x1⟩ := hR _ (regs_mem h.2 hb)
  obtain ⟨y0, y1⟩ := hR _ (regs_mem h.2 hc)
  rw [← hx] at rb x0 x1 ⊢
  rw [← hy] at rc y0 y1 ⊢
  rw [← hz] at ra
  clear hx hy hz h hR
  go_enter Tryd.func36, Tryd.ntmps36
  go_upto_region 1 with (fail)
  go_region
  refine bodyPost_ret (results_none rfl _ _ _) rfl ?_
  exact DoP.of_set H.out ha _ _

set_option maxHeartbeats 4000000 in
theorem do_mul (P a b c : Nat) (o : Int) (R : List Int) (pc : Int) (mv : Value) (root : Int) (st : List Value) (w : World) (h : CpuAt w P R pc mv root st) (hR : ∀ x ∈ R, 0 ≤ x ∧ x ≤ 4294967295) (ha : a < 8) (hb : b < 8) (hc : c < 8) :
    Calls Tryd.prog 37 #[.pointer (some ⟨P, 0, none⟩), .agg #[.int .u8 o, .int .u8 a, .int .u8 b, .int .u8 c]] w (DoP w P (R.set a ((R.getD b 0) * (R.getD c 0) % 4294967296)) pc mv root st) := by
  have ra := h.reg ha
  have rb := h.reg hb
  have rc := h.reg hc
  have fa : w.frozen? ⟨P, a, none⟩ = false := row_free h.1 a
  have hP : P < w.heap.size := World.block_lt_of_cell? w _ ra
  have H := Lib.hid h
  have ia : (a : Int) < 8 := by omega
  have ib : (b : Int) < 8 := by omega
  have ic : (c : Int) < 8 := by omega
  obtain ⟨x, hx⟩ : ∃ x, x = R.getD b 0 := ⟨_, rfl⟩
  obtain ⟨y, hy⟩ : ∃ y, y = R.getD c 0 := ⟨_, rfl⟩
  obtain ⟨z, hz⟩ : ∃ z, z = R.getD a 0 := ⟨_, rfl⟩
  obtain ⟨x0, x1⟩ := hR _ (regs_mem h.2 hb)
  obtain ⟨y0, y1⟩ := hR _ (regs_mem h.2 hc)
  rw [← hx] at rb x0 x1 ⊢
  rw [← hy] at rc y0 y1 ⊢
  rw [← hz] at ra
  clear hx hy hz h hR
  go_enter Tryd.func37, Tryd.ntmps37
  go_upto_region 1 with (fail)
  go_region
  refine bodyPost_ret (results_none rfl _ _ _) rfl ?_
  exact DoP.of_set H.out ha _ _

set_option maxHeartbeats 4000000 in
theorem do_and (P a b c : Nat) (o : Int) (R : List Int) (pc : Int) (mv : Value) (root : Int) (st : List Value) (w : World) (h : CpuAt w P R pc mv root st) (hR : ∀ x ∈ R, 0 ≤ x ∧ x ≤ 4294967295) (ha : a < 8) (hb : b < 8) (hc : c < 8) :
    Calls Tryd.prog 38 #[.pointer (some ⟨P, 0, none⟩), .agg #[.int .u8 o, .int .u8 a, .int .u8 b, .int .u8 c]] w (DoP w P (R.set a (bits .and .u32 (R.getD b 0) (R.getD c 0))) pc mv root st) := by
  have ra := h.reg ha
  have rb := h.reg hb
  have rc := h.reg hc
  have fa : w.frozen? ⟨P, a, none⟩ = false := row_free h.1 a
  have hP : P < w.heap.size := World.block_lt_of_cell? w _ ra
  have H := Lib.hid h
  have ia : (a : Int) < 8 := by omega
  have ib : (b : Int) < 8 := by omega
  have ic : (c : Int) < 8 := by omega
  obtain ⟨x, hx⟩ : ∃ x, x = R.getD b 0 := ⟨_, rfl⟩
  obtain ⟨y, hy⟩ : ∃ y, y = R.getD c 0 := ⟨_, rfl⟩
  obtain ⟨z, hz⟩ : ∃ z, z = R.getD a 0 := ⟨_, rfl⟩
  obtain ⟨x0, x1⟩ := hR _ (regs_mem h.2 hb)
  obtain ⟨y0, y1⟩ := hR _ (regs_mem h.2 hc)
  rw [← hx] at rb x0 x1 ⊢
  rw [← hy] at rc y0 y1 ⊢
  rw [← hz] at ra
  clear hx hy hz h hR
  go_enter Tryd.func38, Tryd.ntmps38
  go_upto_region 1 with (fail)
  go_region
  refine bodyPost_ret (results_none rfl _ _ _) rfl ?_
  exact DoP.of_set H.out ha _ _

set_option maxHeartbeats 4000000 in
theorem do_or (P a b c : Nat) (o : Int) (R : List Int) (pc : Int) (mv : Value) (root : Int) (st : List Value) (w : World) (h : CpuAt w P R pc mv root st) (hR : ∀ x ∈ R, 0 ≤ x ∧ x ≤ 4294967295) (ha : a < 8) (hb : b < 8) (hc : c < 8) :
    Calls Tryd.prog 39 #[.pointer (some ⟨P, 0, none⟩), .agg #[.int .u8 o, .int .u8 a, .int .u8 b, .int .u8 c]] w (DoP w P (R.set a (bits .or .u32 (R.getD b 0) (R.getD c 0))) pc mv root st) := by
  have ra := h.reg ha
  have rb := h.reg hb
  have rc := h.reg hc
  have fa : w.frozen? ⟨P, a, none⟩ = false := row_free h.1 a
  have hP : P < w.heap.size := World.block_lt_of_cell? w _ ra
  have H := Lib.hid h
  have ia : (a : Int) < 8 := by omega
  have ib : (b : Int) < 8 := by omega
  have ic : (c : Int) < 8 := by omega
  obtain ⟨x, hx⟩ : ∃ x, x = R.getD b 0 := ⟨_, rfl⟩
  obtain ⟨y, hy⟩ : ∃ y, y = R.getD c 0 := ⟨_, rfl⟩
  obtain ⟨z, hz⟩ : ∃ z, z = R.getD a 0 := ⟨_, rfl⟩
  obtain ⟨x0, x1⟩ := hR _ (regs_mem h.2 hb)
  obtain ⟨y0, y1⟩ := hR _ (regs_mem h.2 hc)
  rw [← hx] at rb x0 x1 ⊢
  rw [← hy] at rc y0 y1 ⊢
  rw [← hz] at ra
  clear hx hy hz h hR
  go_enter Tryd.func39, Tryd.ntmps39
  go_upto_region 1 with (fail)
  go_region
  refine bodyPost_ret (results_none rfl _ _ _) rfl ?_
  exact DoP.of_set H.out ha _ _

set_option maxHeartbeats 4000000 in
theorem do_xor (P a b c : Nat) (o : Int) (R : List Int) (pc : Int) (mv : Value) (root : Int) (st : List Value) (w : World) (h : CpuAt w P R pc mv root st) (hR : ∀ x ∈ R, 0 ≤ x ∧ x ≤ 4294967295) (ha : a < 8) (hb : b < 8) (hc : c < 8) :
    Calls Tryd.prog 40 #[.pointer (some ⟨P, 0, none⟩), .agg #[.int .u8 o, .int .u8 a, .int .u8 b, .int .u8 c]] w (DoP w P (R.set a (bits .xor .u32 (R.getD b 0) (R.getD c 0))) pc mv root st) := by
  have ra := h.reg ha
  have rb := h.reg hb
  have rc := h.reg hc
  have fa : w.frozen? ⟨P, a, none⟩ = false := row_free h.1 a
  have hP : P < w.heap.size := World.block_lt_of_cell? w _ ra
  have H := Lib.hid h
  have ia : (a : Int) < 8 := by omega
  have ib : (b : Int) < 8 := by omega
  have ic : (c : Int) < 8 := by omega
  obtain ⟨x, hx⟩ : ∃ x, x = R.getD b 0 := ⟨_, rfl⟩
  obtain ⟨y, hy⟩ : ∃ y, y = R.getD c 0 := ⟨_, rfl⟩
  obtain ⟨z, hz⟩ : ∃ z, z = R.getD a 0 := ⟨_, rfl⟩
  obtain ⟨x0, x1⟩ := hR _ (regs_mem h.2 hb)
  obtain ⟨y0, y1⟩ := hR _ (regs_mem h.2 hc)
  rw [← hx] at rb x0 x1 ⊢
  rw [← hy] at rc y0 y1 ⊢
  rw [← hz] at ra
  clear hx hy hz h hR
  go_enter Tryd.func40, Tryd.ntmps40
  go_upto_region 1 with (fail)
  go_region
  refine bodyPost_ret (results_none rfl _ _ _) rfl ?_
  exact DoP.of_set H.out ha _ _

set_option maxHeartbeats 4000000 in
theorem do_up (P a b c : Nat) (o : Int) (R : List Int) (pc : Int) (mv : Value) (root : Int) (st : List Value) (w : World) (h : CpuAt w P R pc mv root st) (hR : ∀ x ∈ R, 0 ≤ x ∧ x ≤ 4294967295) (ha : a < 8) (hb : b < 8) (hc : c < 8) :
    Calls Tryd.prog 41 #[.pointer (some ⟨P, 0, none⟩), .agg #[.int .u8 o, .int .u8 a, .int .u8 b, .int .u8 c]] w (DoP w P (R.set a ((R.getD b 0) * 2 ^ ((R.getD c 0) % 32).toNat % 4294967296)) pc mv root st) := by
  have ra := h.reg ha
  have rb := h.reg hb
  have rc := h.reg hc
  have fa : w.frozen? ⟨P, a, none⟩ = false := row_free h.1 a
  have hP : P < w.heap.size := World.block_lt_of_cell? w _ ra
  have H := Lib.hid h
  have ia : (a : Int) < 8 := by omega
  have ib : (b : Int) < 8 := by omega
  have ic : (c : Int) < 8 := by omega
  obtain ⟨x, hx⟩ : ∃ x, x = R.getD b 0 := ⟨_, rfl⟩
  obtain ⟨y, hy⟩ : ∃ y, y = R.getD c 0 := ⟨_, rfl⟩
  obtain ⟨z, hz⟩ : ∃ z, z = R.getD a 0 := ⟨_, rfl⟩
  obtain ⟨x0, x1⟩ := hR _ (regs_mem h.2 hb)
  obtain ⟨y0, y1⟩ := hR _ (regs_mem h.2 hc)
  rw [← hx] at rb x0 x1 ⊢
  rw [← hy] at rc y0 y1 ⊢
  rw [← hz] at ra
  have hs : (y % 32).toNat < 32 := by omega
  have hs0 : 0 ≤ y % 32 := by omega
  clear hx hy hz h hR
  go_enter Tryd.func41, Tryd.ntmps41
  go_upto_region 1 with (fail)
  go_region
  refine bodyPost_ret (results_none rfl _ _ _) rfl ?_
  exact DoP.of_set H.out ha _ _

set_option maxHeartbeats 4000000 in
theorem do_down (P a b c : Nat) (o : Int) (R : List Int) (pc : Int) (mv : Value) (root : Int) (st : List Value) (w : World) (h : CpuAt w P R pc mv root st) (hR : ∀ x ∈ R, 0 ≤ x ∧ x ≤ 4294967295) (ha : a < 8) (hb : b < 8) (hc : c < 8) :
    Calls Tryd.prog 42 #[.pointer (some ⟨P, 0, none⟩), .agg #[.int .u8 o, .int .u8 a, .int .u8 b, .int .u8 c]] w (DoP w P (R.set a ((R.getD b 0) / 2 ^ ((R.getD c 0) % 32).toNat)) pc mv root st) := by
  have ra := h.reg ha
  have rb := h.reg hb
  have rc := h.reg hc
  have fa : w.frozen? ⟨P, a, none⟩ = false := row_free h.1 a
  have hP : P < w.heap.size := World.block_lt_of_cell? w _ ra
  have H := Lib.hid h
  have ia : (a : Int) < 8 := by omega
  have ib : (b : Int) < 8 := by omega
  have ic : (c : Int) < 8 := by omega
  obtain ⟨x, hx⟩ : ∃ x, x = R.getD b 0 := ⟨_, rfl⟩
  obtain ⟨y, hy⟩ : ∃ y, y = R.getD c 0 := ⟨_, rfl⟩
  obtain ⟨z, hz⟩ : ∃ z, z = R.getD a 0 := ⟨_, rfl⟩
  obtain ⟨x0, x1⟩ := hR _ (regs_mem h.2 hb)
  obtain ⟨y0, y1⟩ := hR _ (regs_mem h.2 hc)
  rw [← hx] at rb x0 x1 ⊢
  rw [← hy] at rc y0 y1 ⊢
  rw [← hz] at ra
  have hs : (y % 32).toNat < 32 := by omega
  have hs0 : 0 ≤ y % 32 := by omega
  clear hx hy hz h hR
  go_enter Tryd.func42, Tryd.ntmps42
  go_upto_region 1 with (fail)
  go_region
  refine bodyPost_ret (results_none rfl _ _ _) rfl ?_
  exact DoP.of_set H.out ha _ _

end Go.Proofs.YtlbebneblmgdcaaDoor
