/- core: the other operators. -/
import Derived.Test.YtlbebneblmgdcaaDoorCoreDo
import Derived.Deep.RegionHeld3
namespace Go.Proofs.YtlbebneblmgdcaaDoor
open Go.RowKit
set_option maxRecDepth 100000

theorem kor_low8 (b c : Int) (hb : 0 ≤ b ∧ b ≤ 255) (hc : 0 ≤ c ∧ c ≤ 255) : bits .or .u32 b (c * 256) = b + 256 * c := by
  rw [Go.u32_or b (c * 256) hb.1 (by omega) (by omega) (by omega), Nat.or_comm, Go.nat_join 8 (c * 256).toNat b.toNat (by omega) (by omega)]
  omega
theorem ik_any (o a b c : Int) (w : World) (hb : 0 ≤ b ∧ b ≤ 255) (hc : 0 ≤ c ∧ c ≤ 255) : Calls Tryd.prog 58 #[.agg #[.int .u8 o, .int .u8 a, .int .u8 b, .int .u8 c]] w fun e w' => e = .returned (.int .u32 (b + 256 * c)) ∧ Mod No w w' := by
  have e := kor_low8 b c hb hc
  go_enter Tryd.func58, Tryd.ntmps58
  go_wp2
  go_ret
  exact ⟨rfl, (Mod.refl No w).alloc _⟩
def farI (k : Int) : Int := if k < 32768 then k else k - 65536
theorem farI_range (b c : Int) (hb : 0 ≤ b ∧ b ≤ 255) (hc : 0 ≤ c ∧ c ≤ 255) : -32768 ≤ farI (b + 256 * c) ∧ farI (b + 256 * c) ≤ 32767 := by unfold farI; split <;> omega
theorem ifar_any (o a b c : Int) (w : World) (hb : 0 ≤ b ∧ b ≤ 255) (hc : 0 ≤ c ∧ c ≤ 255) : Calls Tryd.prog 59 #[.agg #[.int .u8 o, .int .u8 a, .int .u8 b, .int .u8 c]] w fun e w' => e = .returned (.int .i64 (farI (b + 256 * c))) ∧ Mod No w w' := by
  have hw : IntKind.i16.wrap (b + 256 * c) = farI (b + 256 * c) := by
    unfold farI
    split
    · exact IntWalk.i16_in _ (by omega)
    · simp [IntKind.wrap, IntKind.bits, IntKind.signed]; omega
  have hr := farI_range b c hb hc
  have HK := Lib.hid (fun w' => ik_any o a b c w' hb hc)
  generalize farI (b + 256 * c) = f at hw hr ⊢
  obtain ⟨hr1, hr2⟩ := hr
  go_enter Tryd.func59, Tryd.ntmps59
  go_wp2_with (go_at_call 58; refine (HK.out _).mono ?_; rintro e w2 ⟨rfl, h2⟩)
  go_ret
  exact ⟨rfl, ((Mod.refl No w).alloc _).trans h2⟩

set_option maxHeartbeats 4000000 in
theorem do_move (P a b : Nat) (c : Int) (o : Int) (R : List Int) (pc : Int) (mv : Value) (root : Int) (st : List Value) (w : World) (h : CpuAt w P R pc mv root st) (ha : a < 8) (hb : b < 8) :
    Calls Tryd.prog 34 #[.pointer (some ⟨P, 0, none⟩), .agg #[.int .u8 o, .int .u8 a, .int .u8 b, .int .u8 c]] w (DoP w P (R.set a (R.getD b 0)) pc mv root st) := by
  have ra := h.reg ha
  have rb := h.reg hb
  have fa : w.frozen? ⟨P, a, none⟩ = false := row_free h.1 a
  have hP : P < w.heap.size := World.block_lt_of_cell? w _ ra
  have H := Lib.hid h
  have ia : (a : Int) < 8 := by omega
  have ib : (b : Int) < 8 := by omega
  obtain ⟨x, hx⟩ : ∃ x, x = R.getD b 0 := ⟨_, rfl⟩
  obtain ⟨z, hz⟩ : ∃ z, z = R.getD a 0 := ⟨_, rfl⟩
  rw [← hx] at rb ⊢
  rw [← hz] at ra
  clear hx hz h
  go_enter Tryd.func34, Tryd.ntmps34
  go_upto_region 1 with (fail)
  go_region
  refine bodyPost_ret (results_none rfl _ _ _) rfl ?_
  exact DoP.of_set H.out ha _ _

set_option maxHeartbeats 4000000 in
theorem do_jump (P a : Nat) (b c : Int) (o : Int) (R : List Int) (pc : Int) (mv : Value) (root : Int) (st : List Value) (w : World) (h : CpuAt w P R pc mv root st) (hR : ∀ x ∈ R, 0 ≤ x ∧ x ≤ 4294967295) (ha : a < 8) :
    Calls Tryd.prog 48 #[.pointer (some ⟨P, 0, none⟩), .agg #[.int .u8 o, .int .u8 a, .int .u8 b, .int .u8 c]] w (DoP w P R (R.getD a 0 % 1048576) mv root st) := by
  have ra := h.reg ha
  have rp : w.cell? ⟨P, 8, none⟩ = some (.int .u32 pc) := h.rest 0
  have fa : w.frozen? ⟨P, 8, none⟩ = false := row_free h.1 8
  have hP : P < w.heap.size := World.block_lt_of_cell? w _ ra
  have H := Lib.hid h
  have ia : (a : Int) < 8 := by omega
  obtain ⟨z, hz⟩ : ∃ z, z = R.getD a 0 := ⟨_, rfl⟩
  obtain ⟨z0, z1⟩ := hR _ (regs_mem h.2 ha)
  rw [← hz] at ra z0 z1 ⊢
  clear hz h hR
  go_enter Tryd.func48, Tryd.ntmps48
  go_upto_region 1 with (fail)
  go_region
  refine bodyPost_ret (results_none rfl _ _ _) rfl ?_
  exact DoP.of_pc H.out _ _

set_option maxHeartbeats 4000000 in
theorem do_less (P a b c : Nat) (o : Int) (R : List Int) (pc : Int) (mv : Value) (root : Int) (st : List Value) (w : World) (h : CpuAt w P R pc mv root st) (ha : a < 8) (hb : b < 8) (hc : c < 8) :
    Calls Tryd.prog 43 #[.pointer (some ⟨P, 0, none⟩), .agg #[.int .u8 o, .int .u8 a, .int .u8 b, .int .u8 c]] w (DoP w P (R.set a (if R.getD b 0 < R.getD c 0 then 1 else 0)) pc mv root st) := by
  have ra := h.reg ha
  have rb := h.reg hb
  have rc := h.reg hc
  have fa : w.frozen? ⟨P, a, none⟩ = false := row_free h.1 a
  have hP : P < w.heap.size := World.block_lt_of_cell? w _ ra
  have H := Lib.hid h
  have ia : (a : Int) < 8 := by omega
  have ib : (b : Int) < 8 := by omega
  have ic : (c : Int) < 8 := by omega
  obtain ⟨x, hx⟩ : ∃ x, x = R.getD b 0 := ⟨_, rfl⟩
  obtain ⟨y, hy⟩ : ∃ y, y = R.getD c 0 := ⟨_, rfl⟩
  obtain ⟨z, hz⟩ : ∃ z, z = R.getD a 0 := ⟨_, rfl⟩
  rw [← hx] at rb ⊢
  rw [← hy] at rc ⊢
  rw [← hz] at ra
  clear hx hy hz h
  have key : ∀ (T : Bool), decide (x < y) = T → Calls Tryd.prog 43 #[.pointer (some ⟨P, 0, none⟩), .agg #[.int .u8 o, .int .u8 a, .int .u8 b, .int .u8 c]] w (DoP w P (R.set a (if T then 1 else 0)) pc mv root st) := by
    intro T hT
    go_enter Tryd.func43, Tryd.ntmps43
    go_upto_region 1 with (fail)
    go_quiet (fail)
    have hm1 : Mod No w ((w.alloc (.cells #[.int .u8 o, .int .u8 a, .int .u8 b, .int .u8 c] 63)).drewN nq) := ((Mod.refl No w).alloc _).drewN nq
    have hB : ((w.alloc (.cells #[.int .u8 o, .int .u8 a, .int .u8 b, .int .u8 c] 63)).drewN nq).heap[w.heap.size]? = some (.cells ([.int .u8 o, .int .u8 a, .int .u8 b, .int .u8 c] : List Value).toArray 63 (0, 0)) := heap_alloc_new w _
    have hne : P ≠ w.heap.size := by omega
    generalize (w.alloc (.cells #[.int .u8 o, .int .u8 a, .int .u8 b, .int .u8 c] 63)).drewN nq = w1 at hm1 hB ⊢
    generalize w.heap.size = bx at hB hne ⊢
    have H1 := Lib.hid (H.out.kept hm1 (fun q => q))
    have b1 : w1.cell? ⟨bx, 1, none⟩ = some (.int .u8 a) := row_cell hB 1
    have ra1 : w1.cell? ⟨P, a, none⟩ = some (.int .u32 z) := (World.cell?_of_block (w := w) (hm1.block P hP (fun q => q))).trans ra
    have fa1 : w1.frozen? ⟨P, a, none⟩ = false := row_free H1.out.1 a
    have HM1 := Lib.hid hm1
    clear ra rb rc fa hP hm1 hB
    go_upto_region 2 with (fail)
    go_region
    cases T with
    | false =>
      go_wp2
      go_end0
      exact ⟨rfl, (H1.out.set ha 0), ((HM1.out.mono (fun _ _ q => q.elim)).trans (mod_at a _)).drew⟩
    | true =>
      go_upto_region 4 with (fail)
      go_region
      go_end0
      have h2 := (H1.out.set ha 0).set ha 1
      rw [List.set_set] at h2
      exact ⟨rfl, h2, ((((HM1.out.mono (fun _ _ q => q.elim)).trans (mod_at a _)).trans (mod_at a _)).drew).drew⟩
  have := key (decide (x < y)) rfl
  simpa using this

set_option maxHeartbeats 4000000 in
theorem do_halt (P : Nat) (o a b c : Int) (R : List Int) (pc : Int) (mv : Value) (root : Int) (st : List Value) (w : World) (h : CpuAt w P R pc mv root st) (hst : st.length = 8) :
    Calls Tryd.prog 31 #[.pointer (some ⟨P, 0, none⟩), .agg #[.int .u8 o, .int .u8 a, .int .u8 b, .int .u8 c]] w (DoP w P R pc mv root (st.set 0 (.int .i64 1))) := by
  obtain ⟨s0, sr, rfl⟩ : ∃ s0 sr, st = s0 :: sr := by cases st with | nil => simp at hst | cons x r => exact ⟨x, r, rfl⟩
  have r11 : w.cell? ⟨P, 11, none⟩ = some s0 := h.rest 3
  have f11 : w.frozen? ⟨P, 11, none⟩ = false := row_free h.1 11
  have hP : P < w.heap.size := World.block_lt_of_cell? w _ r11
  have H := Lib.hid h
  clear h
  go_enter Tryd.func31, Tryd.ntmps31
  go_wp2
  go_end0
  exact ⟨rfl, (H.out.stSet 0 (.int .i64 1)).kept ((Mod.refl No _).alloc _) (fun q => q), (mod_at 11 _).alloc _⟩

end Go.Proofs.YtlbebneblmgdcaaDoor
