/- core: jumps on a condition. (Printed by wip/gen_do2.py.) -/
import Derived.Test.YtlbebneblmgdcaaDoorCoreDoC
namespace Go.Proofs.YtlbebneblmgdcaaDoor
open Go.RowKit
set_option maxRecDepth 100000

theorem jump_to_some (pc f : Int) (hf : -32768 ≤ f ∧ f ≤ 32767) : (IntKind.u32.wrap (pc + IntKind.u32.wrap (IntKind.i64.wrap (4 * f)))).tmod 1048576 = (pc + 4 * f) % 1048576 := by
  rw [IntWalk.i64_in _ (by omega), IntKind.wrap_u32, IntKind.wrap_u32, Int.tmod_eq_emod_of_nonneg (by omega)]
  omega

set_option maxHeartbeats 4000000 in
theorem do_some (P a : Nat) (b c : Int) (o : Int) (R : List Int) (pc : Int) (mv : Value) (root : Int) (st : List Value) (w : World) (h : CpuAt w P R pc mv root st) (ha : a < 8) (hb : 0 ≤ b ∧ b ≤ 255) (hc : 0 ≤ c ∧ c ≤ 255) (hp : 0 ≤ pc ∧ pc < 1048576) :
    Calls Tryd.prog 50 #[.pointer (some ⟨P, 0, none⟩), .agg #[.int .u8 o, .int .u8 a, .int .u8 b, .int .u8 c]] w (DoP w P R (if R.getD a 0 ≠ 0 then (pc + 4 * farI (b + 256 * c)) % 1048576 else pc) mv root st) := by
  have ra := h.reg ha
  have rp : w.cell? ⟨P, 8, none⟩ = some (.int .u32 pc) := h.rest 0
  have fa : w.frozen? ⟨P, 8, none⟩ = false := row_free h.1 8
  have hP : P < w.heap.size := World.block_lt_of_cell? w _ ra
  have H := Lib.hid h
  have ia : (a : Int) < 8 := by omega
  obtain ⟨z, hz⟩ : ∃ z, z = R.getD a 0 := ⟨_, rfl⟩
  rw [← hz] at ra ⊢
  have HK := Lib.hid (fun w' => ifar_any o a b c w' hb hc)
  have hr := farI_range b c hb hc
  generalize farI (b + 256 * c) = f at HK hr ⊢
  obtain ⟨hr1, hr2⟩ := hr
  obtain ⟨hp1, hp2⟩ := hp
  have hju := jump_to_some pc f ⟨hr1, hr2⟩
  have HJ := Lib.hid hju
  clear hz h hb hc hju
  have key : ∀ (T : Bool), (z == 0) = T → Calls Tryd.prog 50 #[.pointer (some ⟨P, 0, none⟩), .agg #[.int .u8 o, .int .u8 a, .int .u8 b, .int .u8 c]] w (DoP w P R (if !T then (pc + 4 * f) % 1048576 else pc) mv root st) := by
    intro T hT
    have hT2 : (z != 0) = !T := by rw [← hT]; rfl
    go_enter Tryd.func50, Tryd.ntmps50
    go_upto_region 1 with (fail)
    go_quiet (fail)
    have hm1 : Mod No w ((w.alloc (.cells #[.int .u8 o, .int .u8 a, .int .u8 b, .int .u8 c] 63)).drewN nq) := ((Mod.refl No w).alloc _).drewN nq
    have hB : ((w.alloc (.cells #[.int .u8 o, .int .u8 a, .int .u8 b, .int .u8 c] 63)).drewN nq).heap[w.heap.size]? = some (.cells ([.int .u8 o, .int .u8 a, .int .u8 b, .int .u8 c] : List Value).toArray 63 (0, 0)) := heap_alloc_new w _
    have hne : P ≠ w.heap.size := by omega
    generalize (w.alloc (.cells #[.int .u8 o, .int .u8 a, .int .u8 b, .int .u8 c] 63)).drewN nq = w1 at hm1 hB ⊢
    generalize w.heap.size = bx at hB hne ⊢
    have H1 := Lib.hid (H.out.kept hm1 (fun q => q))
    have HB := Lib.hid hB
    have HS : Hid (∀ w2, Mod No w1 w2 → (w2.cell? ⟨bx, 0, none⟩ = some (.int .u8 o) ∧ w2.cell? ⟨bx, 1, none⟩ = some (.int .u8 a) ∧ w2.cell? ⟨bx, 2, none⟩ = some (.int .u8 b) ∧ w2.cell? ⟨bx, 3, none⟩ = some (.int .u8 c)) ∧ w2.cell? ⟨P, 8, none⟩ = some (.int .u32 pc) ∧ w2.frozen? ⟨P, 8, none⟩ = false) := fun w2 hm => ⟨⟨row_cell (hm.blk HB.out (fun q => q)) 0, row_cell (hm.blk HB.out (fun q => q)) 1, row_cell (hm.blk HB.out (fun q => q)) 2, row_cell (hm.blk HB.out (fun q => q)) 3⟩,
      (H1.out.kept hm (fun q => q)).rest 0, row_free (H1.out.kept hm (fun q => q)).1 8⟩
    have HM1 := Lib.hid hm1
    have hP1 : P < w1.heap.size := Nat.lt_of_lt_of_le hP hm1.size
    clear ra rp fa hP hm1 hB H
    obtain ⟨⟨u0, u1, u2, u3⟩, u4, u5⟩ := HS.out w1 (Mod.refl No w1)
    cases T with
    | true =>
      go_wp2
      go_end0
      exact ⟨rfl, H1.out, HM1.out.of_no⟩
    | false =>
      go_upto_region 2 with (fail)
      go_region_with (go_at_call 59; refine (HK.out _).mono ?_; rintro e w2 ⟨rfl, hm2⟩; obtain ⟨⟨v0, v1, v2, v3⟩, v4, v5⟩ := HS.out w2 ((Mod.refl No w1).drew.trans hm2); have hP2 : P < w2.heap.size := World.block_lt_of_cell? w2 _ v4; have HM2 := Lib.hid ((Mod.refl No w1).drew.trans hm2); clear hm2)
      all_goals go_end0
      all_goals rw [HJ.out]
      all_goals exact ⟨rfl, (H1.out.kept HM2.out (fun q => q)).pcSet _, (((HM1.out.trans HM2.out).of_no).trans (mod_at 8 _))⟩
  have := key (z == 0) rfl
  simpa using this

end Go.Proofs.YtlbebneblmgdcaaDoor
