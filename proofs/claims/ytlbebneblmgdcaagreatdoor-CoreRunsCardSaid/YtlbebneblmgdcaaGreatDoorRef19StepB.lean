/- tenementref19.Step: an instruction that is good. (Printed by wip/gen_rstep2.py.) -/
import Derived.Test.YtlbebneblmgdcaaGreatDoorRef19Step
import Derived.RegionTactic
import Derived.StillTailTactics
import Derived.ChangeAlike
namespace Go.Proofs.YtlbebneblmgdcaaGreatDoor
open Go.RowKit
set_option maxRecDepth 100000

/-- The blocks of the document's Step behind its checks. -/
structure RS4 (K : RfK) (w wr : World) (b0 b1 b2 b3 b4 : Nat) (A0 A4 : List Value) (S : List Fr) (r0 r1 r2 r3 r4 r5 r6 r7 r8 : Int) : Prop where
  m : Mod K.inn w wr
  r : RfM wr K S
  h0 : wr.heap[b0]? = some (.cells A0.toArray 26 (0, 0))
  h1 : wr.heap[b1]? = some (.cells ([.int .u32 0, .int .u32 0, .int .u32 0, .int .u32 0, .int .u32 0, .int .u32 0, .int .u32 0, .int .u32 0, .int .u32 0] : List Value).toArray 26 (0, 0))
  h2 : wr.heap[b2]? = some (.cells ([.int .i64 0, .int .u32 0, .int .u32 0, .int .u32 0, .int .u32 0, .int .u32 0, .int .u32 0, .int .i64 0] : List Value).toArray 34 (0, 0))
  h3 : wr.heap[b3]? = some (.cells ([.int .u32 r0, .int .u32 r1, .int .u32 r2, .int .u32 r3, .int .u32 r4, .int .u32 r5, .int .u32 r6, .int .u32 r7, .int .u32 r8] : List Value).toArray 26 (0, 0))
  h4 : wr.heap[b4]? = some (.cells A4.toArray 34 (0, 0))
  l0 : w.heap.size ≤ b0
  l1 : b0 < b1
  l2 : b1 < b2
  l3 : b2 < b3
  l4 : b3 < b4
  lK : ∀ k, K.has k → k < w.heap.size
theorem rs4_made {K : RfK} {S : List Fr} {w w2 : World} {b0 b1 b2 : Nat} {r0 r1 r2 r3 r4 r5 r6 r7 r8 : Int} (h : RSt w w2 b0 b1 b2 r0 r1 r2 r3 r4 r5 r6 r7 r8) (hm : RfM w K S) (hlK : ∀ k, K.has k → k < w.heap.size) :
    RS4 K w ((w2.alloc (.cells #[.int .u32 r0, .int .u32 r1, .int .u32 r2, .int .u32 r3, .int .u32 r4, .int .u32 r5, .int .u32 r6, .int .u32 r7, .int .u32 r8] 26)).alloc (.cells #[.int .i64 0, .int .u32 0, .int .u32 0, .int .u32 0, .int .u32 0, .int .u32 0, .int .u32 0, .int .i64 0] 34)).drew b0 b1 b2 w2.heap.size (w2.heap.size + 1) [.int .u32 r0, .int .u32 r1, .int .u32 r2, .int .u32 r3, .int .u32 r4, .int .u32 r5, .int .u32 r6, .int .u32 r7, .int .u32 r8] [.int .i64 0, .int .u32 0, .int .u32 0, .int .u32 0, .int .u32 0, .int .u32 0, .int .u32 0, .int .i64 0] S r0 r1 r2 r3 r4 r5 r6 r7 r8 := by
  obtain ⟨m, h0, h1, h2, l0, l1, l2⟩ := h
  have hk : Mod No w2 ((w2.alloc (.cells #[.int .u32 r0, .int .u32 r1, .int .u32 r2, .int .u32 r3, .int .u32 r4, .int .u32 r5, .int .u32 r6, .int .u32 r7, .int .u32 r8] 26)).alloc (.cells #[.int .i64 0, .int .u32 0, .int .u32 0, .int .u32 0, .int .u32 0, .int .u32 0, .int .u32 0, .int .i64 0] 34)).drew := (((Mod.refl No w2).alloc _).alloc _).drew
  refine ⟨(m.trans hk).of_no, hm.keptNo (m.trans hk), hk.blk h0 (fun q => q), hk.blk h1 (fun q => q), hk.blk h2 (fun q => q), blk_alloc (heap_alloc_new w2 _) _, ?_, l0, l1, l2, lt_of_blk h2, by omega, hlK⟩
  have := heap_alloc_new (w2.alloc (.cells #[.int .u32 r0, .int .u32 r1, .int .u32 r2, .int .u32 r3, .int .u32 r4, .int .u32 r5, .int .u32 r6, .int .u32 r7, .int .u32 r8] 26)) (.cells #[.int .i64 0, .int .u32 0, .int .u32 0, .int .u32 0, .int .u32 0, .int .u32 0, .int .u32 0, .int .i64 0] 34)
  rwa [World.size_alloc] at this
theorem RS4.put0 {K : RfK} {S : List Fr} {w w1 w2 : World} {b0 b1 b2 b3 b4 : Nat} {A0 A4 A0' : List Value} {r0 r1 r2 r3 r4 r5 r6 r7 r8 : Int} (h : RS4 K w w1 b0 b1 b2 b3 b4 A0 A4 S r0 r1 r2 r3 r4 r5 r6 r7 r8) (hm : Mod (fun k => k = b0) w1 w2) (h0 : w2.heap[b0]? = some (.cells A0'.toArray 26 (0, 0))) :
    RS4 K w w2 b0 b1 b2 b3 b4 A0' A4 S r0 r1 r2 r3 r4 r5 r6 r7 r8 := by
  obtain ⟨m, r, _, h1, h2, h3, h4, l0, l1, l2, l3, l4, lK⟩ := h
  exact ⟨m.step hm (fun i hi q => by omega), r.kept hm (fun k hk q => by have := lK k hk; omega), h0, hm.blk h1 (by omega), hm.blk h2 (by omega), hm.blk h3 (by omega), hm.blk h4 (by omega), l0, l1, l2, l3, l4, lK⟩
theorem RS4.put4 {K : RfK} {S : List Fr} {w w1 w2 : World} {b0 b1 b2 b3 b4 : Nat} {A0 A4 A4' : List Value} {r0 r1 r2 r3 r4 r5 r6 r7 r8 : Int} (h : RS4 K w w1 b0 b1 b2 b3 b4 A0 A4 S r0 r1 r2 r3 r4 r5 r6 r7 r8) (hm : Mod (fun k => k = b4) w1 w2) (h4 : w2.heap[b4]? = some (.cells A4'.toArray 34 (0, 0))) :
    RS4 K w w2 b0 b1 b2 b3 b4 A0 A4' S r0 r1 r2 r3 r4 r5 r6 r7 r8 := by
  obtain ⟨m, r, h0, h1, h2, h3, _, l0, l1, l2, l3, l4, lK⟩ := h
  exact ⟨m.step hm (fun i hi q => by omega), r.kept hm (fun k hk q => by have := lK k hk; omega), hm.blk h0 (by omega), hm.blk h1 (by omega), hm.blk h2 (by omega), hm.blk h3 (by omega), h4, l0, l1, l2, l3, l4, lK⟩
theorem RS4.kept {K : RfK} {S : List Fr} {w w1 w2 : World} {b0 b1 b2 b3 b4 : Nat} {A0 A4 : List Value} {r0 r1 r2 r3 r4 r5 r6 r7 r8 : Int} (h : RS4 K w w1 b0 b1 b2 b3 b4 A0 A4 S r0 r1 r2 r3 r4 r5 r6 r7 r8) (hm : Mod No w1 w2) : RS4 K w w2 b0 b1 b2 b3 b4 A0 A4 S r0 r1 r2 r3 r4 r5 r6 r7 r8 := by
  obtain ⟨m, r, h0, h1, h2, h3, h4, l0, l1, l2, l3, l4, lK⟩ := h
  exact ⟨m.trans hm.of_no, r.keptNo hm, hm.blk h0 (fun q => q), hm.blk h1 (fun q => q), hm.blk h2 (fun q => q), hm.blk h3 (fun q => q), hm.blk h4 (fun q => q), l0, l1, l2, l3, l4, lK⟩
theorem RS4.keptK {K : RfK} {S S' : List Fr} {w w1 w2 : World} {b0 b1 b2 b3 b4 : Nat} {A0 A4 : List Value} {r0 r1 r2 r3 r4 r5 r6 r7 r8 : Int} (h : RS4 K w w1 b0 b1 b2 b3 b4 A0 A4 S r0 r1 r2 r3 r4 r5 r6 r7 r8) (hm : Mod K.inn w1 w2) (hr : RfM w2 K S') : RS4 K w w2 b0 b1 b2 b3 b4 A0 A4 S' r0 r1 r2 r3 r4 r5 r6 r7 r8 := by
  obtain ⟨m, r, h0, h1, h2, h3, h4, l0, l1, l2, l3, l4, lK⟩ := h
  exact ⟨m.trans hm, hr, hm.blk h0 (fun q => by have := lK _ (RfK.inn_has q); omega), hm.blk h1 (fun q => by have := lK _ (RfK.inn_has q); omega), hm.blk h2 (fun q => by have := lK _ (RfK.inn_has q); omega), hm.blk h3 (fun q => by have := lK _ (RfK.inn_has q); omega), hm.blk h4 (fun q => by have := lK _ (RfK.inn_has q); omega), l0, l1, l2, l3, l4, lK⟩
theorem doR_plain (S : List Fr) (root : Int) (R : List Int) (pc : Int) (o : Int) (a b c : Nat) (ho : 4 ≤ o ∧ o ≤ 12) : doR S root R pc o a b c = ⟨R.set a (opR o (R.getD b 0) (R.getD c 0)), pc, goesS, S⟩ := by
  unfold doR
  rw [if_neg (by omega), if_neg (by omega), if_neg (by omega), if_neg (by omega), if_pos (by omega)]
  rfl
theorem blk_drew' {w : World} {b : Nat} {o : Option Obj} (h : w.heap[b]? = o) : w.drew.heap[b]? = o := h
theorem cells_on {w w' : World} {Q : Nat → Prop} (hm : Mod Q w w') {b j : Nat} {v : Value} (h : w.cell? ⟨b, j, none⟩ = some v) (hq : ¬ Q b) : w'.cell? ⟨b, j, none⟩ = some v :=
  (World.cell?_of_block (w := w) (hm.block b (World.block_lt_of_cell? w _ h) hq)).trans h
/-- The four bytes, where they stand. -/
def By4 (w : World) (g off : Nat) (o a b c : Int) : Prop := w.cell? ⟨g, off, none⟩ = some (.int .u8 o) ∧ w.cell? ⟨g, off + 1, none⟩ = some (.int .u8 a) ∧ w.cell? ⟨g, off + 2, none⟩ = some (.int .u8 b) ∧ w.cell? ⟨g, off + 3, none⟩ = some (.int .u8 c)
theorem By4.on {w w' : World} {Q : Nat → Prop} {g off : Nat} {o a b c : Int} (h : By4 w g off o a b c) (hm : Mod Q w w') (hq : ¬ Q g) : By4 w' g off o a b c :=
  ⟨cells_on hm h.1 hq, cells_on hm h.2.1 hq, cells_on hm h.2.2.1 hq, cells_on hm h.2.2.2 hq⟩
theorem Mod.put' {Q : Nat → Prop} {a w : World} (h : Mod Q a w) {b : Nat} (hb : Q b) (j : Nat) (v : Value) : Mod Q a (w.setCell ⟨b, j, none⟩ v) := h.setCell (p := ⟨b, j, none⟩) (fun _ => hb) v

end Go.Proofs.YtlbebneblmgdcaaGreatDoor
