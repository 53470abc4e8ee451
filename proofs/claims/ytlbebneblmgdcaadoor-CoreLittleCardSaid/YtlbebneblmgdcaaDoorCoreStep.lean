/- core.Step: one instruction. (Printed by wip/gen_step.py.) -/
import Derived.Test.YtlbebneblmgdcaaDoorCoreAny
import Derived.WalkMore
import Derived.ScopeJumps
namespace Go.Proofs.YtlbebneblmgdcaaDoor
open Go.RowKit
set_option maxRecDepth 100000

/-- A scope in which the run jumps on to one label, or does not. -/
theorem wp_scope_on {P : Program} {a : Act} {w : World} {Q : Exit → Act → World → Prop} {c rest : Code} (l : Nat) (hf : findLabel c l = some rest)
    (first : c.wp P (Exit.jump l (fun a w => rest.wp P (Exit.noGoto Q) a w) Q) a w) : (Code.scope c).wp P Q a w := by
  refine wp_scope_jumps l _ (fun _ _ => 0) hf first (fun a w hJ => Code.wp_mono (fun e a w h => ?_) hJ)
  cases e with
  | goto l' => exact (h : False).elim
  | _ => exact h

/-- One instruction's bytes, as they were fetched, at work. -/
def workR (S : List Fr) (root : Int) (R : List Int) (pc : Int) (o a b c : Int) : Out :=
  if 20 < o then ⟨R, pc, faultS 191, S⟩
  else if (1 ≤ namedR o ∧ 7 < a) ∨ (2 ≤ namedR o ∧ 7 < b) ∨ (3 ≤ namedR o ∧ 7 < c) then ⟨R, pc, faultS 191, S⟩
  else if (doR S root R ((pc + 4) % 1048576) o a b c).s.k = 3 ∨ (doR S root R ((pc + 4) % 1048576) o a b c).s.k = 1
    then ⟨R, pc, (doR S root R ((pc + 4) % 1048576) o a b c).s, (doR S root R ((pc + 4) % 1048576) o a b c).S⟩
  else doR S root R ((pc + 4) % 1048576) o a b c
/-- One instruction. -/
def stepR (S : List Fr) (root : Int) (R : List Int) (pc : Int) : Out :=
  if (fetchR S root pc 4).1 ≠ 0 then ⟨R, pc, faultS 190, S⟩
  else workR S root R pc ((fetchR S root pc 4).2.getD 0 0) ((fetchR S root pc 4).2.getD 1 0) ((fetchR S root pc 4).2.getD 2 0) ((fetchR S root pc 4).2.getD 3 0)

/-- A cpu's value. -/
def cpuV (R : List Int) (pc : Int) : Value := .agg (R.map (Value.int .u32) ++ [Value.int .u32 pc]).toArray

def StepPost (B F : Nat) (o : Out) (w : World) (e : Ending) (w' : World) : Prop :=
  e = .returned (.tuple #[cpuV o.R o.pc, .agg o.s.L.toArray]) ∧ Mod (One F) w w' ∧ PhM w' B F o.S

structure StepW (w w1 : World) (b0 b1 b2 b3 : Nat) (r0 r1 r2 r3 r4 r5 r6 r7 r8 : Int) (I : List Value) : Prop where
  m : Mod No w w1
  h0 : w1.heap[b0]? = some (.cells ([.int .u32 r0, .int .u32 r1, .int .u32 r2, .int .u32 r3, .int .u32 r4, .int .u32 r5, .int .u32 r6, .int .u32 r7, .int .u32 r8] : List Value).toArray 26 (0, 0))
  h1 : w1.heap[b1]? = some (.cells ([.int .u32 0, .int .u32 0, .int .u32 0, .int .u32 0, .int .u32 0, .int .u32 0, .int .u32 0, .int .u32 0, .int .u32 0] : List Value).toArray 26 (0, 0))
  h2 : w1.heap[b2]? = some (.cells ([.int .i64 0, .int .u32 0, .int .u32 0, .int .u32 0, .int .u32 0, .int .u32 0, .int .u32 0, .int .i64 0] : List Value).toArray 34 (0, 0))
  h3 : w1.heap[b3]? = some (.cells I.toArray 63 (0, 0))
  l0 : w.heap.size ≤ b0
  l1 : b0 < b1
  l2 : b1 < b2
  l3 : b2 < b3
structure StepR (w1 : World) (b0 b1 b2 b3 : Nat) (r0 r1 r2 r3 r4 r5 r6 r7 r8 : Int) (I : List Value) (w : World) : Prop where
  h0 : w1.heap[b0]? = some (.cells ([.int .u32 r0, .int .u32 r1, .int .u32 r2, .int .u32 r3, .int .u32 r4, .int .u32 r5, .int .u32 r6, .int .u32 r7, .int .u32 r8] : List Value).toArray 26 (0, 0))
  h1 : w1.heap[b1]? = some (.cells ([.int .u32 0, .int .u32 0, .int .u32 0, .int .u32 0, .int .u32 0, .int .u32 0, .int .u32 0, .int .u32 0, .int .u32 0] : List Value).toArray 26 (0, 0))
  h2 : w1.heap[b2]? = some (.cells ([.int .i64 0, .int .u32 0, .int .u32 0, .int .u32 0, .int .u32 0, .int .u32 0, .int .u32 0, .int .i64 0] : List Value).toArray 34 (0, 0))
  h3 : w1.heap[b3]? = some (.cells I.toArray 63 (0, 0))
  l0 : w.heap.size ≤ b0
  l1 : b0 < b1
  l2 : b1 < b2
  l3 : b2 < b3
theorem stepW_made (w : World) (r0 r1 r2 r3 r4 r5 r6 r7 r8 : Int) : StepW w ((((w.alloc (.cells #[.int .u32 r0, .int .u32 r1, .int .u32 r2, .int .u32 r3, .int .u32 r4, .int .u32 r5, .int .u32 r6, .int .u32 r7, .int .u32 r8] 26)).alloc (.cells #[.int .u32 0, .int .u32 0, .int .u32 0, .int .u32 0, .int .u32 0, .int .u32 0, .int .u32 0, .int .u32 0, .int .u32 0] 26)).alloc (.cells #[.int .i64 0, .int .u32 0, .int .u32 0, .int .u32 0, .int .u32 0, .int .u32 0, .int .u32 0, .int .i64 0] 34)).alloc (.cells #[.int .u8 0, .int .u8 0, .int .u8 0, .int .u8 0] 63)) w.heap.size (w.heap.size + 1) (w.heap.size + 1 + 1) (w.heap.size + 1 + 1 + 1) r0 r1 r2 r3 r4 r5 r6 r7 r8 [.int .u8 0, .int .u8 0, .int .u8 0, .int .u8 0] := by
  refine ⟨by repeat (first | exact Mod.refl _ _ | apply Mod.alloc), blk_alloc (blk_alloc (blk_alloc (heap_alloc_new w _) _) _) _, ?_, ?_, ?_, Nat.le_refl _, by omega, by omega, by omega⟩
  · have := blk_alloc (blk_alloc (heap_alloc_new (w.alloc (.cells #[.int .u32 r0, .int .u32 r1, .int .u32 r2, .int .u32 r3, .int .u32 r4, .int .u32 r5, .int .u32 r6, .int .u32 r7, .int .u32 r8] 26)) (.cells #[.int .u32 0, .int .u32 0, .int .u32 0, .int .u32 0, .int .u32 0, .int .u32 0, .int .u32 0, .int .u32 0, .int .u32 0] 26)) (.cells #[.int .i64 0, .int .u32 0, .int .u32 0, .int .u32 0, .int .u32 0, .int .u32 0, .int .u32 0, .int .i64 0] 34)) (.cells #[.int .u8 0, .int .u8 0, .int .u8 0, .int .u8 0] 63)
    rwa [World.size_alloc] at this
  · have := blk_alloc (heap_alloc_new ((w.alloc (.cells #[.int .u32 r0, .int .u32 r1, .int .u32 r2, .int .u32 r3, .int .u32 r4, .int .u32 r5, .int .u32 r6, .int .u32 r7, .int .u32 r8] 26)).alloc (.cells #[.int .u32 0, .int .u32 0, .int .u32 0, .int .u32 0, .int .u32 0, .int .u32 0, .int .u32 0, .int .u32 0, .int .u32 0] 26)) (.cells #[.int .i64 0, .int .u32 0, .int .u32 0, .int .u32 0, .int .u32 0, .int .u32 0, .int .u32 0, .int .i64 0] 34)) (.cells #[.int .u8 0, .int .u8 0, .int .u8 0, .int .u8 0] 63)
    rwa [World.size_alloc, World.size_alloc] at this
  · have := heap_alloc_new (((w.alloc (.cells #[.int .u32 r0, .int .u32 r1, .int .u32 r2, .int .u32 r3, .int .u32 r4, .int .u32 r5, .int .u32 r6, .int .u32 r7, .int .u32 r8] 26)).alloc (.cells #[.int .u32 0, .int .u32 0, .int .u32 0, .int .u32 0, .int .u32 0, .int .u32 0, .int .u32 0, .int .u32 0, .int .u32 0] 26)).alloc (.cells #[.int .i64 0, .int .u32 0, .int .u32 0, .int .u32 0, .int .u32 0, .int .u32 0, .int .u32 0, .int .i64 0] 34)) (.cells #[.int .u8 0, .int .u8 0, .int .u8 0, .int .u8 0] 63)
    rwa [World.size_alloc, World.size_alloc, World.size_alloc] at this
theorem StepW.kept {w w1 w2 : World} {b0 b1 b2 b3 : Nat} {r0 r1 r2 r3 r4 r5 r6 r7 r8 : Int} {I : List Value} (h : StepW w w1 b0 b1 b2 b3 r0 r1 r2 r3 r4 r5 r6 r7 r8 I) (hm : Mod No w1 w2) : StepW w w2 b0 b1 b2 b3 r0 r1 r2 r3 r4 r5 r6 r7 r8 I :=
  ⟨h.m.trans hm, hm.blk h.h0 (fun q => q), hm.blk h.h1 (fun q => q), hm.blk h.h2 (fun q => q), hm.blk h.h3 (fun q => q), h.l0, h.l1, h.l2, h.l3⟩

theorem set9 {w : World} {b : Nat} {L : List Value} {T : TypeId} (h : w.heap[b]? = some (.cells L.toArray T (0, 0))) (hl : L.length = 9) (v0 v1 v2 v3 v4 v5 v6 v7 v8 : Value) :
    (((((((((w.setCell ⟨b, 0, none⟩ v0).setCell ⟨b, 1, none⟩ v1).setCell ⟨b, 2, none⟩ v2).setCell ⟨b, 3, none⟩ v3).setCell ⟨b, 4, none⟩ v4).setCell ⟨b, 5, none⟩ v5).setCell ⟨b, 6, none⟩ v6).setCell ⟨b, 7, none⟩ v7).setCell ⟨b, 8, none⟩ v8).heap[b]? = some (.cells ([v0, v1, v2, v3, v4, v5, v6, v7, v8] : List Value).toArray T (0, 0)) := by
  match L, hl with
  | [_, _, _, _, _, _, _, _, _], _ => exact row_set (row_set (row_set (row_set (row_set (row_set (row_set (row_set (row_set h 0 v0) 1 v1) 2 v2) 3 v3) 4 v4) 5 v5) 6 v6) 7 v7) 8 v8
theorem set8 {w : World} {b : Nat} {L : List Value} {T : TypeId} (h : w.heap[b]? = some (.cells L.toArray T (0, 0))) (hl : L.length = 8) (v0 v1 v2 v3 v4 v5 v6 v7 : Value) :
    ((((((((w.setCell ⟨b, 0, none⟩ v0).setCell ⟨b, 1, none⟩ v1).setCell ⟨b, 2, none⟩ v2).setCell ⟨b, 3, none⟩ v3).setCell ⟨b, 4, none⟩ v4).setCell ⟨b, 5, none⟩ v5).setCell ⟨b, 6, none⟩ v6).setCell ⟨b, 7, none⟩ v7).heap[b]? = some (.cells ([v0, v1, v2, v3, v4, v5, v6, v7] : List Value).toArray T (0, 0)) := by
  match L, hl with
  | [_, _, _, _, _, _, _, _], _ => exact row_set (row_set (row_set (row_set (row_set (row_set (row_set (row_set h 0 v0) 1 v1) 2 v2) 3 v3) 4 v4) 5 v5) 6 v6) 7 v7
theorem cells_at {w w' : World} (hm : Mod No w w') {b j : Nat} {v : Value} (h : w.cell? ⟨b, j, none⟩ = some v) : w'.cell? ⟨b, j, none⟩ = some v := (World.cell?_of_block (w := w) (hm.block b (World.block_lt_of_cell? w _ h) (fun q => q))).trans h
theorem namedR_le (o : Int) : namedR o ≤ 3 := by
  unfold namedR
  repeat (first | omega | split)
theorem ops_look2 {w : World} {b n : Nat} (h : w.ownsMap Tryd.prog 5 fnElem b n (opsD 21)) (k fn : Nat) (hk : k < 21) (hfn : fn = opsFn.getD k 0) :
    (Instr.lookup 68 (.map (some b)) (.int .u8 k) true).run Tryd.prog w = .ok (.tuple #[.func (.func fn) #[] #[], .bool true]) w := by rw [hfn]; exact ops_look h k hk
theorem shape_field (w : World) (a b : Int) (k : Bool) : (Instr.field 71 (.agg #[.int .i64 a, .int .i64 b, .bool k]) 0).run Tryd.prog w = .ok (.int .i64 a) w := by
  simp [Instr.field, go_sem, asAgg]
theorem ops_call (k : Nat) (hk : k ≤ 20) (args : Array Value) (w : World) : (callFunc (opsFn.getD k 0) args).run Tryd.prog w = .ok (.enter (opsFn.getD k 0) args) w := by
  have hcases : k = 0 ∨ k = 1 ∨ k = 2 ∨ k = 3 ∨ k = 4 ∨ k = 5 ∨ k = 6 ∨ k = 7 ∨ k = 8 ∨ k = 9 ∨ k = 10 ∨ k = 11 ∨ k = 12 ∨ k = 13 ∨ k = 14 ∨ k = 15 ∨ k = 16 ∨ k = 17 ∨ k = 18 ∨ k = 19 ∨ k = 20 := by omega
  rcases hcases with rfl | rfl | rfl | rfl | rfl | rfl | rfl | rfl | rfl | rfl | rfl | rfl | rfl | rfl | rfl | rfl | rfl | rfl | rfl | rfl | rfl <;> simp [opsFn]
theorem mod_instr {w : World} {b : Nat} (v0 v1 v2 v3 : Value) : Mod (fun k => k = b) w (((((w.setCell ⟨b, 0, none⟩ v0).setCell ⟨b, 1, none⟩ v1).setCell ⟨b, 2, none⟩ v2).setCell ⟨b, 3, none⟩ v3).drew) := ((((mod_at 0 v0).trans (mod_at 1 v1)).trans (mod_at 2 v2)).trans (mod_at 3 v3)).drew
theorem StepW.instr {w w1 : World} {b0 b1 b2 b3 : Nat} {r0 r1 r2 r3 r4 r5 r6 r7 r8 : Int} (h : StepW w w1 b0 b1 b2 b3 r0 r1 r2 r3 r4 r5 r6 r7 r8 [.int .u8 0, .int .u8 0, .int .u8 0, .int .u8 0]) (o a b c : Int) :
    StepW w (((((w1.setCell ⟨b3, 0, none⟩ (.int .u8 o)).setCell ⟨b3, 1, none⟩ (.int .u8 a)).setCell ⟨b3, 2, none⟩ (.int .u8 b)).setCell ⟨b3, 3, none⟩ (.int .u8 c)).drew) b0 b1 b2 b3 r0 r1 r2 r3 r4 r5 r6 r7 r8 [.int .u8 o, .int .u8 a, .int .u8 b, .int .u8 c] := by
  have hmm := mod_instr (w := w1) (b := b3) (.int .u8 o) (.int .u8 a) (.int .u8 b) (.int .u8 c)
  obtain ⟨m, h0, h1, h2, h3, l0, l1, l2, l3⟩ := h
  refine ⟨m.step hmm (fun i hi q => ?_), hmm.blk h0 (fun q => ?_), hmm.blk h1 (fun q => ?_), hmm.blk h2 (fun q => ?_), row_set (row_set (row_set (row_set h3 0 _) 1 _) 2 _) 3 _, l0, l1, l2, l3⟩
  all_goals omega
theorem StepW.keptP {w w1 w2 : World} {b0 b1 b2 b3 P : Nat} {r0 r1 r2 r3 r4 r5 r6 r7 r8 : Int} {I : List Value} (h : StepW w w1 b0 b1 b2 b3 r0 r1 r2 r3 r4 r5 r6 r7 r8 I) (hm : Mod (fun k => k = P) w1 w2) (hb : b3 < P) : StepW w w2 b0 b1 b2 b3 r0 r1 r2 r3 r4 r5 r6 r7 r8 I := by
  obtain ⟨m, h0, h1, h2, h3, l0, l1, l2, l3⟩ := h
  refine ⟨m.step hm (fun i hi q => ?_), hm.blk h0 (fun q => ?_), hm.blk h1 (fun q => ?_), hm.blk h2 (fun q => ?_), hm.blk h3 (fun q => ?_), l0, l1, l2, l3⟩
  all_goals omega
theorem StepW.keptPF {w w1 w2 : World} {b0 b1 b2 b3 P F : Nat} {r0 r1 r2 r3 r4 r5 r6 r7 r8 : Int} {I : List Value} (h : StepW w w1 b0 b1 b2 b3 r0 r1 r2 r3 r4 r5 r6 r7 r8 I) (hm : Mod (fun k => k = P ∨ k = F) w1 w2) (hb : b3 < P) (hF : F < w.heap.size) : StepR w2 b0 b1 b2 b3 r0 r1 r2 r3 r4 r5 r6 r7 r8 I w := by
  obtain ⟨m, h0, h1, h2, h3, l0, l1, l2, l3⟩ := h
  refine ⟨hm.blk h0 (fun q => ?_), hm.blk h1 (fun q => ?_), hm.blk h2 (fun q => ?_), hm.blk h3 (fun q => ?_), l0, l1, l2, l3⟩
  all_goals omega
theorem Mod.put {Q : Nat → Prop} {a w : World} (h : Mod Q a w) {b : Nat} (hb : Q b) (j : Nat) (v : Value) : Mod Q a (w.setCell ⟨b, j, none⟩ v) := h.setCell (p := ⟨b, j, none⟩) (fun _ => hb) v
theorem Mod.new {P : Nat → Prop} {a w : World} (h : Mod P a w) {b : Nat} (hb : a.heap.size ≤ b) (j : Nat) (v : Value) : Mod P a (w.setCell ⟨b, j, none⟩ v) := h.setCell (p := ⟨b, j, none⟩) (fun q => absurd (show b < a.heap.size from q) (Nat.not_lt.2 hb)) v

set_option maxHeartbeats 8000000 in
theorem step_1 {B F : Nat} {S : List Fr} (root r0 r1 r2 r3 r4 r5 r6 r7 r8 : Int) (w : World) (hm : PhM w B F S) (h8 : 0 ≤ r8 ∧ r8 ≤ 4294967295) (he : (fetchR S root r8 4).1 ≠ 0) :
    Calls Tryd.prog 6 #[.pointer (some ⟨B, 0, none⟩), .int .i64 root, .agg #[.int .u32 r0, .int .u32 r1, .int .u32 r2, .int .u32 r3, .int .u32 r4, .int .u32 r5, .int .u32 r6, .int .u32 r7, .int .u32 r8]] w (StepPost B F ⟨[r0, r1, r2, r3, r4, r5, r6, r7], r8, faultS 190, S⟩ w) := by
  have HFE : Hid (∀ w' , Mod No w w' → Calls Tryd.prog 17 #[.pointer (some ⟨B, 0, none⟩), .int .i64 root, .int .u32 r8, .int .i64 4] w' (OwnB w' (fetchR S root r8 4).1 (fetchR S root r8 4).2)) := fun w' hm' => pfetchR root r8 4 w' (hm.kept hm' (fun q => q) (fun q => q)) h8.1 h8.2 (by omega)
  have HM := Lib.hid hm
  generalize (fetchR S root r8 4).1 = er at HFE he
  generalize (fetchR S root r8 4).2 = bs at HFE
  have d1 : (er == 0) = false := beq_eq_false_iff_ne.2 he
  have d2 : (er != 0) = true := bne_iff_ne.2 he
  clear hm h8
  go_enter Tryd.func6, Tryd.ntmps6
  go_wp2
  refine wp_scope_on 0 rfl ?_
  go_upto_region 6 with (fail)
  have hwb := stepW_made w r0 r1 r2 r3 r4 r5 r6 r7 r8
  generalize ((((w.alloc (.cells #[.int .u32 r0, .int .u32 r1, .int .u32 r2, .int .u32 r3, .int .u32 r4, .int .u32 r5, .int .u32 r6, .int .u32 r7, .int .u32 r8] 26)).alloc (.cells #[.int .u32 0, .int .u32 0, .int .u32 0, .int .u32 0, .int .u32 0, .int .u32 0, .int .u32 0, .int .u32 0, .int .u32 0] 26)).alloc (.cells #[.int .i64 0, .int .u32 0, .int .u32 0, .int .u32 0, .int .u32 0, .int .u32 0, .int .u32 0, .int .i64 0] 34)).alloc (.cells #[.int .u8 0, .int .u8 0, .int .u8 0, .int .u8 0] 63)) = w1 at hwb ⊢
  generalize w.heap.size + 1 + 1 + 1 = b3 at hwb ⊢
  generalize w.heap.size + 1 + 1 = b2 at hwb ⊢
  generalize w.heap.size + 1 = b1 at hwb ⊢
  generalize w.heap.size = b0 at hwb ⊢
  have HW := Lib.hid hwb
  have x8 := row_cell hwb.h0 8
  simp only [List.getElem?_cons_zero, List.getElem?_cons_succ] at x8
  clear hwb
  go_wp2_with fail
  refine (HFE.out _ HW.out.m).mono ?_
  rintro e w2 ⟨q, k, c, rfl, hm2, hown⟩
  have HW2 := Lib.hid (HW.out.kept hm2)
  have HW1 := Lib.hid HW.out.h3
  have HOWN := Lib.hid hown
  clear x8 hm2 hown HW HFE
  have x0 := row_cell HW2.out.h0 0
  have x1 := row_cell HW2.out.h0 1
  have x2 := row_cell HW2.out.h0 2
  have x3 := row_cell HW2.out.h0 3
  have x4 := row_cell HW2.out.h0 4
  have x5 := row_cell HW2.out.h0 5
  have x6 := row_cell HW2.out.h0 6
  have x7 := row_cell HW2.out.h0 7
  have x8 := row_cell HW2.out.h0 8
  have y0 := row_cell HW2.out.h1 0
  have y1 := row_cell HW2.out.h1 1
  have y2 := row_cell HW2.out.h1 2
  have y3 := row_cell HW2.out.h1 3
  have y4 := row_cell HW2.out.h1 4
  have y5 := row_cell HW2.out.h1 5
  have y6 := row_cell HW2.out.h1 6
  have y7 := row_cell HW2.out.h1 7
  have y8 := row_cell HW2.out.h1 8
  have z0 := row_cell HW2.out.h2 0
  have z1 := row_cell HW2.out.h2 1
  have z2 := row_cell HW2.out.h2 2
  have z3 := row_cell HW2.out.h2 3
  have z4 := row_cell HW2.out.h2 4
  have z5 := row_cell HW2.out.h2 5
  have z6 := row_cell HW2.out.h2 6
  have z7 := row_cell HW2.out.h2 7
  have v0 := row_cell HW2.out.h3 0
  have v1 := row_cell HW2.out.h3 1
  have v2 := row_cell HW2.out.h3 2
  have v3 := row_cell HW2.out.h3 3
  simp only [List.getElem?_cons_zero, List.getElem?_cons_succ] at x0 x1 x2 x3 x4 x5 x6 x7 x8 y0 y1 y2 y3 y4 y5 y6 y7 y8 z0 z1 z2 z3 z4 z5 z6 z7 v0 v1 v2 v3
  have fy0 : w2.frozen? ⟨b1, 0, none⟩ = false := row_free HW2.out.h1 0
  have fy1 : w2.frozen? ⟨b1, 1, none⟩ = false := row_free HW2.out.h1 1
  have fy2 : w2.frozen? ⟨b1, 2, none⟩ = false := row_free HW2.out.h1 2
  have fy3 : w2.frozen? ⟨b1, 3, none⟩ = false := row_free HW2.out.h1 3
  have fy4 : w2.frozen? ⟨b1, 4, none⟩ = false := row_free HW2.out.h1 4
  have fy5 : w2.frozen? ⟨b1, 5, none⟩ = false := row_free HW2.out.h1 5
  have fy6 : w2.frozen? ⟨b1, 6, none⟩ = false := row_free HW2.out.h1 6
  have fy7 : w2.frozen? ⟨b1, 7, none⟩ = false := row_free HW2.out.h1 7
  have fy8 : w2.frozen? ⟨b1, 8, none⟩ = false := row_free HW2.out.h1 8
  have fz0 : w2.frozen? ⟨b2, 0, none⟩ = false := row_free HW2.out.h2 0
  have fz1 : w2.frozen? ⟨b2, 1, none⟩ = false := row_free HW2.out.h2 1
  have fz2 : w2.frozen? ⟨b2, 2, none⟩ = false := row_free HW2.out.h2 2
  have fz3 : w2.frozen? ⟨b2, 3, none⟩ = false := row_free HW2.out.h2 3
  have fz4 : w2.frozen? ⟨b2, 4, none⟩ = false := row_free HW2.out.h2 4
  have fz5 : w2.frozen? ⟨b2, 5, none⟩ = false := row_free HW2.out.h2 5
  have fz6 : w2.frozen? ⟨b2, 6, none⟩ = false := row_free HW2.out.h2 6
  have fz7 : w2.frozen? ⟨b2, 7, none⟩ = false := row_free HW2.out.h2 7
  have fv0 : w2.frozen? ⟨b3, 0, none⟩ = false := row_free HW2.out.h3 0
  have fv1 : w2.frozen? ⟨b3, 1, none⟩ = false := row_free HW2.out.h3 1
  have fv2 : w2.frozen? ⟨b3, 2, none⟩ = false := row_free HW2.out.h3 2
  have fv3 : w2.frozen? ⟨b3, 3, none⟩ = false := row_free HW2.out.h3 3
  have p1 : b1 < w2.heap.size := lt_of_blk HW2.out.h1
  have p2 : b2 < w2.heap.size := lt_of_blk HW2.out.h2
  have p3 : b3 < w2.heap.size := lt_of_blk HW2.out.h3
  have n01 : b0 ≠ b1 := by have := HW2.out.l1; omega
  have n02 : b0 ≠ b2 := by have := HW2.out.l1; have := HW2.out.l2; omega
  have n12 : b1 ≠ b2 := by have := HW2.out.l2; omega
  go_wp2
  go_step3
  refine ⟨rfl, ?_⟩
  go_wp2
  have hE1 : (((((((((((((((((w2.setCell ⟨b1, 0, none⟩ (.int .u32 r0)).setCell ⟨b1, 1, none⟩ (.int .u32 r1)).setCell ⟨b1, 2, none⟩ (.int .u32 r2)).setCell ⟨b1, 3, none⟩ (.int .u32 r3)).setCell ⟨b1, 4, none⟩ (.int .u32 r4)).setCell ⟨b1, 5, none⟩ (.int .u32 r5)).setCell ⟨b1, 6, none⟩ (.int .u32 r6)).setCell ⟨b1, 7, none⟩ (.int .u32 r7)).setCell ⟨b1, 8, none⟩ (.int .u32 r8)).setCell ⟨b2, 0, none⟩ (.int .i64 3)).setCell ⟨b2, 1, none⟩ (.int .u32 0)).setCell ⟨b2, 2, none⟩ (.int .u32 0)).setCell ⟨b2, 3, none⟩ (.int .u32 0)).setCell ⟨b2, 4, none⟩ (.int .u32 0)).setCell ⟨b2, 5, none⟩ (.int .u32 0)).setCell ⟨b2, 6, none⟩ (.int .u32 0)).setCell ⟨b2, 7, none⟩ (.int .i64 190)).heap[b1]? = some (.cells ([.int .u32 r0, .int .u32 r1, .int .u32 r2, .int .u32 r3, .int .u32 r4, .int .u32 r5, .int .u32 r6, .int .u32 r7, .int .u32 r8] : List Value).toArray 26 (0, 0)) := by
    have h := set9 HW2.out.h1 rfl (.int .u32 r0) (.int .u32 r1) (.int .u32 r2) (.int .u32 r3) (.int .u32 r4) (.int .u32 r5) (.int .u32 r6) (.int .u32 r7) (.int .u32 r8)
    exact (blk_setCell (blk_setCell (blk_setCell (blk_setCell (blk_setCell (blk_setCell (blk_setCell (blk_setCell h n12 _) n12 _) n12 _) n12 _) n12 _) n12 _) n12 _) n12 _)
  have hE2 : (((((((((((((((((w2.setCell ⟨b1, 0, none⟩ (.int .u32 r0)).setCell ⟨b1, 1, none⟩ (.int .u32 r1)).setCell ⟨b1, 2, none⟩ (.int .u32 r2)).setCell ⟨b1, 3, none⟩ (.int .u32 r3)).setCell ⟨b1, 4, none⟩ (.int .u32 r4)).setCell ⟨b1, 5, none⟩ (.int .u32 r5)).setCell ⟨b1, 6, none⟩ (.int .u32 r6)).setCell ⟨b1, 7, none⟩ (.int .u32 r7)).setCell ⟨b1, 8, none⟩ (.int .u32 r8)).setCell ⟨b2, 0, none⟩ (.int .i64 3)).setCell ⟨b2, 1, none⟩ (.int .u32 0)).setCell ⟨b2, 2, none⟩ (.int .u32 0)).setCell ⟨b2, 3, none⟩ (.int .u32 0)).setCell ⟨b2, 4, none⟩ (.int .u32 0)).setCell ⟨b2, 5, none⟩ (.int .u32 0)).setCell ⟨b2, 6, none⟩ (.int .u32 0)).setCell ⟨b2, 7, none⟩ (.int .i64 190)).heap[b2]? = some (.cells ([.int .i64 3, .int .u32 0, .int .u32 0, .int .u32 0, .int .u32 0, .int .u32 0, .int .u32 0, .int .i64 190] : List Value).toArray 34 (0, 0)) := by
    refine set8 (w := (((((((((w2.setCell ⟨b1, 0, none⟩ (.int .u32 r0)).setCell ⟨b1, 1, none⟩ (.int .u32 r1)).setCell ⟨b1, 2, none⟩ (.int .u32 r2)).setCell ⟨b1, 3, none⟩ (.int .u32 r3)).setCell ⟨b1, 4, none⟩ (.int .u32 r4)).setCell ⟨b1, 5, none⟩ (.int .u32 r5)).setCell ⟨b1, 6, none⟩ (.int .u32 r6)).setCell ⟨b1, 7, none⟩ (.int .u32 r7)).setCell ⟨b1, 8, none⟩ (.int .u32 r8))) (L := [.int .i64 0, .int .u32 0, .int .u32 0, .int .u32 0, .int .u32 0, .int .u32 0, .int .u32 0, .int .i64 0]) ?_ rfl (.int .i64 3) (.int .u32 0) (.int .u32 0) (.int .u32 0) (.int .u32 0) (.int .u32 0) (.int .u32 0) (.int .i64 190)
    exact (blk_setCell (blk_setCell (blk_setCell (blk_setCell (blk_setCell (blk_setCell (blk_setCell (blk_setCell (blk_setCell HW2.out.h2 n12.symm _) n12.symm _) n12.symm _) n12.symm _) n12.symm _) n12.symm _) n12.symm _) n12.symm _) n12.symm _)
  have hend : Mod No w (((((((((((((((((w2.setCell ⟨b1, 0, none⟩ (.int .u32 r0)).setCell ⟨b1, 1, none⟩ (.int .u32 r1)).setCell ⟨b1, 2, none⟩ (.int .u32 r2)).setCell ⟨b1, 3, none⟩ (.int .u32 r3)).setCell ⟨b1, 4, none⟩ (.int .u32 r4)).setCell ⟨b1, 5, none⟩ (.int .u32 r5)).setCell ⟨b1, 6, none⟩ (.int .u32 r6)).setCell ⟨b1, 7, none⟩ (.int .u32 r7)).setCell ⟨b1, 8, none⟩ (.int .u32 r8)).setCell ⟨b2, 0, none⟩ (.int .i64 3)).setCell ⟨b2, 1, none⟩ (.int .u32 0)).setCell ⟨b2, 2, none⟩ (.int .u32 0)).setCell ⟨b2, 3, none⟩ (.int .u32 0)).setCell ⟨b2, 4, none⟩ (.int .u32 0)).setCell ⟨b2, 5, none⟩ (.int .u32 0)).setCell ⟨b2, 6, none⟩ (.int .u32 0)).setCell ⟨b2, 7, none⟩ (.int .i64 190)) := by
    have hb1 : w.heap.size ≤ b1 := by have := HW2.out.l0; have := HW2.out.l1; omega
    have hb2 : w.heap.size ≤ b2 := by have := HW2.out.l2; omega
    exact (Mod.new (Mod.new (Mod.new (Mod.new (Mod.new (Mod.new (Mod.new (Mod.new (Mod.new (Mod.new (Mod.new (Mod.new (Mod.new (Mod.new (Mod.new (Mod.new (Mod.new HW2.out.m hb1 0 _) hb1 1 _) hb1 2 _) hb1 3 _) hb1 4 _) hb1 5 _) hb1 6 _) hb1 7 _) hb1 8 _) hb2 0 _) hb2 1 _) hb2 2 _) hb2 3 _) hb2 4 _) hb2 5 _) hb2 6 _) hb2 7 _)
  generalize (((((((((((((((((w2.setCell ⟨b1, 0, none⟩ (.int .u32 r0)).setCell ⟨b1, 1, none⟩ (.int .u32 r1)).setCell ⟨b1, 2, none⟩ (.int .u32 r2)).setCell ⟨b1, 3, none⟩ (.int .u32 r3)).setCell ⟨b1, 4, none⟩ (.int .u32 r4)).setCell ⟨b1, 5, none⟩ (.int .u32 r5)).setCell ⟨b1, 6, none⟩ (.int .u32 r6)).setCell ⟨b1, 7, none⟩ (.int .u32 r7)).setCell ⟨b1, 8, none⟩ (.int .u32 r8)).setCell ⟨b2, 0, none⟩ (.int .i64 3)).setCell ⟨b2, 1, none⟩ (.int .u32 0)).setCell ⟨b2, 2, none⟩ (.int .u32 0)).setCell ⟨b2, 3, none⟩ (.int .u32 0)).setCell ⟨b2, 4, none⟩ (.int .u32 0)).setCell ⟨b2, 5, none⟩ (.int .u32 0)).setCell ⟨b2, 6, none⟩ (.int .u32 0)).setCell ⟨b2, 7, none⟩ (.int .i64 190)) = wE at hE1 hE2 hend ⊢
  have e0 := row_cell hE1 0
  have e1 := row_cell hE1 1
  have e2 := row_cell hE1 2
  have e3 := row_cell hE1 3
  have e4 := row_cell hE1 4
  have e5 := row_cell hE1 5
  have e6 := row_cell hE1 6
  have e7 := row_cell hE1 7
  have e8 := row_cell hE1 8
  have g0 := row_cell hE2 0
  have g1 := row_cell hE2 1
  have g2 := row_cell hE2 2
  have g3 := row_cell hE2 3
  have g4 := row_cell hE2 4
  have g5 := row_cell hE2 5
  have g6 := row_cell hE2 6
  have g7 := row_cell hE2 7
  simp only [List.getElem?_cons_zero, List.getElem?_cons_succ] at e0 e1 e2 e3 e4 e5 e6 e7 e8 g0 g1 g2 g3 g4 g5 g6 g7
  rw [Exit.noGoto_ret]
  refine bodyPost_ret (v := .tuple #[cpuV [r0, r1, r2, r3, r4, r5, r6, r7] r8, .agg (faultS 190).L.toArray]) (by simp [results, Tryd.results6, go_sem, cpuV, faultS, Stp.L, stopL, e0, e1, e2, e3, e4, e5, e6, e7, e8, g0, g1, g2, g3, g4, g5, g6, g7]) rfl ?_
  exact ⟨rfl, hend.of_no, HM.out.kept hend (fun q => q) (fun q => q)⟩

set_option maxHeartbeats 8000000 in
theorem step_2 {B F : Nat} {S : List Fr} (root r0 r1 r2 r3 r4 r5 r6 r7 r8 : Int) (w : World) (hm : PhM w B F S) (h8 : 0 ≤ r8 ∧ r8 ≤ 4294967295) (o a b c' : Int) (he : (fetchR S root r8 4).1 = 0) (hbs : (fetchR S root r8 4).2 = [o, a, b, c']) (ho : 20 < o ∧ o ≤ 255) :
    Calls Tryd.prog 6 #[.pointer (some ⟨B, 0, none⟩), .int .i64 root, .agg #[.int .u32 r0, .int .u32 r1, .int .u32 r2, .int .u32 r3, .int .u32 r4, .int .u32 r5, .int .u32 r6, .int .u32 r7, .int .u32 r8]] w (StepPost B F ⟨[r0, r1, r2, r3, r4, r5, r6, r7], r8, faultS 191, S⟩ w) := by
  have HFE : Hid (∀ w' , Mod No w w' → Calls Tryd.prog 17 #[.pointer (some ⟨B, 0, none⟩), .int .i64 root, .int .u32 r8, .int .i64 4] w' (OwnB w' (fetchR S root r8 4).1 (fetchR S root r8 4).2)) := fun w' hm' => pfetchR root r8 4 w' (hm.kept hm' (fun q => q) (fun q => q)) h8.1 h8.2 (by omega)
  have HM := Lib.hid hm
  have HFR := Lib.hid (fetchR_range (root := root) (va := r8) (n := 4) hm.ok)
  have HFS : Hid ((fetchR S root r8 4).2.length ≤ 256) := Lib.hid fetchR_small
  rw [he] at HFE
  have HBS := Lib.hid hbs
  generalize (fetchR S root r8 4).2 = bs at HFE HFR HFS HBS
  clear he hbs
  clear hm h8
  go_enter Tryd.func6, Tryd.ntmps6
  go_wp2
  refine wp_scope_on 0 rfl ?_
  go_upto_region 6 with (fail)
  have hwb := stepW_made w r0 r1 r2 r3 r4 r5 r6 r7 r8
  generalize ((((w.alloc (.cells #[.int .u32 r0, .int .u32 r1, .int .u32 r2, .int .u32 r3, .int .u32 r4, .int .u32 r5, .int .u32 r6, .int .u32 r7, .int .u32 r8] 26)).alloc (.cells #[.int .u32 0, .int .u32 0, .int .u32 0, .int .u32 0, .int .u32 0, .int .u32 0, .int .u32 0, .int .u32 0, .int .u32 0] 26)).alloc (.cells #[.int .i64 0, .int .u32 0, .int .u32 0, .int .u32 0, .int .u32 0, .int .u32 0, .int .u32 0, .int .i64 0] 34)).alloc (.cells #[.int .u8 0, .int .u8 0, .int .u8 0, .int .u8 0] 63)) = w1 at hwb ⊢
  generalize w.heap.size + 1 + 1 + 1 = b3 at hwb ⊢
  generalize w.heap.size + 1 + 1 = b2 at hwb ⊢
  generalize w.heap.size + 1 = b1 at hwb ⊢
  generalize w.heap.size = b0 at hwb ⊢
  have HW := Lib.hid hwb
  have x8 := row_cell hwb.h0 8
  simp only [List.getElem?_cons_zero, List.getElem?_cons_succ] at x8
  clear hwb
  go_wp2_with fail
  refine (HFE.out _ HW.out.m).mono ?_
  rintro e w2 ⟨q, k, c, rfl, hm2, hown⟩
  have HW2 := Lib.hid (HW.out.kept hm2)
  have HW1 := Lib.hid HW.out.h3
  have HOWN := Lib.hid hown
  clear x8 hm2 hown HW HFE
  obtain ⟨hk, hby, hblk⟩ := Byt.ofOwn HOWN.out HFR.out (Nat.le_trans HFS.out (by omega))
  obtain ⟨g, off, rfl, hg, hcell⟩ := hby.at_ (by have := HBS.out; rw [this]; simp)
  have hgl := (hblk g off rfl).1
  have hB := HBS.out
  rw [hB] at hcell
  have u0 := hcell 0 o rfl
  have u1 := hcell 1 a rfl
  have u2 := hcell 2 b rfl
  have u3 := hcell 3 c' rfl
  simp only [Nat.add_zero] at u0
  have hk4 : k = 4 := by rw [hk, hB]; rfl
  subst hk4
  have hg3 : g ≠ b3 := by have := lt_of_blk HW1.out; omega
  have HU : Hid (w2.cell? ⟨g, off, none⟩ = some (.int .u8 o) ∧ w2.cell? ⟨g, off + 1, none⟩ = some (.int .u8 a) ∧ w2.cell? ⟨g, off + 2, none⟩ = some (.int .u8 b) ∧ w2.cell? ⟨g, off + 3, none⟩ = some (.int .u8 c')) := Lib.hid ⟨u0, u1, u2, u3⟩
  have hc4 : 4 ≤ c := by have := hby.fit; rw [hB] at this; exact this
  have v0 := row_cell HW2.out.h3 0
  have v1 := row_cell HW2.out.h3 1
  have v2 := row_cell HW2.out.h3 2
  have v3 := row_cell HW2.out.h3 3
  simp only [List.getElem?_cons_zero, List.getElem?_cons_succ] at v0 v1 v2 v3
  have fv0 : w2.frozen? ⟨b3, 0, none⟩ = false := row_free HW2.out.h3 0
  have fv1 : w2.frozen? ⟨b3, 1, none⟩ = false := row_free HW2.out.h3 1
  have fv2 : w2.frozen? ⟨b3, 2, none⟩ = false := row_free HW2.out.h3 2
  have fv3 : w2.frozen? ⟨b3, 3, none⟩ = false := row_free HW2.out.h3 3
  have p3 : b3 < w2.heap.size := lt_of_blk HW2.out.h3
  clear hcell hby hblk HOWN hk hB
  go_upto_region 9 with (fail)
  go_region
  have hsw := HW2.out.instr o a b c'
  have hmm : Mod (fun k => k = b3) w2 (((((w2.setCell ⟨b3, 0, none⟩ (.int .u8 o)).setCell ⟨b3, 1, none⟩ (.int .u8 a)).setCell ⟨b3, 2, none⟩ (.int .u8 b)).setCell ⟨b3, 3, none⟩ (.int .u8 c')).drew) := mod_instr (w := w2) (b := b3) (.int .u8 o) (.int .u8 a) (.int .u8 b) (.int .u8 c')
  generalize (((((w2.setCell ⟨b3, 0, none⟩ (.int .u8 o)).setCell ⟨b3, 1, none⟩ (.int .u8 a)).setCell ⟨b3, 2, none⟩ (.int .u8 b)).setCell ⟨b3, 3, none⟩ (.int .u8 c')).drew) = w3 at hsw hmm ⊢
  have hu3 : w3.cell? ⟨g, off, none⟩ = some (.int .u8 o) ∧ w3.cell? ⟨g, off + 1, none⟩ = some (.int .u8 a) ∧ w3.cell? ⟨g, off + 2, none⟩ = some (.int .u8 b) ∧ w3.cell? ⟨g, off + 3, none⟩ = some (.int .u8 c') := by
    obtain ⟨x0, x1, x2, x3⟩ := HU.out
    exact ⟨(World.cell?_of_block (w := w2) (hmm.block g hg hg3)).trans x0, (World.cell?_of_block (w := w2) (hmm.block g hg hg3)).trans x1, (World.cell?_of_block (w := w2) (hmm.block g hg hg3)).trans x2, (World.cell?_of_block (w := w2) (hmm.block g hg hg3)).trans x3⟩
  have HW3 := Lib.hid hsw
  have HU3 := Lib.hid hu3
  clear hmm HU HW2 u0 u1 u2 u3 v0 v1 v2 v3 fv0 fv1 fv2 fv3 p3 hsw hu3 HW1 HFR HFS HBS
  have hS1 : (fun w' : World => w'.cell? ⟨b3, 0, none⟩ = some (.int .u8 o)) w3 := row_cell HW3.out.h3 0
  have u1 := hS1
  go_upto_region 10 with (fail)
  go_region_held3 (fun w' : World => w'.cell? ⟨b3, 0, none⟩ = some (.int .u8 o)) (first | exact hS1 | assumption) ((go_at_call 18; refine (operators_any _).mono ?_; rintro e w4 ⟨bm, rfl, hmap, hm4⟩; have hlook := ops_none hmap o ho.1 ho.2; have HW4 := Lib.hid (HW3.out.kept ((Mod.refl No w3).drew.trans hm4)); have HM4 := Lib.hid ((Mod.refl No w3).drew.trans hm4); have hS2 : (fun w' : World => w'.cell? ⟨b3, 0, none⟩ = some (.int .u8 o)) w4 := row_cell HW4.out.h3 0; clear hm4 hmap))
  clear u1 hS2 hS1 HW3 HU3
  have x0 := row_cell HW4.out.h0 0
  have x1 := row_cell HW4.out.h0 1
  have x2 := row_cell HW4.out.h0 2
  have x3 := row_cell HW4.out.h0 3
  have x4 := row_cell HW4.out.h0 4
  have x5 := row_cell HW4.out.h0 5
  have x6 := row_cell HW4.out.h0 6
  have x7 := row_cell HW4.out.h0 7
  have x8 := row_cell HW4.out.h0 8
  have y0 := row_cell HW4.out.h1 0
  have y1 := row_cell HW4.out.h1 1
  have y2 := row_cell HW4.out.h1 2
  have y3 := row_cell HW4.out.h1 3
  have y4 := row_cell HW4.out.h1 4
  have y5 := row_cell HW4.out.h1 5
  have y6 := row_cell HW4.out.h1 6
  have y7 := row_cell HW4.out.h1 7
  have y8 := row_cell HW4.out.h1 8
  have z0 := row_cell HW4.out.h2 0
  have z1 := row_cell HW4.out.h2 1
  have z2 := row_cell HW4.out.h2 2
  have z3 := row_cell HW4.out.h2 3
  have z4 := row_cell HW4.out.h2 4
  have z5 := row_cell HW4.out.h2 5
  have z6 := row_cell HW4.out.h2 6
  have z7 := row_cell HW4.out.h2 7
  have v0 := row_cell HW4.out.h3 0
  have v1 := row_cell HW4.out.h3 1
  have v2 := row_cell HW4.out.h3 2
  have v3 := row_cell HW4.out.h3 3
  simp only [List.getElem?_cons_zero, List.getElem?_cons_succ] at x0 x1 x2 x3 x4 x5 x6 x7 x8 y0 y1 y2 y3 y4 y5 y6 y7 y8 z0 z1 z2 z3 z4 z5 z6 z7 v0 v1 v2 v3
  have fy0 : w4.frozen? ⟨b1, 0, none⟩ = false := row_free HW4.out.h1 0
  have fy1 : w4.frozen? ⟨b1, 1, none⟩ = false := row_free HW4.out.h1 1
  have fy2 : w4.frozen? ⟨b1, 2, none⟩ = false := row_free HW4.out.h1 2
  have fy3 : w4.frozen? ⟨b1, 3, none⟩ = false := row_free HW4.out.h1 3
  have fy4 : w4.frozen? ⟨b1, 4, none⟩ = false := row_free HW4.out.h1 4
  have fy5 : w4.frozen? ⟨b1, 5, none⟩ = false := row_free HW4.out.h1 5
  have fy6 : w4.frozen? ⟨b1, 6, none⟩ = false := row_free HW4.out.h1 6
  have fy7 : w4.frozen? ⟨b1, 7, none⟩ = false := row_free HW4.out.h1 7
  have fy8 : w4.frozen? ⟨b1, 8, none⟩ = false := row_free HW4.out.h1 8
  have fz0 : w4.frozen? ⟨b2, 0, none⟩ = false := row_free HW4.out.h2 0
  have fz1 : w4.frozen? ⟨b2, 1, none⟩ = false := row_free HW4.out.h2 1
  have fz2 : w4.frozen? ⟨b2, 2, none⟩ = false := row_free HW4.out.h2 2
  have fz3 : w4.frozen? ⟨b2, 3, none⟩ = false := row_free HW4.out.h2 3
  have fz4 : w4.frozen? ⟨b2, 4, none⟩ = false := row_free HW4.out.h2 4
  have fz5 : w4.frozen? ⟨b2, 5, none⟩ = false := row_free HW4.out.h2 5
  have fz6 : w4.frozen? ⟨b2, 6, none⟩ = false := row_free HW4.out.h2 6
  have fz7 : w4.frozen? ⟨b2, 7, none⟩ = false := row_free HW4.out.h2 7
  have fv0 : w4.frozen? ⟨b3, 0, none⟩ = false := row_free HW4.out.h3 0
  have fv1 : w4.frozen? ⟨b3, 1, none⟩ = false := row_free HW4.out.h3 1
  have fv2 : w4.frozen? ⟨b3, 2, none⟩ = false := row_free HW4.out.h3 2
  have fv3 : w4.frozen? ⟨b3, 3, none⟩ = false := row_free HW4.out.h3 3
  have p1 : b1 < w4.heap.size := lt_of_blk HW4.out.h1
  have p2 : b2 < w4.heap.size := lt_of_blk HW4.out.h2
  have p3 : b3 < w4.heap.size := lt_of_blk HW4.out.h3
  have n01 : b0 ≠ b1 := by have := HW4.out.l1; omega
  have n02 : b0 ≠ b2 := by have := HW4.out.l1; have := HW4.out.l2; omega
  have n12 : b1 ≠ b2 := by have := HW4.out.l2; omega
  go_wp2
  go_step3
  refine ⟨rfl, ?_⟩
  go_wp2
  have hE1 : (((((((((((((((((w4.setCell ⟨b1, 0, none⟩ (.int .u32 r0)).setCell ⟨b1, 1, none⟩ (.int .u32 r1)).setCell ⟨b1, 2, none⟩ (.int .u32 r2)).setCell ⟨b1, 3, none⟩ (.int .u32 r3)).setCell ⟨b1, 4, none⟩ (.int .u32 r4)).setCell ⟨b1, 5, none⟩ (.int .u32 r5)).setCell ⟨b1, 6, none⟩ (.int .u32 r6)).setCell ⟨b1, 7, none⟩ (.int .u32 r7)).setCell ⟨b1, 8, none⟩ (.int .u32 r8)).setCell ⟨b2, 0, none⟩ (.int .i64 3)).setCell ⟨b2, 1, none⟩ (.int .u32 0)).setCell ⟨b2, 2, none⟩ (.int .u32 0)).setCell ⟨b2, 3, none⟩ (.int .u32 0)).setCell ⟨b2, 4, none⟩ (.int .u32 0)).setCell ⟨b2, 5, none⟩ (.int .u32 0)).setCell ⟨b2, 6, none⟩ (.int .u32 0)).setCell ⟨b2, 7, none⟩ (.int .i64 191)).heap[b1]? = some (.cells ([.int .u32 r0, .int .u32 r1, .int .u32 r2, .int .u32 r3, .int .u32 r4, .int .u32 r5, .int .u32 r6, .int .u32 r7, .int .u32 r8] : List Value).toArray 26 (0, 0)) := by
    have h := set9 HW4.out.h1 rfl (.int .u32 r0) (.int .u32 r1) (.int .u32 r2) (.int .u32 r3) (.int .u32 r4) (.int .u32 r5) (.int .u32 r6) (.int .u32 r7) (.int .u32 r8)
    exact (blk_setCell (blk_setCell (blk_setCell (blk_setCell (blk_setCell (blk_setCell (blk_setCell (blk_setCell h n12 _) n12 _) n12 _) n12 _) n12 _) n12 _) n12 _) n12 _)
  have hE2 : (((((((((((((((((w4.setCell ⟨b1, 0, none⟩ (.int .u32 r0)).setCell ⟨b1, 1, none⟩ (.int .u32 r1)).setCell ⟨b1, 2, none⟩ (.int .u32 r2)).setCell ⟨b1, 3, none⟩ (.int .u32 r3)).setCell ⟨b1, 4, none⟩ (.int .u32 r4)).setCell ⟨b1, 5, none⟩ (.int .u32 r5)).setCell ⟨b1, 6, none⟩ (.int .u32 r6)).setCell ⟨b1, 7, none⟩ (.int .u32 r7)).setCell ⟨b1, 8, none⟩ (.int .u32 r8)).setCell ⟨b2, 0, none⟩ (.int .i64 3)).setCell ⟨b2, 1, none⟩ (.int .u32 0)).setCell ⟨b2, 2, none⟩ (.int .u32 0)).setCell ⟨b2, 3, none⟩ (.int .u32 0)).setCell ⟨b2, 4, none⟩ (.int .u32 0)).setCell ⟨b2, 5, none⟩ (.int .u32 0)).setCell ⟨b2, 6, none⟩ (.int .u32 0)).setCell ⟨b2, 7, none⟩ (.int .i64 191)).heap[b2]? = some (.cells ([.int .i64 3, .int .u32 0, .int .u32 0, .int .u32 0, .int .u32 0, .int .u32 0, .int .u32 0, .int .i64 191] : List Value).toArray 34 (0, 0)) := by
    refine set8 (w := (((((((((w4.setCell ⟨b1, 0, none⟩ (.int .u32 r0)).setCell ⟨b1, 1, none⟩ (.int .u32 r1)).setCell ⟨b1, 2, none⟩ (.int .u32 r2)).setCell ⟨b1, 3, none⟩ (.int .u32 r3)).setCell ⟨b1, 4, none⟩ (.int .u32 r4)).setCell ⟨b1, 5, none⟩ (.int .u32 r5)).setCell ⟨b1, 6, none⟩ (.int .u32 r6)).setCell ⟨b1, 7, none⟩ (.int .u32 r7)).setCell ⟨b1, 8, none⟩ (.int .u32 r8))) (L := [.int .i64 0, .int .u32 0, .int .u32 0, .int .u32 0, .int .u32 0, .int .u32 0, .int .u32 0, .int .i64 0]) ?_ rfl (.int .i64 3) (.int .u32 0) (.int .u32 0) (.int .u32 0) (.int .u32 0) (.int .u32 0) (.int .u32 0) (.int .i64 191)
    exact (blk_setCell (blk_setCell (blk_setCell (blk_setCell (blk_setCell (blk_setCell (blk_setCell (blk_setCell (blk_setCell HW4.out.h2 n12.symm _) n12.symm _) n12.symm _) n12.symm _) n12.symm _) n12.symm _) n12.symm _) n12.symm _) n12.symm _)
  have hend : Mod No w (((((((((((((((((w4.setCell ⟨b1, 0, none⟩ (.int .u32 r0)).setCell ⟨b1, 1, none⟩ (.int .u32 r1)).setCell ⟨b1, 2, none⟩ (.int .u32 r2)).setCell ⟨b1, 3, none⟩ (.int .u32 r3)).setCell ⟨b1, 4, none⟩ (.int .u32 r4)).setCell ⟨b1, 5, none⟩ (.int .u32 r5)).setCell ⟨b1, 6, none⟩ (.int .u32 r6)).setCell ⟨b1, 7, none⟩ (.int .u32 r7)).setCell ⟨b1, 8, none⟩ (.int .u32 r8)).setCell ⟨b2, 0, none⟩ (.int .i64 3)).setCell ⟨b2, 1, none⟩ (.int .u32 0)).setCell ⟨b2, 2, none⟩ (.int .u32 0)).setCell ⟨b2, 3, none⟩ (.int .u32 0)).setCell ⟨b2, 4, none⟩ (.int .u32 0)).setCell ⟨b2, 5, none⟩ (.int .u32 0)).setCell ⟨b2, 6, none⟩ (.int .u32 0)).setCell ⟨b2, 7, none⟩ (.int .i64 191)) := by
    have hb1 : w.heap.size ≤ b1 := by have := HW4.out.l0; have := HW4.out.l1; omega
    have hb2 : w.heap.size ≤ b2 := by have := HW4.out.l2; omega
    exact (Mod.new (Mod.new (Mod.new (Mod.new (Mod.new (Mod.new (Mod.new (Mod.new (Mod.new (Mod.new (Mod.new (Mod.new (Mod.new (Mod.new (Mod.new (Mod.new (Mod.new HW4.out.m hb1 0 _) hb1 1 _) hb1 2 _) hb1 3 _) hb1 4 _) hb1 5 _) hb1 6 _) hb1 7 _) hb1 8 _) hb2 0 _) hb2 1 _) hb2 2 _) hb2 3 _) hb2 4 _) hb2 5 _) hb2 6 _) hb2 7 _)
  generalize (((((((((((((((((w4.setCell ⟨b1, 0, none⟩ (.int .u32 r0)).setCell ⟨b1, 1, none⟩ (.int .u32 r1)).setCell ⟨b1, 2, none⟩ (.int .u32 r2)).setCell ⟨b1, 3, none⟩ (.int .u32 r3)).setCell ⟨b1, 4, none⟩ (.int .u32 r4)).setCell ⟨b1, 5, none⟩ (.int .u32 r5)).setCell ⟨b1, 6, none⟩ (.int .u32 r6)).setCell ⟨b1, 7, none⟩ (.int .u32 r7)).setCell ⟨b1, 8, none⟩ (.int .u32 r8)).setCell ⟨b2, 0, none⟩ (.int .i64 3)).setCell ⟨b2, 1, none⟩ (.int .u32 0)).setCell ⟨b2, 2, none⟩ (.int .u32 0)).setCell ⟨b2, 3, none⟩ (.int .u32 0)).setCell ⟨b2, 4, none⟩ (.int .u32 0)).setCell ⟨b2, 5, none⟩ (.int .u32 0)).setCell ⟨b2, 6, none⟩ (.int .u32 0)).setCell ⟨b2, 7, none⟩ (.int .i64 191)) = wE at hE1 hE2 hend ⊢
  have e0 := row_cell hE1 0
  have e1 := row_cell hE1 1
  have e2 := row_cell hE1 2
  have e3 := row_cell hE1 3
  have e4 := row_cell hE1 4
  have e5 := row_cell hE1 5
  have e6 := row_cell hE1 6
  have e7 := row_cell hE1 7
  have e8 := row_cell hE1 8
  have g0 := row_cell hE2 0
  have g1 := row_cell hE2 1
  have g2 := row_cell hE2 2
  have g3 := row_cell hE2 3
  have g4 := row_cell hE2 4
  have g5 := row_cell hE2 5
  have g6 := row_cell hE2 6
  have g7 := row_cell hE2 7
  simp only [List.getElem?_cons_zero, List.getElem?_cons_succ] at e0 e1 e2 e3 e4 e5 e6 e7 e8 g0 g1 g2 g3 g4 g5 g6 g7
  rw [Exit.noGoto_ret]
  refine bodyPost_ret (v := .tuple #[cpuV [r0, r1, r2, r3, r4, r5, r6, r7] r8, .agg (faultS 191).L.toArray]) (by simp [results, Tryd.results6, go_sem, cpuV, faultS, Stp.L, stopL, e0, e1, e2, e3, e4, e5, e6, e7, e8, g0, g1, g2, g3, g4, g5, g6, g7]) rfl ?_
  exact ⟨rfl, hend.of_no, HM.out.kept hend (fun q => q) (fun q => q)⟩

set_option maxHeartbeats 8000000 in
theorem step_3 {B F : Nat} {S : List Fr} (root r0 r1 r2 r3 r4 r5 r6 r7 r8 : Int) (w : World) (hm : PhM w B F S) (h8 : 0 ≤ r8 ∧ r8 ≤ 4294967295) (o : Nat) (a b c' : Int) (he : (fetchR S root r8 4).1 = 0) (hbs : (fetchR S root r8 4).2 = [(o : Int), a, b, c']) (ho : o ≤ 20) (hbad : (1 ≤ namedR o ∧ 7 < a) ∨ (2 ≤ namedR o ∧ 7 < b) ∨ (3 ≤ namedR o ∧ 7 < c')) :
    Calls Tryd.prog 6 #[.pointer (some ⟨B, 0, none⟩), .int .i64 root, .agg #[.int .u32 r0, .int .u32 r1, .int .u32 r2, .int .u32 r3, .int .u32 r4, .int .u32 r5, .int .u32 r6, .int .u32 r7, .int .u32 r8]] w (StepPost B F ⟨[r0, r1, r2, r3, r4, r5, r6, r7], r8, faultS 191, S⟩ w) := by
  have HFE : Hid (∀ w' , Mod No w w' → Calls Tryd.prog 17 #[.pointer (some ⟨B, 0, none⟩), .int .i64 root, .int .u32 r8, .int .i64 4] w' (OwnB w' (fetchR S root r8 4).1 (fetchR S root r8 4).2)) := fun w' hm' => pfetchR root r8 4 w' (hm.kept hm' (fun q => q) (fun q => q)) h8.1 h8.2 (by omega)
  have HM := Lib.hid hm
  obtain ⟨fn, hfn⟩ : ∃ fn, fn = opsFn.getD o 0 := ⟨_, rfl⟩
  have HFN := Lib.hid hfn
  clear hfn
  have HFR := Lib.hid (fetchR_range (root := root) (va := r8) (n := 4) hm.ok)
  have HFS : Hid ((fetchR S root r8 4).2.length ≤ 256) := Lib.hid fetchR_small
  rw [he] at HFE
  have HBS := Lib.hid hbs
  generalize (fetchR S root r8 4).2 = bs at HFE HFR HFS HBS
  clear he hbs
  clear hm h8
  go_enter Tryd.func6, Tryd.ntmps6
  go_wp2
  refine wp_scope_on 0 rfl ?_
  go_upto_region 6 with (fail)
  have hwb := stepW_made w r0 r1 r2 r3 r4 r5 r6 r7 r8
  generalize ((((w.alloc (.cells #[.int .u32 r0, .int .u32 r1, .int .u32 r2, .int .u32 r3, .int .u32 r4, .int .u32 r5, .int .u32 r6, .int .u32 r7, .int .u32 r8] 26)).alloc (.cells #[.int .u32 0, .int .u32 0, .int .u32 0, .int .u32 0, .int .u32 0, .int .u32 0, .int .u32 0, .int .u32 0, .int .u32 0] 26)).alloc (.cells #[.int .i64 0, .int .u32 0, .int .u32 0, .int .u32 0, .int .u32 0, .int .u32 0, .int .u32 0, .int .i64 0] 34)).alloc (.cells #[.int .u8 0, .int .u8 0, .int .u8 0, .int .u8 0] 63)) = w1 at hwb ⊢
  generalize w.heap.size + 1 + 1 + 1 = b3 at hwb ⊢
  generalize w.heap.size + 1 + 1 = b2 at hwb ⊢
  generalize w.heap.size + 1 = b1 at hwb ⊢
  generalize w.heap.size = b0 at hwb ⊢
  have HW := Lib.hid hwb
  have x8 := row_cell hwb.h0 8
  simp only [List.getElem?_cons_zero, List.getElem?_cons_succ] at x8
  clear hwb
  go_wp2_with fail
  refine (HFE.out _ HW.out.m).mono ?_
  rintro e w2 ⟨q, k, c, rfl, hm2, hown⟩
  have HW2 := Lib.hid (HW.out.kept hm2)
  have HW1 := Lib.hid HW.out.h3
  have HOWN := Lib.hid hown
  clear x8 hm2 hown HW HFE
  obtain ⟨hk, hby, hblk⟩ := Byt.ofOwn HOWN.out HFR.out (Nat.le_trans HFS.out (by omega))
  obtain ⟨g, off, rfl, hg, hcell⟩ := hby.at_ (by have := HBS.out; rw [this]; simp)
  have hgl := (hblk g off rfl).1
  have hB := HBS.out
  rw [hB] at hcell
  have u0 := hcell 0 (o : Int) rfl
  have u1 := hcell 1 a rfl
  have u2 := hcell 2 b rfl
  have u3 := hcell 3 c' rfl
  simp only [Nat.add_zero] at u0
  have hk4 : k = 4 := by rw [hk, hB]; rfl
  subst hk4
  have hg3 : g ≠ b3 := by have := lt_of_blk HW1.out; omega
  have HU : Hid (w2.cell? ⟨g, off, none⟩ = some (.int .u8 o) ∧ w2.cell? ⟨g, off + 1, none⟩ = some (.int .u8 a) ∧ w2.cell? ⟨g, off + 2, none⟩ = some (.int .u8 b) ∧ w2.cell? ⟨g, off + 3, none⟩ = some (.int .u8 c')) := Lib.hid ⟨u0, u1, u2, u3⟩
  have hc4 : 4 ≤ c := by have := hby.fit; rw [hB] at this; exact this
  have v0 := row_cell HW2.out.h3 0
  have v1 := row_cell HW2.out.h3 1
  have v2 := row_cell HW2.out.h3 2
  have v3 := row_cell HW2.out.h3 3
  simp only [List.getElem?_cons_zero, List.getElem?_cons_succ] at v0 v1 v2 v3
  have fv0 : w2.frozen? ⟨b3, 0, none⟩ = false := row_free HW2.out.h3 0
  have fv1 : w2.frozen? ⟨b3, 1, none⟩ = false := row_free HW2.out.h3 1
  have fv2 : w2.frozen? ⟨b3, 2, none⟩ = false := row_free HW2.out.h3 2
  have fv3 : w2.frozen? ⟨b3, 3, none⟩ = false := row_free HW2.out.h3 3
  have p3 : b3 < w2.heap.size := lt_of_blk HW2.out.h3
  clear hcell hby hblk HOWN hk hB
  go_upto_region 9 with (fail)
  go_region
  have hsw := HW2.out.instr o a b c'
  have hmm : Mod (fun k => k = b3) w2 (((((w2.setCell ⟨b3, 0, none⟩ (.int .u8 o)).setCell ⟨b3, 1, none⟩ (.int .u8 a)).setCell ⟨b3, 2, none⟩ (.int .u8 b)).setCell ⟨b3, 3, none⟩ (.int .u8 c')).drew) := mod_instr (w := w2) (b := b3) (.int .u8 o) (.int .u8 a) (.int .u8 b) (.int .u8 c')
  generalize (((((w2.setCell ⟨b3, 0, none⟩ (.int .u8 o)).setCell ⟨b3, 1, none⟩ (.int .u8 a)).setCell ⟨b3, 2, none⟩ (.int .u8 b)).setCell ⟨b3, 3, none⟩ (.int .u8 c')).drew) = w3 at hsw hmm ⊢
  have hu3 : w3.cell? ⟨g, off, none⟩ = some (.int .u8 o) ∧ w3.cell? ⟨g, off + 1, none⟩ = some (.int .u8 a) ∧ w3.cell? ⟨g, off + 2, none⟩ = some (.int .u8 b) ∧ w3.cell? ⟨g, off + 3, none⟩ = some (.int .u8 c') := by
    obtain ⟨x0, x1, x2, x3⟩ := HU.out
    exact ⟨(World.cell?_of_block (w := w2) (hmm.block g hg hg3)).trans x0, (World.cell?_of_block (w := w2) (hmm.block g hg hg3)).trans x1, (World.cell?_of_block (w := w2) (hmm.block g hg hg3)).trans x2, (World.cell?_of_block (w := w2) (hmm.block g hg hg3)).trans x3⟩
  have HW3 := Lib.hid hsw
  have HU3 := Lib.hid hu3
  clear hmm HU HW2 u0 u1 u2 u3 v0 v1 v2 v3 fv0 fv1 fv2 fv3 p3 hsw hu3 HW1 HFR HFS HBS
  have hS1 : (fun w' : World => w'.cell? ⟨b3, 0, none⟩ = some (.int .u8 o)) w3 := row_cell HW3.out.h3 0
  have u1 := hS1
  go_upto_region 10 with (fail)
  go_region_held3 (fun w' : World => w'.cell? ⟨b3, 0, none⟩ = some (.int .u8 o)) (first | exact hS1 | assumption) ((go_at_call 18; refine (operators_any _).mono ?_; rintro e w4 ⟨bm, rfl, hmap, hm4⟩; have hlook := ops_look2 hmap o fn (by omega) HFN.out; have HW4 := Lib.hid (HW3.out.kept ((Mod.refl No w3).drew.trans hm4)); have HM4 := Lib.hid ((Mod.refl No w3).drew.trans hm4); have hS2 : (fun w' : World => w'.cell? ⟨b3, 0, none⟩ = some (.int .u8 o)) w4 := row_cell HW4.out.h3 0; clear hm4 hmap))
  have HU4 := Lib.hid (⟨cells_at HM4.out HU3.out.1, cells_at HM4.out HU3.out.2.1, cells_at HM4.out HU3.out.2.2.1, cells_at HM4.out HU3.out.2.2.2⟩ : _ ∧ _ ∧ _ ∧ _)
  clear u1 hS2 hS1 HW3 HU3
  obtain ⟨v0, v1, v2, v3⟩ : w4.cell? ⟨b3, 0, none⟩ = some (.int .u8 o) ∧ w4.cell? ⟨b3, 1, none⟩ = some (.int .u8 a) ∧ w4.cell? ⟨b3, 2, none⟩ = some (.int .u8 b) ∧ w4.cell? ⟨b3, 3, none⟩ = some (.int .u8 c') := ⟨row_cell HW4.out.h3 0, row_cell HW4.out.h3 1, row_cell HW4.out.h3 2, row_cell HW4.out.h3 3⟩
  have HSH : Hid (∀ w', Calls Tryd.prog 19 #[.agg #[.int .u8 o, .int .u8 a, .int .u8 b, .int .u8 c']] w' fun e w2 => (∃ n k, e = .returned (.agg #[.int .i64 (namedR o), .int .i64 n, .bool k])) ∧ Mod No w' w2) := fun w' => shape_any o a b c' w' (by omega)
  clear hlook HM4
  have hfld := shape_field
  go_wp2_with (go_at_call 19; refine (HSH.out _).mono ?_; rintro e w5 ⟨⟨n1, k1, rfl⟩, hm5⟩; have HW5 := Lib.hid (HW4.out.kept hm5); have HU5 := Lib.hid (⟨cells_at hm5 HU4.out.1, cells_at hm5 HU4.out.2.1, cells_at hm5 HU4.out.2.2.1, cells_at hm5 HU4.out.2.2.2⟩ : _ ∧ _ ∧ _ ∧ _); clear hm5)
  have hN : namedR o ≤ 3 := namedR_le _
  generalize namedR o = N at hN hbad ⊢
  clear HSH v0 v1 v2 v3
  clear hfld
  go_wp2_with fail
  go_loopw [51] (fun iv wr => ∃ (j : Nat), j ≤ N ∧ iv = .int .i64 j ∧ wr = w5 ∧ ((1 ≤ j → a ≤ 7) ∧ (2 ≤ j → b ≤ 7) ∧ (3 ≤ j → c' ≤ 7))) (fun iv _ => N - (intOf iv).toNat)
  case atStart => exact ⟨0, Nat.zero_le _, rfl, rfl, by omega⟩
  case round =>
    obtain ⟨j, hj, rfl, rfl, hok⟩ := hrel
    by_cases hlt : j < N
    · have hlt' : (j : Int) < (N : Int) := by omega
      have hsum : IntKind.i64.wrap (1 + (j : Int)) = ((1 + j : Nat) : Int) := by rw [IntWalk.i64_in _ (by omega)]; omega
      have hj4 : ((1 + j : Nat) : Int) < 4 := by omega
      have hj0 : (0 : Int) ≤ ((1 + j : Nat) : Int) := by omega
      obtain ⟨x, hx, hxe⟩ : ∃ x, wr.cell? ⟨g, off + (1 + j), none⟩ = some (.int .u8 x) ∧ ((j = 0 ∧ x = a) ∨ (j = 1 ∧ x = b) ∨ (j = 2 ∧ x = c')) := by
        rcases (show j = 0 ∨ j = 1 ∨ j = 2 by omega) with rfl | rfl | rfl
        · exact ⟨a, HU5.out.2.1, .inl ⟨rfl, rfl⟩⟩
        · exact ⟨b, HU5.out.2.2.1, .inr (.inl ⟨rfl, rfl⟩)⟩
        · exact ⟨c', HU5.out.2.2.2, .inr (.inr ⟨rfl, rfl⟩)⟩
      have HXE := Lib.hid hxe
      have HOK := Lib.hid hok
      by_cases h7 : 7 < x
      · have d7 : decide (x > 7) = true := decide_eq_true h7
        clear hxe hok
        have x0 := row_cell HW5.out.h0 0
        have x1 := row_cell HW5.out.h0 1
        have x2 := row_cell HW5.out.h0 2
        have x3 := row_cell HW5.out.h0 3
        have x4 := row_cell HW5.out.h0 4
        have x5 := row_cell HW5.out.h0 5
        have x6 := row_cell HW5.out.h0 6
        have x7 := row_cell HW5.out.h0 7
        have x8 := row_cell HW5.out.h0 8
        have y0 := row_cell HW5.out.h1 0
        have y1 := row_cell HW5.out.h1 1
        have y2 := row_cell HW5.out.h1 2
        have y3 := row_cell HW5.out.h1 3
        have y4 := row_cell HW5.out.h1 4
        have y5 := row_cell HW5.out.h1 5
        have y6 := row_cell HW5.out.h1 6
        have y7 := row_cell HW5.out.h1 7
        have y8 := row_cell HW5.out.h1 8
        have z0 := row_cell HW5.out.h2 0
        have z1 := row_cell HW5.out.h2 1
        have z2 := row_cell HW5.out.h2 2
        have z3 := row_cell HW5.out.h2 3
        have z4 := row_cell HW5.out.h2 4
        have z5 := row_cell HW5.out.h2 5
        have z6 := row_cell HW5.out.h2 6
        have z7 := row_cell HW5.out.h2 7
        have v0 := row_cell HW5.out.h3 0
        have v1 := row_cell HW5.out.h3 1
        have v2 := row_cell HW5.out.h3 2
        have v3 := row_cell HW5.out.h3 3
        simp only [List.getElem?_cons_zero, List.getElem?_cons_succ] at x0 x1 x2 x3 x4 x5 x6 x7 x8 y0 y1 y2 y3 y4 y5 y6 y7 y8 z0 z1 z2 z3 z4 z5 z6 z7 v0 v1 v2 v3
        have fy0 : wr.frozen? ⟨b1, 0, none⟩ = false := row_free HW5.out.h1 0
        have fy1 : wr.frozen? ⟨b1, 1, none⟩ = false := row_free HW5.out.h1 1
        have fy2 : wr.frozen? ⟨b1, 2, none⟩ = false := row_free HW5.out.h1 2
        have fy3 : wr.frozen? ⟨b1, 3, none⟩ = false := row_free HW5.out.h1 3
        have fy4 : wr.frozen? ⟨b1, 4, none⟩ = false := row_free HW5.out.h1 4
        have fy5 : wr.frozen? ⟨b1, 5, none⟩ = false := row_free HW5.out.h1 5
        have fy6 : wr.frozen? ⟨b1, 6, none⟩ = false := row_free HW5.out.h1 6
        have fy7 : wr.frozen? ⟨b1, 7, none⟩ = false := row_free HW5.out.h1 7
        have fy8 : wr.frozen? ⟨b1, 8, none⟩ = false := row_free HW5.out.h1 8
        have fz0 : wr.frozen? ⟨b2, 0, none⟩ = false := row_free HW5.out.h2 0
        have fz1 : wr.frozen? ⟨b2, 1, none⟩ = false := row_free HW5.out.h2 1
        have fz2 : wr.frozen? ⟨b2, 2, none⟩ = false := row_free HW5.out.h2 2
        have fz3 : wr.frozen? ⟨b2, 3, none⟩ = false := row_free HW5.out.h2 3
        have fz4 : wr.frozen? ⟨b2, 4, none⟩ = false := row_free HW5.out.h2 4
        have fz5 : wr.frozen? ⟨b2, 5, none⟩ = false := row_free HW5.out.h2 5
        have fz6 : wr.frozen? ⟨b2, 6, none⟩ = false := row_free HW5.out.h2 6
        have fz7 : wr.frozen? ⟨b2, 7, none⟩ = false := row_free HW5.out.h2 7
        have fv0 : wr.frozen? ⟨b3, 0, none⟩ = false := row_free HW5.out.h3 0
        have fv1 : wr.frozen? ⟨b3, 1, none⟩ = false := row_free HW5.out.h3 1
        have fv2 : wr.frozen? ⟨b3, 2, none⟩ = false := row_free HW5.out.h3 2
        have fv3 : wr.frozen? ⟨b3, 3, none⟩ = false := row_free HW5.out.h3 3
        have p1 : b1 < wr.heap.size := lt_of_blk HW5.out.h1
        have p2 : b2 < wr.heap.size := lt_of_blk HW5.out.h2
        have p3 : b3 < wr.heap.size := lt_of_blk HW5.out.h3
        have n01 : b0 ≠ b1 := by have := HW5.out.l1; omega
        have n02 : b0 ≠ b2 := by have := HW5.out.l1; have := HW5.out.l2; omega
        have n12 : b1 ≠ b2 := by have := HW5.out.l2; omega
        go_wp2
        go_step3
        refine ⟨rfl, ?_⟩
        go_wp2
        have hE1 : (((((((((((((((((wr.setCell ⟨b1, 0, none⟩ (.int .u32 r0)).setCell ⟨b1, 1, none⟩ (.int .u32 r1)).setCell ⟨b1, 2, none⟩ (.int .u32 r2)).setCell ⟨b1, 3, none⟩ (.int .u32 r3)).setCell ⟨b1, 4, none⟩ (.int .u32 r4)).setCell ⟨b1, 5, none⟩ (.int .u32 r5)).setCell ⟨b1, 6, none⟩ (.int .u32 r6)).setCell ⟨b1, 7, none⟩ (.int .u32 r7)).setCell ⟨b1, 8, none⟩ (.int .u32 r8)).setCell ⟨b2, 0, none⟩ (.int .i64 3)).setCell ⟨b2, 1, none⟩ (.int .u32 0)).setCell ⟨b2, 2, none⟩ (.int .u32 0)).setCell ⟨b2, 3, none⟩ (.int .u32 0)).setCell ⟨b2, 4, none⟩ (.int .u32 0)).setCell ⟨b2, 5, none⟩ (.int .u32 0)).setCell ⟨b2, 6, none⟩ (.int .u32 0)).setCell ⟨b2, 7, none⟩ (.int .i64 191)).heap[b1]? = some (.cells ([.int .u32 r0, .int .u32 r1, .int .u32 r2, .int .u32 r3, .int .u32 r4, .int .u32 r5, .int .u32 r6, .int .u32 r7, .int .u32 r8] : List Value).toArray 26 (0, 0)) := by
          have h := set9 HW5.out.h1 rfl (.int .u32 r0) (.int .u32 r1) (.int .u32 r2) (.int .u32 r3) (.int .u32 r4) (.int .u32 r5) (.int .u32 r6) (.int .u32 r7) (.int .u32 r8)
          exact (blk_setCell (blk_setCell (blk_setCell (blk_setCell (blk_setCell (blk_setCell (blk_setCell (blk_setCell h n12 _) n12 _) n12 _) n12 _) n12 _) n12 _) n12 _) n12 _)
        have hE2 : (((((((((((((((((wr.setCell ⟨b1, 0, none⟩ (.int .u32 r0)).setCell ⟨b1, 1, none⟩ (.int .u32 r1)).setCell ⟨b1, 2, none⟩ (.int .u32 r2)).setCell ⟨b1, 3, none⟩ (.int .u32 r3)).setCell ⟨b1, 4, none⟩ (.int .u32 r4)).setCell ⟨b1, 5, none⟩ (.int .u32 r5)).setCell ⟨b1, 6, none⟩ (.int .u32 r6)).setCell ⟨b1, 7, none⟩ (.int .u32 r7)).setCell ⟨b1, 8, none⟩ (.int .u32 r8)).setCell ⟨b2, 0, none⟩ (.int .i64 3)).setCell ⟨b2, 1, none⟩ (.int .u32 0)).setCell ⟨b2, 2, none⟩ (.int .u32 0)).setCell ⟨b2, 3, none⟩ (.int .u32 0)).setCell ⟨b2, 4, none⟩ (.int .u32 0)).setCell ⟨b2, 5, none⟩ (.int .u32 0)).setCell ⟨b2, 6, none⟩ (.int .u32 0)).setCell ⟨b2, 7, none⟩ (.int .i64 191)).heap[b2]? = some (.cells ([.int .i64 3, .int .u32 0, .int .u32 0, .int .u32 0, .int .u32 0, .int .u32 0, .int .u32 0, .int .i64 191] : List Value).toArray 34 (0, 0)) := by
          refine set8 (w := (((((((((wr.setCell ⟨b1, 0, none⟩ (.int .u32 r0)).setCell ⟨b1, 1, none⟩ (.int .u32 r1)).setCell ⟨b1, 2, none⟩ (.int .u32 r2)).setCell ⟨b1, 3, none⟩ (.int .u32 r3)).setCell ⟨b1, 4, none⟩ (.int .u32 r4)).setCell ⟨b1, 5, none⟩ (.int .u32 r5)).setCell ⟨b1, 6, none⟩ (.int .u32 r6)).setCell ⟨b1, 7, none⟩ (.int .u32 r7)).setCell ⟨b1, 8, none⟩ (.int .u32 r8))) (L := [.int .i64 0, .int .u32 0, .int .u32 0, .int .u32 0, .int .u32 0, .int .u32 0, .int .u32 0, .int .i64 0]) ?_ rfl (.int .i64 3) (.int .u32 0) (.int .u32 0) (.int .u32 0) (.int .u32 0) (.int .u32 0) (.int .u32 0) (.int .i64 191)
          exact (blk_setCell (blk_setCell (blk_setCell (blk_setCell (blk_setCell (blk_setCell (blk_setCell (blk_setCell (blk_setCell HW5.out.h2 n12.symm _) n12.symm _) n12.symm _) n12.symm _) n12.symm _) n12.symm _) n12.symm _) n12.symm _) n12.symm _)
        have hend : Mod No w (((((((((((((((((wr.setCell ⟨b1, 0, none⟩ (.int .u32 r0)).setCell ⟨b1, 1, none⟩ (.int .u32 r1)).setCell ⟨b1, 2, none⟩ (.int .u32 r2)).setCell ⟨b1, 3, none⟩ (.int .u32 r3)).setCell ⟨b1, 4, none⟩ (.int .u32 r4)).setCell ⟨b1, 5, none⟩ (.int .u32 r5)).setCell ⟨b1, 6, none⟩ (.int .u32 r6)).setCell ⟨b1, 7, none⟩ (.int .u32 r7)).setCell ⟨b1, 8, none⟩ (.int .u32 r8)).setCell ⟨b2, 0, none⟩ (.int .i64 3)).setCell ⟨b2, 1, none⟩ (.int .u32 0)).setCell ⟨b2, 2, none⟩ (.int .u32 0)).setCell ⟨b2, 3, none⟩ (.int .u32 0)).setCell ⟨b2, 4, none⟩ (.int .u32 0)).setCell ⟨b2, 5, none⟩ (.int .u32 0)).setCell ⟨b2, 6, none⟩ (.int .u32 0)).setCell ⟨b2, 7, none⟩ (.int .i64 191)) := by
          have hb1 : w.heap.size ≤ b1 := by have := HW5.out.l0; have := HW5.out.l1; omega
          have hb2 : w.heap.size ≤ b2 := by have := HW5.out.l2; omega
          exact (Mod.new (Mod.new (Mod.new (Mod.new (Mod.new (Mod.new (Mod.new (Mod.new (Mod.new (Mod.new (Mod.new (Mod.new (Mod.new (Mod.new (Mod.new (Mod.new (Mod.new HW5.out.m hb1 0 _) hb1 1 _) hb1 2 _) hb1 3 _) hb1 4 _) hb1 5 _) hb1 6 _) hb1 7 _) hb1 8 _) hb2 0 _) hb2 1 _) hb2 2 _) hb2 3 _) hb2 4 _) hb2 5 _) hb2 6 _) hb2 7 _)
        generalize (((((((((((((((((wr.setCell ⟨b1, 0, none⟩ (.int .u32 r0)).setCell ⟨b1, 1, none⟩ (.int .u32 r1)).setCell ⟨b1, 2, none⟩ (.int .u32 r2)).setCell ⟨b1, 3, none⟩ (.int .u32 r3)).setCell ⟨b1, 4, none⟩ (.int .u32 r4)).setCell ⟨b1, 5, none⟩ (.int .u32 r5)).setCell ⟨b1, 6, none⟩ (.int .u32 r6)).setCell ⟨b1, 7, none⟩ (.int .u32 r7)).setCell ⟨b1, 8, none⟩ (.int .u32 r8)).setCell ⟨b2, 0, none⟩ (.int .i64 3)).setCell ⟨b2, 1, none⟩ (.int .u32 0)).setCell ⟨b2, 2, none⟩ (.int .u32 0)).setCell ⟨b2, 3, none⟩ (.int .u32 0)).setCell ⟨b2, 4, none⟩ (.int .u32 0)).setCell ⟨b2, 5, none⟩ (.int .u32 0)).setCell ⟨b2, 6, none⟩ (.int .u32 0)).setCell ⟨b2, 7, none⟩ (.int .i64 191)) = wE at hE1 hE2 hend ⊢
        have e0 := row_cell hE1 0
        have e1 := row_cell hE1 1
        have e2 := row_cell hE1 2
        have e3 := row_cell hE1 3
        have e4 := row_cell hE1 4
        have e5 := row_cell hE1 5
        have e6 := row_cell hE1 6
        have e7 := row_cell hE1 7
        have e8 := row_cell hE1 8
        have g0 := row_cell hE2 0
        have g1 := row_cell hE2 1
        have g2 := row_cell hE2 2
        have g3 := row_cell hE2 3
        have g4 := row_cell hE2 4
        have g5 := row_cell hE2 5
        have g6 := row_cell hE2 6
        have g7 := row_cell hE2 7
        simp only [List.getElem?_cons_zero, List.getElem?_cons_succ] at e0 e1 e2 e3 e4 e5 e6 e7 e8 g0 g1 g2 g3 g4 g5 g6 g7
        rw [Exit.noGoto_ret]
        refine bodyPost_ret (v := .tuple #[cpuV [r0, r1, r2, r3, r4, r5, r6, r7] r8, .agg (faultS 191).L.toArray]) (by simp [results, Tryd.results6, go_sem, cpuV, faultS, Stp.L, stopL, e0, e1, e2, e3, e4, e5, e6, e7, e8, g0, g1, g2, g3, g4, g5, g6, g7]) rfl ?_
        exact ⟨rfl, hend.of_no, HM.out.kept hend (fun q => q) (fun q => q)⟩

      · have d7 : decide (x > 7) = false := decide_eq_false h7
        clear hxe hok
        go_wp2
        go_roundw
        case rel => exact ⟨j + 1, by omega, by go_num, (by first | rfl | trivial), by have := HXE.out; have := HOK.out; omega⟩
        case measure => simp [intOf]; omega
    · obtain rfl : j = N := by omega
      exfalso
      omega

end Go.Proofs.YtlbebneblmgdcaaDoor
