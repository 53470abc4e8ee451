/- tenementlaw19.CoreZero: on a machine that nobody made each step faults; the walk. -/
import Derived.Test.YtddhjnbiabmglaaModBase
import Derived.Lib.Hide
import Derived.Deep.DeepCutAuto
import Derived.WalkMore
import Derived.ChangeKeysEq
import Derived.LoopN
import Derived.RegionTactic
import Derived.ChangeAlike
namespace Go.Proofs.Ytddhjnbiabmglaa
open Go.RowKit
set_option maxRecDepth 100000

theorem eq8 (d : Nat) (a0 a1 a2 a3 a4 a5 a6 a7 : Int) (w : World) : (Op.equalIn (d + 2) 23 (.agg #[.int .u32 a0, .int .u32 a1, .int .u32 a2, .int .u32 a3, .int .u32 a4, .int .u32 a5, .int .u32 a6, .int .u32 a7]) (.agg #[.int .u32 a0, .int .u32 a1, .int .u32 a2, .int .u32 a3, .int .u32 a4, .int .u32 a5, .int .u32 a6, .int .u32 a7])).run Try.prog w = .ok true w := by
  obtain ⟨i, hi⟩ : ∃ i, Try.prog.info? 22 = some i := Option.isSome_iff_exists.1 (show (Try.prog.info? 22).isSome = true by kernel_rfl)
  rw [run_equalIn_array w (d + 1) _ _ Try.underlying23 hi, show Try.prog.cellsOf 22 = 1 by kernel_rfl]
  have hp : ∀ (xs : Array Value) (j : Nat) (v : Value) (w : World), xs[j]? = some v → (part 22 xs (j * 1)).run Try.prog w = .ok v w := fun xs j v w h => by
    rw [Nat.mul_one]
    simp [part, h, go_sem]
  simp [Op.eqItems, List.range, List.range.loop, go_sem, Try.underlying22]

theorem eq5 (d : Nat) (a0 a1 a2 a3 a4 : Int) (w : World) : (Op.equalIn (d + 2) 26 (.agg #[.int .u32 a0, .int .u32 a1, .int .u32 a2, .int .u32 a3, .int .u32 a4]) (.agg #[.int .u32 a0, .int .u32 a1, .int .u32 a2, .int .u32 a3, .int .u32 a4])).run Try.prog w = .ok true w := by
  obtain ⟨i, hi⟩ : ∃ i, Try.prog.info? 22 = some i := Option.isSome_iff_exists.1 (show (Try.prog.info? 22).isSome = true by kernel_rfl)
  rw [run_equalIn_array w (d + 1) _ _ Try.underlying26 hi, show Try.prog.cellsOf 22 = 1 by kernel_rfl]
  have hp : ∀ (xs : Array Value) (j : Nat) (v : Value) (w : World), xs[j]? = some v → (part 22 xs (j * 1)).run Try.prog w = .ok v w := fun xs j v w h => by
    rw [Nat.mul_one]
    simp [part, h, go_sem]
  simp [Op.eqItems, List.range, List.range.loop, go_sem, Try.underlying22]

/-- No machine. -/
def NoP (w : World) (p : Option Addr) : Prop := p = none ∨ ∃ b, p = some ⟨b, 0, none⟩ ∧ w.cell? ⟨b, 0, none⟩ = some (.bool false)
theorem NoP.kept {w w' : World} {p : Option Addr} (h : NoP w p) (hm : Mod No w w') : NoP w' p :=
  h.imp id (fun ⟨b, e, h⟩ => ⟨b, e, (World.cell?_of_block (w := w) (hm.block b (World.block_lt_of_cell? w _ h) (fun q => q))).trans h⟩)

theorem pnone_yes {p : Option Addr} (w : World) (h : NoP w p) : Calls Try.prog 39 #[.pointer p] w fun e w' => e = .returned (.bool true) ∧ w = w' := by
  rcases h with rfl | ⟨b, rfl, h⟩
  all_goals
    go_enter Try.func39, Try.ntmps39
    go_wp2
    go_ret
    exact ⟨rfl, rfl⟩
theorem psize_no {p : Option Addr} (w : World) (h : NoP w p) : Calls Try.prog 32 #[.pointer p] w fun e w' => e = .returned (.int .i64 0) ∧ w = w' := by
  go_enter Try.func32, Try.ntmps32
  go_wp2_with (go_at_call 39; refine (pnone_yes _ h).mono ?_; rintro e w' ⟨rfl, rfl⟩)
  go_ret
  exact ⟨rfl, rfl⟩
theorem pplaces_no {p : Option Addr} {root va n : Int} {bw : Bool} (w : World) (h : NoP w p) : Calls Try.prog 9 #[.pointer p, .int .i64 root, .int .u32 va, .int .i64 n, .bool bw] w fun e w' => e = .returned (.tuple #[.slice none 0 0, .int .i64 7]) ∧ w = w' := by
  go_enter Try.func9, Try.ntmps9
  go_wp2
  go_step3
  go_wp2_with (go_at_call 32; refine (psize_no _ h).mono ?_; rintro e w' ⟨rfl, rfl⟩)
  rw [Exit.noGoto_ret]
  go_ret2
  exact ⟨rfl, rfl⟩
theorem pfetch_no {p : Option Addr} {root va n : Int} (w : World) (h : NoP w p) : Calls Try.prog 6 #[.pointer p, .int .i64 root, .int .u32 va, .int .i64 n] w fun e w' => e = .returned (.tuple #[.slice none 0 0, .int .i64 7]) ∧ w = w' := by
  go_enter Try.func6, Try.ntmps6
  go_wp2_with (go_at_call 9; refine (pplaces_no _ h).mono ?_; rintro e w' ⟨rfl, rfl⟩)
  go_ret2
  exact ⟨rfl, rfl⟩

/-- A scope in which the run jumps on to one label, or does not: what the jump comes to is asked where it is made. -/
theorem wp_scope_fwd {P : Program} {a : Act} {w : World} {Q : Exit → Act → World → Prop} {c rest : Code} (l : Nat) (hf : findLabel c l = some rest)
    (first : c.wp P (Exit.jump l (fun a w => rest.wp P (Exit.noGoto Q) a w) Q) a w) : (Code.scope c).wp P Q a w := by
  refine wp_scope_jumps l _ (fun _ _ => 0) hf first (fun a w hJ => Code.wp_mono (fun e a w h => ?_) hJ)
  cases e with
  | goto l' => exact (h : False).elim
  | _ => exact h

set_option maxHeartbeats 8000000 in
theorem step_no {p : Option Addr} (root r0 r1 r2 r3 r4 r5 r6 r7 r8 : Int) (w : World) (h : NoP w p) :
    Calls Try.prog 4 #[.pointer p, .int .i64 root, .agg #[.int .u32 r0, .int .u32 r1, .int .u32 r2, .int .u32 r3, .int .u32 r4, .int .u32 r5, .int .u32 r6, .int .u32 r7, .int .u32 r8]] w fun e w' => e = .returned (.tuple #[.agg #[.int .u32 r0, .int .u32 r1, .int .u32 r2, .int .u32 r3, .int .u32 r4, .int .u32 r5, .int .u32 r6, .int .u32 r7, .int .u32 r8], .agg #[.int .i64 3, .int .u32 0, .int .u32 0, .int .u32 0, .int .u32 0, .int .u32 0, .int .u32 0, .int .i64 190]]) ∧ w' = ((((w.alloc (.cells #[.int .u32 r0, .int .u32 r1, .int .u32 r2, .int .u32 r3, .int .u32 r4, .int .u32 r5, .int .u32 r6, .int .u32 r7, .int .u32 r8] 25)).alloc (.cells #[.int .u32 r0, .int .u32 r1, .int .u32 r2, .int .u32 r3, .int .u32 r4, .int .u32 r5, .int .u32 r6, .int .u32 r7, .int .u32 r8] 25)).alloc (.cells #[.int .i64 3, .int .u32 0, .int .u32 0, .int .u32 0, .int .u32 0, .int .u32 0, .int .u32 0, .int .i64 190] 29)).alloc (.cells #[.int .u8 0, .int .u8 0, .int .u8 0, .int .u8 0] 40)) := by
  have HFE : Hid (∀ w' va, Mod No w w' → Calls Try.prog 6 #[.pointer p, .int .i64 root, .int .u32 va, .int .i64 4] w' fun e w2 => e = .returned (.tuple #[.slice none 0 0, .int .i64 7]) ∧ w' = w2) := fun w' va hm => pfetch_no w' (h.kept hm)
  go_enter Try.func4, Try.ntmps4
  go_wp2
  refine wp_scope_fwd 0 rfl ?_
  go_wp2_with fail
  refine (HFE.out _ _ (by repeat (first | exact Mod.refl _ _ | apply Mod.alloc))).mono ?_
  rintro e w2 ⟨rfl, rfl⟩
  go_wp2
  go_step3
  refine ⟨rfl, ?_⟩
  go_wp2
  rw [Exit.noGoto_ret]
  exact bodyPost_ret (v := .tuple #[.agg #[.int .u32 r0, .int .u32 r1, .int .u32 r2, .int .u32 r3, .int .u32 r4, .int .u32 r5, .int .u32 r6, .int .u32 r7, .int .u32 r8], .agg #[.int .i64 3, .int .u32 0, .int .u32 0, .int .u32 0, .int .u32 0, .int .u32 0, .int .u32 0, .int .i64 190]]) (by simp [results, Try.results4, go_sem]) rfl ⟨rfl, rfl⟩

set_option maxHeartbeats 8000000 in
theorem run_no {p : Option Addr} (root r0 r1 r2 r3 r4 r5 r6 r7 r8 : Int) (w : World) (h : NoP w p) :
    Calls Try.prog 5 #[.pointer p, .int .i64 root, .agg #[.int .u32 r0, .int .u32 r1, .int .u32 r2, .int .u32 r3, .int .u32 r4, .int .u32 r5, .int .u32 r6, .int .u32 r7, .int .u32 r8], .int .i64 3] w fun e w' => e = .returned (.tuple #[.agg #[.int .u32 r0, .int .u32 r1, .int .u32 r2, .int .u32 r3, .int .u32 r4, .int .u32 r5, .int .u32 r6, .int .u32 r7, .int .u32 r8], .int .i64 1, .agg #[.int .i64 3, .int .u32 0, .int .u32 0, .int .u32 0, .int .u32 0, .int .u32 0, .int .u32 0, .int .i64 190]]) ∧ Mod No w w' := by
  have HST : Hid (∀ w', Mod No w w' → Calls Try.prog 4 #[.pointer p, .int .i64 root, .agg #[.int .u32 r0, .int .u32 r1, .int .u32 r2, .int .u32 r3, .int .u32 r4, .int .u32 r5, .int .u32 r6, .int .u32 r7, .int .u32 r8]] w' fun e w2 => e = .returned (.tuple #[.agg #[.int .u32 r0, .int .u32 r1, .int .u32 r2, .int .u32 r3, .int .u32 r4, .int .u32 r5, .int .u32 r6, .int .u32 r7, .int .u32 r8], .agg #[.int .i64 3, .int .u32 0, .int .u32 0, .int .u32 0, .int .u32 0, .int .u32 0, .int .u32 0, .int .i64 190]]) ∧ w2 = ((((w'.alloc (.cells #[.int .u32 r0, .int .u32 r1, .int .u32 r2, .int .u32 r3, .int .u32 r4, .int .u32 r5, .int .u32 r6, .int .u32 r7, .int .u32 r8] 25)).alloc (.cells #[.int .u32 r0, .int .u32 r1, .int .u32 r2, .int .u32 r3, .int .u32 r4, .int .u32 r5, .int .u32 r6, .int .u32 r7, .int .u32 r8] 25)).alloc (.cells #[.int .i64 3, .int .u32 0, .int .u32 0, .int .u32 0, .int .u32 0, .int .u32 0, .int .u32 0, .int .i64 190] 29)).alloc (.cells #[.int .u8 0, .int .u8 0, .int .u8 0, .int .u8 0] 40))) := fun w' hm => step_no root r0 r1 r2 r3 r4 r5 r6 r7 r8 w' (h.kept hm)
  have he1 : ∀ w, (Op.equalIn 10000 23 (.agg #[.int .u32 r0, .int .u32 r1, .int .u32 r2, .int .u32 r3, .int .u32 r4, .int .u32 r5, .int .u32 r6, .int .u32 r7]) (.agg #[.int .u32 r0, .int .u32 r1, .int .u32 r2, .int .u32 r3, .int .u32 r4, .int .u32 r5, .int .u32 r6, .int .u32 r7])).run Try.prog w = .ok true w := fun w => eq8 9998 r0 r1 r2 r3 r4 r5 r6 r7 w
  have he2 : ∀ w, (Op.equalIn 9999 23 (.agg #[.int .u32 r0, .int .u32 r1, .int .u32 r2, .int .u32 r3, .int .u32 r4, .int .u32 r5, .int .u32 r6, .int .u32 r7]) (.agg #[.int .u32 r0, .int .u32 r1, .int .u32 r2, .int .u32 r3, .int .u32 r4, .int .u32 r5, .int .u32 r6, .int .u32 r7])).run Try.prog w = .ok true w := fun w => eq8 9997 r0 r1 r2 r3 r4 r5 r6 r7 w
  have he3 : ∀ w, (Op.equalIn 9999 26 (.agg #[.int .u32 0, .int .u32 0, .int .u32 0, .int .u32 0, .int .u32 0]) (.agg #[.int .u32 0, .int .u32 0, .int .u32 0, .int .u32 0, .int .u32 0])).run Try.prog w = .ok true w := fun w => eq5 9997 0 0 0 0 0 w
  go_enter Try.func5, Try.ntmps5
  go_wp2_with fail
  refine wp_loop_rounds 1 ?_
  rw [rounds_succ]
  go_wp2_with (go_at_call 4; refine (HST.out _ (by repeat (first | exact Mod.refl _ _ | apply Mod.alloc))).mono ?_; rintro e w2 ⟨rfl, rfl⟩)
  go_region
  all_goals go_wp2
  all_goals exact bodyPost_ret (v := .tuple #[.agg #[.int .u32 r0, .int .u32 r1, .int .u32 r2, .int .u32 r3, .int .u32 r4, .int .u32 r5, .int .u32 r6, .int .u32 r7, .int .u32 r8], .int .i64 1, .agg #[.int .i64 3, .int .u32 0, .int .u32 0, .int .u32 0, .int .u32 0, .int .u32 0, .int .u32 0, .int .i64 190]]) (by simp [results, Try.results5, go_sem]) rfl ⟨rfl, by repeat (first | exact Mod.refl _ _ | apply Mod.drew | apply Mod.alloc)⟩

/-- Cells of a block that stood. -/
theorem cells_of {w w' : World} (hm : Mod No w w') {b : Nat} {l : List Value} {t : TypeId} (h : w.heap[b]? = some (.cells l.toArray t (0, 0))) (j : Nat) : w'.cell? ⟨b, j, none⟩ = l[j]? := row_cell (hm.blk h (fun q => q)) j

set_option maxHeartbeats 8000000 in
theorem corezero_any (root r0 r1 r2 r3 r4 r5 r6 r7 r8 : Int) (w : World) :
    Calls Try.prog 3 #[.int .i64 root, .agg #[.int .u32 r0, .int .u32 r1, .int .u32 r2, .int .u32 r3, .int .u32 r4, .int .u32 r5, .int .u32 r6, .int .u32 r7, .int .u32 r8]] w fun e w' => e = .returned (.bool true) ∧ Mod No w w' := by
  have he2 : ∀ w, (Op.equalIn 9999 23 (.agg #[.int .u32 r0, .int .u32 r1, .int .u32 r2, .int .u32 r3, .int .u32 r4, .int .u32 r5, .int .u32 r6, .int .u32 r7]) (.agg #[.int .u32 r0, .int .u32 r1, .int .u32 r2, .int .u32 r3, .int .u32 r4, .int .u32 r5, .int .u32 r6, .int .u32 r7])).run Try.prog w = .ok true w := fun w => eq8 9997 r0 r1 r2 r3 r4 r5 r6 r7 w
  have he3 : ∀ w, (Op.equalIn 9999 26 (.agg #[.int .u32 0, .int .u32 0, .int .u32 0, .int .u32 0, .int .u32 0]) (.agg #[.int .u32 0, .int .u32 0, .int .u32 0, .int .u32 0, .int .u32 0])).run Try.prog w = .ok true w := fun w => eq5 9997 0 0 0 0 0 w
  have HST := Lib.hid (fun w' => step_no (p := none) root r0 r1 r2 r3 r4 r5 r6 r7 r8 w' (.inl rfl))
  go_enter Try.func3, Try.ntmps3
  go_wp2_with (go_at_call 4; refine (HST.out _).mono ?_; rintro e w2 ⟨rfl, rfl⟩)
  refine (run_no root r0 r1 r2 r3 r4 r5 r6 r7 r8 _ (.inr ⟨_, rfl, by have h := row_cell (l := [.bool false, .slice none 0 0]) (heap_alloc_new (((((((w.alloc (.cells #[.int .u32 r0, .int .u32 r1, .int .u32 r2, .int .u32 r3, .int .u32 r4, .int .u32 r5, .int .u32 r6, .int .u32 r7, .int .u32 r8] 25)).alloc (.cells #[.int .u32 r0, .int .u32 r1, .int .u32 r2, .int .u32 r3, .int .u32 r4, .int .u32 r5, .int .u32 r6, .int .u32 r7, .int .u32 r8] 25)).alloc (.cells #[.int .u32 r0, .int .u32 r1, .int .u32 r2, .int .u32 r3, .int .u32 r4, .int .u32 r5, .int .u32 r6, .int .u32 r7, .int .u32 r8] 25)).alloc (.cells #[.int .i64 3, .int .u32 0, .int .u32 0, .int .u32 0, .int .u32 0, .int .u32 0, .int .u32 0, .int .i64 190] 29)).alloc (.cells #[.int .u8 0, .int .u8 0, .int .u8 0, .int .u8 0] 40)).alloc (.cells #[.int .u32 r0, .int .u32 r1, .int .u32 r2, .int .u32 r3, .int .u32 r4, .int .u32 r5, .int .u32 r6, .int .u32 r7, .int .u32 r8] 25)).alloc (.cells #[.int .i64 3, .int .u32 0, .int .u32 0, .int .u32 0, .int .u32 0, .int .u32 0, .int .u32 0, .int .i64 190] 29)) (.cells #[.bool false, .slice none 0 0] 37)) 0; simpa using h⟩)).mono ?_
  rintro e w3 ⟨rfl, hm3⟩
  have h3 : w3.heap[w.heap.size]? = some (.cells ([.int .u32 r0, .int .u32 r1, .int .u32 r2, .int .u32 r3, .int .u32 r4, .int .u32 r5, .int .u32 r6, .int .u32 r7, .int .u32 r8] : List Value).toArray 25 (0, 0)) := hm3.blk (by have h := blk_alloc (blk_alloc (blk_alloc (blk_alloc (blk_alloc (blk_alloc (blk_alloc (heap_alloc_new w (.cells #[.int .u32 r0, .int .u32 r1, .int .u32 r2, .int .u32 r3, .int .u32 r4, .int .u32 r5, .int .u32 r6, .int .u32 r7, .int .u32 r8] 25)) (.cells #[.int .u32 r0, .int .u32 r1, .int .u32 r2, .int .u32 r3, .int .u32 r4, .int .u32 r5, .int .u32 r6, .int .u32 r7, .int .u32 r8] 25)) (.cells #[.int .u32 r0, .int .u32 r1, .int .u32 r2, .int .u32 r3, .int .u32 r4, .int .u32 r5, .int .u32 r6, .int .u32 r7, .int .u32 r8] 25)) (.cells #[.int .i64 3, .int .u32 0, .int .u32 0, .int .u32 0, .int .u32 0, .int .u32 0, .int .u32 0, .int .i64 190] 29)) (.cells #[.int .u8 0, .int .u8 0, .int .u8 0, .int .u8 0] 40)) (.cells #[.int .u32 r0, .int .u32 r1, .int .u32 r2, .int .u32 r3, .int .u32 r4, .int .u32 r5, .int .u32 r6, .int .u32 r7, .int .u32 r8] 25)) (.cells #[.int .i64 3, .int .u32 0, .int .u32 0, .int .u32 0, .int .u32 0, .int .u32 0, .int .u32 0, .int .i64 190] 29)) (.cells #[.bool false, .slice none 0 0] 37); simpa using h) (fun q => q)
  have h5 : w3.heap[w.heap.size + 1 + 1 + 1 + 1 + 1]? = some (.cells ([.int .u32 r0, .int .u32 r1, .int .u32 r2, .int .u32 r3, .int .u32 r4, .int .u32 r5, .int .u32 r6, .int .u32 r7, .int .u32 r8] : List Value).toArray 25 (0, 0)) := hm3.blk (by have h := blk_alloc (blk_alloc (heap_alloc_new (((((w.alloc (.cells #[.int .u32 r0, .int .u32 r1, .int .u32 r2, .int .u32 r3, .int .u32 r4, .int .u32 r5, .int .u32 r6, .int .u32 r7, .int .u32 r8] 25)).alloc (.cells #[.int .u32 r0, .int .u32 r1, .int .u32 r2, .int .u32 r3, .int .u32 r4, .int .u32 r5, .int .u32 r6, .int .u32 r7, .int .u32 r8] 25)).alloc (.cells #[.int .u32 r0, .int .u32 r1, .int .u32 r2, .int .u32 r3, .int .u32 r4, .int .u32 r5, .int .u32 r6, .int .u32 r7, .int .u32 r8] 25)).alloc (.cells #[.int .i64 3, .int .u32 0, .int .u32 0, .int .u32 0, .int .u32 0, .int .u32 0, .int .u32 0, .int .i64 190] 29)).alloc (.cells #[.int .u8 0, .int .u8 0, .int .u8 0, .int .u8 0] 40)) (.cells #[.int .u32 r0, .int .u32 r1, .int .u32 r2, .int .u32 r3, .int .u32 r4, .int .u32 r5, .int .u32 r6, .int .u32 r7, .int .u32 r8] 25)) (.cells #[.int .i64 3, .int .u32 0, .int .u32 0, .int .u32 0, .int .u32 0, .int .u32 0, .int .u32 0, .int .i64 190] 29)) (.cells #[.bool false, .slice none 0 0] 37); simpa using h) (fun q => q)
  have h6 : w3.heap[w.heap.size + 1 + 1 + 1 + 1 + 1 + 1]? = some (.cells ([.int .i64 3, .int .u32 0, .int .u32 0, .int .u32 0, .int .u32 0, .int .u32 0, .int .u32 0, .int .i64 190] : List Value).toArray 29 (0, 0)) := hm3.blk (by have h := blk_alloc (heap_alloc_new ((((((w.alloc (.cells #[.int .u32 r0, .int .u32 r1, .int .u32 r2, .int .u32 r3, .int .u32 r4, .int .u32 r5, .int .u32 r6, .int .u32 r7, .int .u32 r8] 25)).alloc (.cells #[.int .u32 r0, .int .u32 r1, .int .u32 r2, .int .u32 r3, .int .u32 r4, .int .u32 r5, .int .u32 r6, .int .u32 r7, .int .u32 r8] 25)).alloc (.cells #[.int .u32 r0, .int .u32 r1, .int .u32 r2, .int .u32 r3, .int .u32 r4, .int .u32 r5, .int .u32 r6, .int .u32 r7, .int .u32 r8] 25)).alloc (.cells #[.int .i64 3, .int .u32 0, .int .u32 0, .int .u32 0, .int .u32 0, .int .u32 0, .int .u32 0, .int .i64 190] 29)).alloc (.cells #[.int .u8 0, .int .u8 0, .int .u8 0, .int .u8 0] 40)).alloc (.cells #[.int .u32 r0, .int .u32 r1, .int .u32 r2, .int .u32 r3, .int .u32 r4, .int .u32 r5, .int .u32 r6, .int .u32 r7, .int .u32 r8] 25)) (.cells #[.int .i64 3, .int .u32 0, .int .u32 0, .int .u32 0, .int .u32 0, .int .u32 0, .int .u32 0, .int .i64 190] 29)) (.cells #[.bool false, .slice none 0 0] 37); simpa using h) (fun q => q)
  have h3l := lt_of_blk h3
  have h3k := Nat.lt_succ_of_lt h3l
  have h5l := lt_of_blk h5
  have h5k := Nat.lt_succ_of_lt h5l
  have h6l := lt_of_blk h6
  have h6k := Nat.lt_succ_of_lt h6l
  have HM3 : Hid (Mod No w w3) := Lib.hid (Mod.trans (by repeat (first | exact Mod.refl _ _ | apply Mod.alloc)) hm3)
  have h3c0 := row_cell h3 0
  have h3c1 := row_cell h3 1
  have h3c2 := row_cell h3 2
  have h3c3 := row_cell h3 3
  have h3c4 := row_cell h3 4
  have h3c5 := row_cell h3 5
  have h3c6 := row_cell h3 6
  have h3c7 := row_cell h3 7
  have h3c8 := row_cell h3 8
  have h5c0 := row_cell h5 0
  have h5c1 := row_cell h5 1
  have h5c2 := row_cell h5 2
  have h5c3 := row_cell h5 3
  have h5c4 := row_cell h5 4
  have h5c5 := row_cell h5 5
  have h5c6 := row_cell h5 6
  have h5c7 := row_cell h5 7
  have h5c8 := row_cell h5 8
  have h6c0 := row_cell h6 0
  have h6c1 := row_cell h6 1
  have h6c2 := row_cell h6 2
  have h6c3 := row_cell h6 3
  have h6c4 := row_cell h6 4
  have h6c5 := row_cell h6 5
  have h6c6 := row_cell h6 6
  have h6c7 := row_cell h6 7
  simp only [List.getElem?_cons_zero, List.getElem?_cons_succ] at h3c0 h3c1 h3c2 h3c3 h3c4 h3c5 h3c6 h3c7 h3c8 h5c0 h5c1 h5c2 h5c3 h5c4 h5c5 h5c6 h5c7 h5c8 h6c0 h6c1 h6c2 h6c3 h6c4 h6c5 h6c6 h6c7
  clear h3 h5 h6 hm3 HST
  generalize w.heap.size + 1 + 1 + 1 + 1 + 1 + 1 + 1 = b7 at *
  generalize w.heap.size + 1 + 1 + 1 + 1 + 1 + 1 = b6 at *
  generalize w.heap.size + 1 + 1 + 1 + 1 + 1 = b5 at *
  generalize w.heap.size = b3 at *
  go_wp2
  go_ret
  exact ⟨rfl, ((HM3.out.alloc _).alloc _)⟩

end Go.Proofs.Ytddhjnbiabmglaa
