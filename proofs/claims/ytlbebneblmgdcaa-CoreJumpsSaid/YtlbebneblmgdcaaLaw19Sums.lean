/- Programs of one instruction in begin's frames: what is fetched. -/
import Derived.Test.YtlbebneblmgdcaaCoreStepA
import Derived.Test.YtlbebneblmgdcaaLaw19BeginW
import Derived.ChangeKeysEq
import Derived.Laws.EntriesVeiled
namespace Go.Proofs.Ytlbebneblmgdcaa
open Go.RowKit
set_option maxRecDepth 100000

theorem fetch_sums (q : Option Addr) (c : Nat) (o x y z : Int) : fetchR (begS [⟨2, 0, q, [o, x, y, z], c⟩]) 0 0 4 = (0, [o, x, y, z]) := by kernel_rfl
theorem fetch_jumps (q : Option Addr) (c : Nat) (o x y z : Int) : fetchR (begS [⟨2, 8, q, [o, x, y, z], c⟩]) 0 8 4 = (0, [o, x, y, z]) := by kernel_rfl

theorem sums_step (q : Option Addr) (c : Nat) (o x y z : Nat) (ho : 4 ≤ o ∧ o ≤ 12) (hx : x < 8) (hy : y < 8) (hz : z < 8) (R : List Int) :
    stepR (begS [⟨2, 0, q, [(o : Int), x, y, z], c⟩]) 0 R 0 = ⟨R.set x (opR o (R.getD y 0) (R.getD z 0)), 4, goesS, begS [⟨2, 0, q, [(o : Int), x, y, z], c⟩]⟩ := by
  unfold stepR
  rw [fetch_sums]
  generalize begS [⟨2, 0, q, [(o : Int), x, y, z], c⟩] = S
  simp only [List.getD_cons_zero, List.getD_cons_succ, ne_eq, not_true_eq_false, if_false]
  unfold workR
  rw [if_neg (show ¬ (20 < (o : Int)) by omega), if_neg (show ¬ ((1 ≤ namedR o ∧ 7 < (x : Int)) ∨ (2 ≤ namedR o ∧ 7 < (y : Int)) ∨ (3 ≤ namedR o ∧ 7 < (z : Int))) by omega)]
  have hd : doR S 0 R ((0 + 4) % 1048576) o x y z = ⟨R.set x (opR o (R.getD y 0) (R.getD z 0)), 4, goesS, S⟩ := by
    unfold doR
    rw [if_neg (by omega), if_neg (by omega), if_neg (by omega), if_neg (by omega), if_pos (show (o : Int) ≤ 12 by omega), Int.toNat_natCast, Int.toNat_natCast, Int.toNat_natCast]
    rfl
  rw [hd]
  exact if_neg (by simp [goesS])

theorem set_cells8 {r0 r1 r2 r3 r4 r5 r6 r7 s0 s1 s2 s3 s4 s5 s6 s7 v : Int} {x : Nat} (hx : x < 8) (h : [r0, r1, r2, r3, r4, r5, r6, r7].set x v = [s0, s1, s2, s3, s4, s5, s6, s7]) :
    (([.int .u32 r0, .int .u32 r1, .int .u32 r2, .int .u32 r3, .int .u32 r4, .int .u32 r5, .int .u32 r6, .int .u32 r7, .int .u32 0] : List Value).set x (.int .u32 v)).set 8 (.int .u32 4) = [.int .u32 s0, .int .u32 s1, .int .u32 s2, .int .u32 s3, .int .u32 s4, .int .u32 s5, .int .u32 s6, .int .u32 s7, .int .u32 4] := by
  rcases (show x = 0 ∨ x = 1 ∨ x = 2 ∨ x = 3 ∨ x = 4 ∨ x = 5 ∨ x = 6 ∨ x = 7 by omega) with rfl | rfl | rfl | rfl | rfl | rfl | rfl | rfl <;>
    (simp only [List.set_cons_zero, List.set_cons_succ, List.cons.injEq, and_true] at h ⊢; simp [h])
theorem eq8 (d : Nat) (a0 a1 a2 a3 a4 a5 a6 a7 : Int) (w : World) : (Op.equalIn (d + 2) 23 (.agg #[.int .u32 a0, .int .u32 a1, .int .u32 a2, .int .u32 a3, .int .u32 a4, .int .u32 a5, .int .u32 a6, .int .u32 a7]) (.agg #[.int .u32 a0, .int .u32 a1, .int .u32 a2, .int .u32 a3, .int .u32 a4, .int .u32 a5, .int .u32 a6, .int .u32 a7])).run Try.prog w = .ok true w := by
  obtain ⟨i, hi⟩ : ∃ i, Try.prog.info? 22 = some i := Option.isSome_iff_exists.1 (show (Try.prog.info? 22).isSome = true by kernel_rfl)
  rw [run_equalIn_array w (d + 1) _ _ Try.underlying23 hi, show Try.prog.cellsOf 22 = 1 by kernel_rfl]
  have hp : ∀ (xs : Array Value) (j : Nat) (v : Value) (w : World), xs[j]? = some v → (part 22 xs (j * 1)).run Try.prog w = .ok v w := fun xs j v w h => by
    rw [Nat.mul_one]
    simp [part, h, go_sem]
  simp [Op.eqItems, List.range, List.range.loop, go_sem, Try.underlying22]
theorem eq5 (d : Nat) (a0 a1 a2 a3 a4 : Int) (w : World) : (Op.equalIn (d + 2) 34 (.agg #[.int .u32 a0, .int .u32 a1, .int .u32 a2, .int .u32 a3, .int .u32 a4]) (.agg #[.int .u32 a0, .int .u32 a1, .int .u32 a2, .int .u32 a3, .int .u32 a4])).run Try.prog w = .ok true w := by
  obtain ⟨i, hi⟩ : ∃ i, Try.prog.info? 22 = some i := Option.isSome_iff_exists.1 (show (Try.prog.info? 22).isSome = true by kernel_rfl)
  rw [run_equalIn_array w (d + 1) _ _ Try.underlying34 hi, show Try.prog.cellsOf 22 = 1 by kernel_rfl]
  have hp : ∀ (xs : Array Value) (j : Nat) (v : Value) (w : World), xs[j]? = some v → (part 22 xs (j * 1)).run Try.prog w = .ok v w := fun xs j v w h => by
    rw [Nat.mul_one]
    simp [part, h, go_sem]
  simp [Op.eqItems, List.range, List.range.loop, go_sem, Try.underlying22]
theorem wf_small (n : Int) (h : 0 ≤ n ∧ n ≤ 100) : (Lit.int .i64 n).wf = true := by
  simp only [Lit.wf, Bool.and_eq_true, decide_eq_true_eq]
  exact ⟨by show (-9223372036854775808 : Int) ≤ n; omega, by show n ≤ 9223372036854775807; omega⟩
theorem list8 {l : List Int} (h : l.length = 8) : ∃ s0 s1 s2 s3 s4 s5 s6 s7, l = [s0, s1, s2, s3, s4, s5, s6, s7] := by
  match l, h with
  | [s0, s1, s2, s3, s4, s5, s6, s7], _ => exact ⟨s0, s1, s2, s3, s4, s5, s6, s7, rfl⟩
theorem one_puts {w : World} {g1 g2 : Nat} {fr of : Int} {bs : List Int} (h1 : w.heap[g1]? = some (.cells (bs.map (Value.int .u8)).toArray 5 (0, 0))) (h2 : w.heap[g2]? = some (.cells ([.int .i64 fr, .int .i64 of, .slice (some ⟨g1, 0, none⟩) bs.length bs.length] : List Value).toArray 32 (0, 0)))
    (hf : 0 ≤ fr ∧ fr ≤ 100) (ho : 0 ≤ of ∧ of ≤ 100) (hr : ∀ x ∈ bs, 0 ≤ x ∧ x ≤ 255) (hl : bs.length ≤ 256) : KPutS w (some ⟨g2, 0, none⟩) [⟨fr, of, some ⟨g1, 0, none⟩, bs, bs.length⟩] := by
  refine ⟨fun o ho' => ?_, fun _ => ⟨g2, 0, rfl, lt_of_blk h2, fun i o hi j v hj => ?_⟩⟩
  · obtain rfl := List.mem_singleton.1 ho'
    refine ⟨wf_small _ hf, wf_small _ ho, ⟨hr, Nat.le_refl _, Nat.le_trans hl (by omega), (fun q => by cases q), fun _ => ⟨g1, 0, rfl, lt_of_blk h1, fun j v hj => ?_⟩⟩⟩
    rw [row_cell h1, Nat.zero_add, List.getElem?_map, hj]; rfl
  · obtain ⟨rfl, rfl⟩ : i = 0 ∧ o = ⟨fr, of, some ⟨g1, 0, none⟩, bs, bs.length⟩ := by
      match i, hi with
      | 0, h => exact ⟨rfl, (Option.some.inj h).symm⟩
      | i + 1, h => simp at h
    rw [row_cell h2, Nat.zero_mul, Nat.zero_add, Nat.zero_add]
    exact hj

end Go.Proofs.Ytlbebneblmgdcaa
