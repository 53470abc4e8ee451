/- Opening a slice of bytes that came in. -/
import Derived.Test.YtmdeljacbekbpaaDoorChecked
import Derived.Test.YtmdeljacbekbpaaDoorPhysG
import Derived.WalkKit
import Derived.ProofKit
import Derived.OpenShut
import Derived.ShutString
import Derived.ChangeOld
import Derived.Below
import Derived.Carry
import Derived.SizedLaws
namespace Go.Proofs.YtmdeljacbekbpaaDoor
open Go.ChangeShapes Go.WideShapes Go.ChangeAt Go.RowKit
set_option maxRecDepth 100000

theorem row_own : ownKnob Tryd.prog.godebug = none := by kernel_rfl
theorem row_laid : laidOutB Tryd.prog = true := by kernel_rfl
theorem row_cellsU8 : Tryd.prog.cellsOf 5 = 1 := by kernel_rfl

theorem open_bytes {H : Type} {enc : TypeId × Value → H} {W : World} {base : Nat} {v : Value} {d : DataW H} {ps : List MemPlace} (hv : Value.okWide Tryd.prog W .any base 22 v)
    (h : DataW.Trod enc Tryd.prog W 0 (fun _ => true) true 22 v d ps) :
    ∃ q len cap, ∃ bs : List Int, v = .slice q len cap ∧ bs.length = len ∧ len ≤ cap ∧ cap ≤ maxLen ∧ Src W q bs ∧
      (0 < len → ∃ b o, q = some ⟨b, o, none⟩ ∧ ∀ j x, bs[j]? = some x → W.cell? ⟨b, o + j, none⟩ = some (.int .u8 x)) := by
  obtain ⟨a0, len, cap, rfl⟩ := okWide_slice Tryd.underlying22 hv
  obtain ⟨fuel, hf⟩ := h
  rcases open_ints Tryd.underlying22 Tryd.underlying5 row_cellsU8 hf with ⟨hcs, _⟩ | ⟨a, len', cap', zs, hcs, _, hl, hm, hz, _, hcell, hwz⟩
  · simp only [Value.cells, List.cons.injEq, Value.slice.injEq, and_true] at hcs
    obtain ⟨rfl, rfl, rfl⟩ := hcs
    exact ⟨none, 0, 0, [], rfl, rfl, Nat.le_refl _, Nat.zero_le _, Src.nil _ _, fun h => absurd h (by omega)⟩
  · simp only [Value.cells, List.cons.injEq, Value.slice.injEq, and_true] at hcs
    obtain ⟨rfl, rfl, rfl⟩ := hcs
    simp only [if_true] at hz
    have hlen : (zs.take len).length = len := by rw [List.length_take]; omega
    have hget : ∀ j x, (zs.take len)[j]? = some x → j < len ∧ zs[j]? = some x := by
      intro j x hj
      have hjl : j < (zs.take len).length := (List.getElem?_eq_some_iff.1 hj).1
      rw [hlen] at hjl
      rw [List.getElem?_take_of_lt hjl] at hj
      exact ⟨hjl, hj⟩
    have hcl : ∀ j x, (zs.take len)[j]? = some x → W.cell? (a.add j) = some (.int .u8 x) := by
      intro j x hj
      obtain ⟨hjl, hj'⟩ := hget j x hj
      rw [hcell j (by omega), List.getD_eq_getElem?_getD, hj']; rfl
    have hrange : ∀ b ∈ zs.take len, 0 ≤ b ∧ b ≤ 255 := fun b hb => bounds_u8 (hwz b (List.mem_of_mem_take hb))
    refine ⟨some a, len, cap, zs.take len, rfl, hlen, hl, hm, ⟨hrange, fun _ => ⟨a, rfl, hcl⟩⟩, fun h0 => ?_⟩
    obtain ⟨b, off, rfl, hc⟩ := ints_at hcell (by omega)
    refine ⟨b, off, rfl, fun j x hj => ?_⟩
    obtain ⟨hjl, hj'⟩ := hget j x hj
    rw [hc j (by omega), List.getD_eq_getElem?_getD, hj']; rfl

theorem row_cellsInt : Tryd.prog.cellsOf 3 = 1 := by kernel_rfl
theorem row_bytesInt : Tryd.prog.bytesOf 3 = 8 := by kernel_rfl

theorem open_nums {H : Type} {enc : TypeId × Value → H} {W : World} {base : Nat} {v : Value} {d : DataW H} {ps : List MemPlace} (hv : Value.okWide Tryd.prog W .any base 134 v)
    (h : DataW.Trod enc Tryd.prog W 0 (fun _ => true) true 134 v d ps) :
    ∃ q len cap, ∃ bs : List Int, v = .slice q len cap ∧ bs.length = len ∧ len ≤ cap ∧ cap ≤ maxLen ∧ (d = .nil ∧ len = 0 ∨ ∃ es sp, d = .slice es sp ∧ es.length = len) ∧
      (∀ x ∈ bs, (Lit.int .i64 x).wf = true) ∧
      (0 < len → ∃ b o, q = some ⟨b, o, none⟩ ∧ ∀ j x, bs[j]? = some x → W.cell? ⟨b, o + j, none⟩ = some (.int .i64 x)) := by
  obtain ⟨a0, len, cap, rfl⟩ := okWide_slice Tryd.underlying134 hv
  obtain ⟨fuel, hf⟩ := h
  rcases open_ints Tryd.underlying134 Tryd.underlying3 row_cellsInt hf with ⟨hcs, hx⟩ | ⟨a, len', cap', zs, hcs, _, hl, hm, hz, hx, hcell, hwz⟩
  · simp only [Value.cells, List.cons.injEq, Value.slice.injEq, and_true] at hcs
    obtain ⟨rfl, rfl, rfl⟩ := hcs
    exact ⟨none, 0, 0, [], rfl, rfl, Nat.le_refl _, Nat.zero_le _, .inl ⟨(Prod.mk.inj hx).1, rfl⟩, by simp, fun h => absurd h (by omega)⟩
  · simp only [Value.cells, List.cons.injEq, Value.slice.injEq, and_true] at hcs
    obtain ⟨rfl, rfl, rfl⟩ := hcs
    simp only [if_true] at hz
    have hlen : (zs.take len).length = len := by rw [List.length_take]; omega
    have hget : ∀ j x, (zs.take len)[j]? = some x → j < len ∧ zs[j]? = some x := by
      intro j x hj
      have hjl : j < (zs.take len).length := (List.getElem?_eq_some_iff.1 hj).1
      rw [hlen] at hjl
      rw [List.getElem?_take_of_lt hjl] at hj
      exact ⟨hjl, hj⟩
    refine ⟨some a, len, cap, zs.take len, rfl, hlen, hl, hm, .inr ⟨_, _, (Prod.mk.inj hx).1, by simp [lits]; omega⟩, fun b hb => hwz b (List.mem_of_mem_take hb), fun h0 => ?_⟩
    obtain ⟨b, off, rfl, hc⟩ := ints_at hcell (by omega)
    refine ⟨b, off, rfl, fun j x hj => ?_⟩
    obtain ⟨hjl, hj'⟩ := hget j x hj
    rw [hc j (by omega), List.getD_eq_getElem?_getD, hj']; rfl

end Go.Proofs.YtmdeljacbekbpaaDoor
