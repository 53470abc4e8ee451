/- phys.Machine: Alloc where it is known which frame is the least free one; bytes as a text. -/
import Derived.Test.YthfkpbfapkpnfabPhysAlloc2
import Derived.Test.YthfkpbfapkpnfabPhysPut
import Derived.Test.YthfkpbfapkpnfabPhysNew
import Derived.Laws.BytesArg
namespace Go.Proofs.Ythfkpbfapkpnfab
open Go.RowKit
set_option maxRecDepth 100000

theorem alloc_some {B F : Nat} {S : List Fr} (o : Int) (w : World) (h : PhM w B F S) (ho : (0 ≤ o ∧ o < 8) ∨ o = -2) {k : Nat} {f : Fr} {r : List Int} (hk : idxs S (-1) S.length = (k : Int) :: r) (hf : S[k]? = some f) :
    Calls Try.prog 15 #[.pointer (some ⟨B, 0, none⟩), .int .i64 o] w fun e w' =>
      e = .returned (.tuple #[.int .i64 k, .int .i64 0]) ∧ Mod (One F) w w' ∧ PhM w' B F (S.set k { f with owner := o }) := by
  have main : ∀ e w', AllocPost B F S o w e w' → e = .returned (.tuple #[.int .i64 k, .int .i64 0]) ∧ Mod (One F) w w' ∧ PhM w' B F (S.set k { f with owner := o }) := by
    rintro e w' (⟨h1, _⟩ | ⟨k', f', hf', ⟨q, hq⟩, he, hm, hP⟩)
    · rw [hk] at h1; cases h1
    · rw [hk] at hq
      have : k' = k := by
        have := (List.cons.inj hq).1
        omega
      subst this
      rw [hf] at hf'
      cases hf'
      exact ⟨he, hm, hP⟩
  rcases ho with ho | rfl
  · exact (alloc_dom o w h ho).mono main
  · exact (alloc_hyp w h).mono main

theorem alloc_full {B F : Nat} {S : List Fr} (o : Int) (w : World) (h : PhM w B F S) (ho : (0 ≤ o ∧ o < 8) ∨ o = -2) (hk : idxs S (-1) S.length = []) :
    Calls Try.prog 15 #[.pointer (some ⟨B, 0, none⟩), .int .i64 o] w fun e w' => e = .returned (.tuple #[.int .i64 0, .int .i64 10]) ∧ Mod No w w' := by
  have main : ∀ e w', AllocPost B F S o w e w' → e = .returned (.tuple #[.int .i64 0, .int .i64 10]) ∧ Mod No w w' := by
    rintro e w' (⟨_, h2, h3⟩ | ⟨k', f', hf', ⟨q, hq⟩, he, hm, hP⟩)
    · exact ⟨h2, h3⟩
    · rw [hk] at hq; cases hq
  rcases ho with ho | rfl
  · exact (alloc_dom o w h ho).mono main
  · exact (alloc_hyp w h).mono main

theorem Src.kept {P : Nat → Prop} {w w' : World} {p : Option Addr} {bs : List Int} (h : Src w p bs) (hm : Mod P w w') (hp : ∀ ad, p = some ad → ad.block < w.heap.size → ¬ P ad.block) : Src w' p bs := by
  refine ⟨h.range, fun h0 => ?_⟩
  obtain ⟨ad, rfl, hc⟩ := h.cells h0
  have add_block : ∀ j, (ad.add j).block = ad.block := by intro j; unfold Addr.add; split <;> rfl
  refine ⟨ad, rfl, fun j b hj => ?_⟩
  have h1 := hc j b hj
  have hlt := World.block_lt_of_cell? w _ h1
  rw [add_block] at hlt
  exact (World.cell?_of_block (w := w) (by rw [add_block]; exact hm.block _ hlt (hp ad rfl hlt))).trans h1

/-- A row of bytes that is the call's own, as a source. -/
theorem Src.row {w : World} {g : Nat} {bs : List Int} {t : TypeId} (hg : w.heap[g]? = some (.cells (bs.map (Value.int .u8)).toArray t (0, 0))) (hr : ∀ b ∈ bs, 0 ≤ b ∧ b ≤ 255) : Src w (some ⟨g, 0, none⟩) bs := by
  refine ⟨hr, fun _ => ⟨_, rfl, fun j b hj => ?_⟩⟩
  rw [Addr.add_lit, Nat.zero_add, row_cell hg]
  simp [hj]

/-- The conversion of a row of bytes to a text, in every world that has the row. -/
theorem conv_row {w : World} {g : Nat} {bs : List Int} {t : TypeId} (hg : w.heap[g]? = some (.cells (bs.map (Value.int .u8)).toArray t (0, 0))) (off n c : Nat) (xs : List Int) (hx : xs = (bs.drop off).take n) (hn : off + n ≤ bs.length) :
    (convert 33 9 (.slice (some ⟨g, off, none⟩) n c)).run Try.prog w = .ok (.string (strOfNums xs)) w := by
  have hl : xs.length = n := by rw [hx]; simp; omega
  refine run_convert_bytes_arg w 33 5 Try.underlying33 Try.underlying5 g off n c xs hl (fun i hi => ?_) 9 Try.underlying9
  rw [row_cell hg, List.getElem?_map]
  have h1 : xs[i]? = bs[off + i]? := by rw [hx, List.getElem?_take_of_lt hi, List.getElem?_drop]
  rw [← h1, List.getD_eq_getElem?_getD]
  rw [List.getElem?_eq_getElem (by omega)]
  rfl

end Go.Proofs.Ythfkpbfapkpnfab
