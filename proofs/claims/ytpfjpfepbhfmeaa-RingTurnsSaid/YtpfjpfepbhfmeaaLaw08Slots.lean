/- tenementlaw08.RingSlots: the walk. -/
import Derived.Test.YtpfjpfepbhfmeaaLaw08Slot
namespace Go.Proofs.Ytpfjpfepbhfmeaa
open Go.RowKit
set_option maxRecDepth 100000

theorem splice_zero_take {l bs : List Int} : (splice l 0 bs).take bs.length = bs := by
  unfold splice
  rw [List.take_zero, List.nil_append, List.take_append_of_le_length (Nat.le_refl _), List.take_of_length_le (Nat.le_refl _)]

/-- A back end that has taken and laid i. -/
def bkI (i : Int) : Bk := ⟨0, i, i, i⟩

theorem slots_look {g : List Int} (i : Nat) (hi : i < 600) : (bkI i).look (pgF (splice g 0 (twoB ((i : Int) + 1)))) = ((1, false, 0), ⟨0, i, i, (i : Int) + 1⟩) := by
  rw [look_in (f := { ownFr with bytes := splice g 0 (twoB ((i : Int) + 1)) }) (by simp [bkI]) rfl]
  have h1 : ((splice g 0 (twoB ((i : Int) + 1))).drop 0).take 2 = twoB ((i : Int) + 1) := by
    rw [List.drop_zero]
    exact splice_zero_take (bs := twoB ((i : Int) + 1))
  have h2 : word2 (twoB ((i : Int) + 1)) = (i : Int) + 1 := by
    show ((i : Int) + 1) % 256 + 256 * (((i : Int) + 1) / 256) = _
    omega
  have h3 : aheadR ((i : Int) + 1) i = (1, false) := by
    unfold aheadR
    rw [show ((i : Int) + 1 - i) % 65536 = 1 by omega]; rfl
  simp only [h1, h2, bkI, h3]
  congr 2
  omega

theorem slots_ans {g : List Int} (i : Nat) (hi : i < 600) (bs : List Int) (hb : bs.length = 8) :
    ansR (pgF g) ⟨0, (i : Int) + 1, i, (i : Int) + 1⟩ bs = pgF (splice (splice g (144 + 8 * (i % 8)) bs) 2 (twoB ((i : Int) + 1))) := by
  unfold ansR Bk.aslot Bk.laid
  simp only
  rw [(wr_pg (by omega) (by omega)).1, show (144 + 8 * ((i : Int) % 8)).toNat = 144 + 8 * (i % 8) by omega, show ((i : Int) + 1) % 65536 = (i : Int) + 1 by omega, (wr_pg (by omega) (by simp [twoB])).1]
  rfl

theorem splice_two {g : List Int} {a b : Int} (h : g.length = 256) : splice g 2 [a, b] = (g.set 2 a).set 3 b := by
  have h1 := splice_step (l := g) (bs := [a, b]) (o := 2) (k := 0) (x := a) (by simp; omega) rfl
  have h2 := splice_step (l := g) (bs := [a, b]) (o := 2) (k := 1) (x := b) (by simp; omega) rfl
  have h0 : splice g 2 (([a, b] : List Int).take 0) = g := by simp [splice]
  rw [h0] at h1
  rw [← h1] at h2
  exact h2.symm

theorem conv_front {w : World} {g : Nat} {W : List Int} {rest : List Value} {n c : Nat} (h : w.heap[g]? = some (.cells (W.map (Value.int .u8) ++ rest).toArray 5 (0, 0))) (hn : W.length = n) :
    (convert 31 9 (.slice (some ⟨g, 0, none⟩) n c)).run Try.prog w = .ok (.string (strOfNums W)) w := by
  refine run_convert_bytes_arg w 31 5 Try.underlying31 Try.underlying5 g 0 n c W hn (fun i hi => ?_) 9 Try.underlying9
  have hl : i < W.length := by omega
  rw [Nat.zero_add, row_cell h, List.getElem?_append_left (by simpa using hl), List.getElem?_map, List.getElem?_eq_getElem hl, List.getD_eq_getElem?_getD, List.getElem?_eq_getElem hl]
  rfl
theorem front_set {w : World} {g : Nat} {W : List Int} {rest : List Value} (h : w.heap[g]? = some (.cells (W.map (Value.int .u8) ++ rest).toArray 5 (0, 0))) (j : Nat) (hj : j < W.length) (x : Int) :
    (w.setCell ⟨g, j, none⟩ (.int .u8 x)).heap[g]? = some (.cells ((W.set j x).map (Value.int .u8) ++ rest).toArray 5 (0, 0)) := by
  have := row_set h j (.int .u8 x)
  rwa [List.set_append_left _ _ (by simpa using hj), ← List.map_set] at this
theorem front_cell {w : World} {g : Nat} {W : List Int} {rest : List Value} (h : w.heap[g]? = some (.cells (W.map (Value.int .u8) ++ rest).toArray 5 (0, 0))) (j : Nat) (hj : j < W.length) :
    ∃ x, w.cell? ⟨g, j, none⟩ = some x := ⟨_, by rw [row_cell h]; exact List.getElem?_eq_getElem (by simp; omega)⟩
theorem own_front {w : World} {base n : Nat} {v : Value} {W : List Int} (h : w.ownsRow base 5 1 v n (W.map (Value.int .u8))) (hn : 0 < n) :
    ∃ g cap rest, v = .slice (some ⟨g, 0, none⟩) n cap ∧ n ≤ cap ∧ base ≤ g ∧ w.heap[g]? = some (.cells (W.map (Value.int .u8) ++ rest).toArray 5 (0, 0)) := by
  rcases h.2 with ⟨_, e⟩ | ⟨g, cap, cur, e, hg, hr, hc, hm, hs, ht⟩
  · omega
  · refine ⟨g, cap, cur.toList.drop (n * 1), e, hc, hg, ?_⟩
    rw [hr, ← ht, List.take_append_drop]

end Go.Proofs.Ytpfjpfepbhfmeaa
