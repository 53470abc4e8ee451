/- What is put out, plainly: the page's bytes. -/
import Derived.Test.YtmdeljacbekbpaaDoorFeedPure
import Derived.Test.YtmdeljacbekbpaaDoorConsDW
namespace Go.Proofs.YtmdeljacbekbpaaDoor
open Go.RowKit
set_option maxRecDepth 100000

def putB (g : List Int) (p : Nat) : List Int → List Int
  | [] => g
  | x :: xs => putB (splice g (16 + p % 128) [x]) (p + 1) xs
theorem one_len (x : Int) : ([x] : List Int).length = 1 := rfl
theorem putB_size : ∀ (xs g : List Int) (p : Nat), g.length = 256 → (putB g p xs).length = 256
  | [], _, _, h => h
  | x :: xs, g, p, h => by
    rw [putB]
    exact putB_size xs _ _ (splice_size h (by rw [one_len]; omega))
theorem putB_snoc : ∀ (xs g : List Int) (p : Nat) (x : Int), putB g p (xs ++ [x]) = splice (putB g p xs) (16 + (p + xs.length) % 128) [x]
  | [], g, p, x => by simp [putB]
  | y :: xs, g, p, x => by
    rw [List.cons_append, putB, putB, putB_snoc xs]
    congr 2
    simp only [List.length_cons]
    omega
theorem putB_other : ∀ (xs g : List Int) (p r : Nat), g.length = 256 → r < 256 → (∀ j, j < xs.length → r ≠ 16 + (p + j) % 128) → (putB g p xs)[r]? = g[r]?
  | [], _, _, _, _, _, _ => rfl
  | x :: xs, g, p, r, h, hr, hn => by
    have h0 := hn 0 (by simp)
    rw [putB, putB_other xs _ _ r (splice_size h (by rw [one_len]; omega)) hr (fun j hj => by
      have := hn (j + 1) (by simp; omega)
      omega), splice_at h (by rw [one_len]; omega) r hr, if_neg]
    rw [one_len]
    omega
theorem putB_at : ∀ (xs g : List Int) (p j : Nat) (x : Int), g.length = 256 → xs.length ≤ 128 → xs[j]? = some x → (putB g p xs)[16 + (p + j) % 128]? = some x
  | [], _, _, _, _, _, _, hx => by simp at hx
  | y :: xs, g, p, j, x, h, hl, hx => by
    simp only [List.length_cons] at hl
    have hs : (splice g (16 + p % 128) [y]).length = 256 := splice_size h (by rw [one_len]; omega)
    rw [putB]
    cases j with
    | zero =>
      obtain rfl : y = x := by simpa using hx
      rw [putB_other xs _ _ _ hs (by omega) (fun j hj => by omega), splice_at h (by rw [one_len]; omega) _ (by omega), if_pos (by rw [one_len]; omega)]
      rw [show 16 + (p + 0) % 128 - (16 + p % 128) = 0 by omega]
      rfl
    | succ j =>
      have := putB_at xs (splice g (16 + p % 128) [y]) (p + 1) j x hs (by omega) (by simpa using hx)
      rw [show 16 + (p + (j + 1)) % 128 = 16 + (p + 1 + j) % 128 by omega]
      exact this

/-- The page as the drain finds it. -/
def outB (g : List Int) (put : Nat) (bs : List Int) : List Int := splice (putB g put bs) 0 (twoB (((put + bs.length) % 65536 : Nat) : Int))
theorem outB_size {g : List Int} {put : Nat} {bs : List Int} (h : g.length = 256) : (outB g put bs).length = 256 := splice_size (putB_size _ _ _ h) (by simp [twoB])
theorem outB_word {g : List Int} {put : Nat} {bs : List Int} (h : g.length = 256) : word2 (((outB g put bs).drop 0).take 2) = (((put + bs.length) % 65536 : Nat) : Int) := by
  have h1 := splice_mid (l := putB g put bs) (bs := twoB (((put + bs.length) % 65536 : Nat) : Int)) (o := 0) (putB_size _ _ _ h) (by simp [twoB])
  have h2 : ((outB g put bs).drop 0).take 2 = twoB (((put + bs.length) % 65536 : Nat) : Int) := h1
  rw [h2]; exact word2_twoB
theorem outB_at {g : List Int} {put : Nat} {bs : List Int} (h : g.length = 256) (hl : bs.length ≤ 128) {j : Nat} {x : Int} (hx : bs[j]? = some x) : (outB g put bs)[16 + (put + j) % 128]? = some x := by
  unfold outB
  rw [splice_at (putB_size _ _ _ h) (by simp [twoB]) _ (by omega), if_neg (by simp only [twoB, List.length_cons, List.length_nil]; omega)]
  exact putB_at bs g put j x h hl hx

theorem piece_eq {g bs : List Int} {o : Nat} {a n : Nat} (h : ∀ j, j < n → g[o + j]? = bs[a + j]?) : (g.drop o).take n = (bs.drop a).take n := by
  apply List.ext_getElem?
  intro j
  by_cases hj : j < n
  · rw [List.getElem?_take_of_lt hj, List.getElem?_take_of_lt hj, List.getElem?_drop, List.getElem?_drop]
    exact h j hj
  · rw [List.getElem?_eq_none (by rw [List.length_take]; omega), List.getElem?_eq_none (by rw [List.length_take]; omega)]

theorem outR_pg {g : List Int} {put : Nat} {bs : List Int} (h : g.length = 256) (hl : bs.length ≤ 128) (N : Int) :
    outR [] N (pg1 (outB g put bs)) 0 ((put % 65536 : Nat) : Int) bs.length = (pg1 (outB g put bs), (if bs.length ≤ 128 - put % 128 then N + 2 else N + 3), bs) := by
  have hm : ((((put % 65536 : Nat) : Int)) % 128).toNat = put % 128 := by omega
  have e0 : ∀ k, pokes (dueAt ([] : List Pk) k) (pg1 (outB g put bs)) = pg1 (outB g put bs) := fun _ => rfl
  have eb : ∀ (off : Int) (n : Nat), bytesAt (pg1 (outB g put bs)) 0 off n = ((outB g put bs).drop off.toNat).take n := fun _ _ => rfl
  unfold outR
  rw [hm, e0]
  have ho : (16 + ((put % 65536 : Nat) : Int) % 128).toNat = 16 + put % 128 := by omega
  by_cases hc : bs.length ≤ 128 - put % 128
  · rw [if_pos hc, if_pos hc, eb, ho]
    have := piece_eq (g := outB g put bs) (bs := bs) (o := 16 + put % 128) (a := 0) (n := bs.length) (fun j hj => by
      obtain ⟨x, hx⟩ : ∃ x, bs[j]? = some x := ⟨_, List.getElem?_eq_getElem hj⟩
      rw [Nat.zero_add, hx, ← outB_at (put := put) h hl hx]
      congr 1; omega)
    rw [this]
    simp
  · rw [if_neg hc, if_neg hc, e0, eb, eb, ho]
    have h1 := piece_eq (g := outB g put bs) (bs := bs) (o := 16 + put % 128) (a := 0) (n := 128 - put % 128) (fun j hj => by
      obtain ⟨x, hx⟩ : ∃ x, bs[j]? = some x := ⟨_, List.getElem?_eq_getElem (by omega)⟩
      rw [Nat.zero_add, hx, ← outB_at (put := put) h hl hx]
      congr 1; omega)
    have h2 := piece_eq (g := outB g put bs) (bs := bs) (o := 16) (a := 128 - put % 128) (n := bs.length - (128 - put % 128)) (fun j hj => by
      obtain ⟨x, hx⟩ : ∃ x, bs[128 - put % 128 + j]? = some x := ⟨_, List.getElem?_eq_getElem (by omega)⟩
      rw [hx, ← outB_at (put := put) h hl hx]
      congr 1; omega)
    rw [h1, show (16 : Int).toNat = 16 from rfl, h2, List.drop_zero]
    have h3 : (bs.drop (128 - put % 128)).take (bs.length - (128 - put % 128)) = bs.drop (128 - put % 128) := List.take_of_length_le (by rw [List.length_drop]; exact Nat.le_refl _)
    rw [h3, List.take_append_drop]

end Go.Proofs.YtmdeljacbekbpaaDoor
