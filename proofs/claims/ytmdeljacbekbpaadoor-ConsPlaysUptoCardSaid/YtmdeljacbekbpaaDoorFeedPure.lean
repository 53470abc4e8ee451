/- What is fed, plainly: the page's bytes. -/
import Derived.Test.YtmdeljacbekbpaaDoorConsFeed
import Derived.Test.YtmdeljacbekbpaaDoorLaw16Begin
namespace Go.Proofs.YtmdeljacbekbpaaDoor
open Go.RowKit
set_option maxRecDepth 100000

theorem splice_at {l bs : List Int} {o : Nat} (hl : l.length = 256) (ho : o + bs.length ≤ 256) (j : Nat) (hj : j < 256) :
    (splice l o bs)[j]? = if o ≤ j ∧ j < o + bs.length then bs[j - o]? else l[j]? := by
  unfold splice
  by_cases h1 : j < o
  · rw [List.getElem?_append_left (by simp; omega), List.getElem?_take_of_lt h1, if_neg (by omega)]
  · rw [List.getElem?_append_right (by simp; omega)]
    have e : (l.take o).length = o := by simp; omega
    rw [e]
    by_cases h2 : j < o + bs.length
    · rw [List.getElem?_append_left (by omega), if_pos ⟨by omega, h2⟩]
    · rw [List.getElem?_append_right (by omega), List.getElem?_drop, if_neg (by omega)]
      congr 1; omega
theorem splice_size {l bs : List Int} {o : Nat} (hl : l.length = 256) (ho : o + bs.length ≤ 256) : (splice l o bs).length = 256 := by
  unfold splice; simp; omega
theorem splice_mid {l bs : List Int} {o : Nat} (hl : l.length = 256) (ho : o + bs.length ≤ 256) : ((splice l o bs).drop o).take bs.length = bs := by
  unfold splice
  have e : (l.take o).length = o := by simp; omega
  rw [List.drop_append_of_le_length (by omega), List.drop_eq_nil_of_le (by omega), List.nil_append, List.take_append_of_le_length (Nat.le_refl _), List.take_of_length_le (Nat.le_refl _)]
theorem two_at {l : List Int} {o : Nat} {a b : Int} (ha : l[o]? = some a) (hb : l[o + 1]? = some b) : (l.drop o).take 2 = [a, b] := by
  apply List.ext_getElem?
  intro i
  match i with
  | 0 => rw [List.getElem?_take_of_lt (by omega), List.getElem?_drop]; exact ha
  | 1 => rw [List.getElem?_take_of_lt (by omega), List.getElem?_drop]; exact hb
  | i + 2 => rw [List.getElem?_eq_none (by simp only [List.length_take]; omega)]; rfl
theorem one_at {l : List Int} {o : Nat} {a : Int} (ha : l[o]? = some a) : (l.drop o).take 1 = [a] := by
  apply List.ext_getElem?
  intro i
  match i with
  | 0 => rw [List.getElem?_take_of_lt (by omega), List.getElem?_drop]; exact ha
  | i + 1 => rw [List.getElem?_eq_none (by simp only [List.length_take]; omega)]; rfl

/-- The two frames, the first with these bytes. -/
def pg1 (g : List Int) : List Fr := [{ own1Fr with bytes := g }, own1Fr]
theorem wr_pg1 {g : List Int} {off : Int} {bs : List Int} (h0 : 0 ≤ off) (h1 : off + bs.length ≤ 256) : wrR (pg1 g) 0 off bs = pg1 (splice g off.toNat bs) ∧ wrE (pg1 g) 0 off bs.length = 0 := by
  have h := wrR_in (S := pg1 g) (i := 0) (off := off) (bs := bs) (f := { own1Fr with bytes := g }) ⟨⟨by omega, by simp [pg1]⟩, h0, by omega, h1⟩ rfl (by simp [own1Fr])
  exact ⟨h.1, h.2⟩

def feedB (g : List Int) (im : Int) : List Int → List Int
  | [] => g
  | x :: xs => feedB (splice g (160 + im % 64).toNat [x]) ((im + 1) % 65536) xs
theorem feedGo_pg (om : Int) : ∀ (xs : List Int) (g : List Int) (im : Int), 0 ≤ im ∧ im ≤ 65535 → feedGo (pg1 g) ⟨0, om, im⟩ xs = (pg1 (feedB g im xs), ⟨0, om, (im + xs.length) % 65536⟩)
  | [], g, im, h => by
    rw [feedGo, feedB]
    simp only [List.length_nil]
    congr 2
    omega
  | x :: xs, g, im, h => by
    rw [feedGo, feedB]
    simp only
    rw [(wr_pg1 (by omega) (by simp only [List.length_cons, List.length_nil]; omega)).1, feedGo_pg om xs _ _ (by omega)]
    simp only [List.length_cons]
    congr 2
    omega
theorem feedB_size : ∀ (xs : List Int) (g : List Int) (im : Int), g.length = 256 → (feedB g im xs).length = 256
  | [], g, im, h => h
  | x :: xs, g, im, h => by
    rw [feedB]
    exact feedB_size xs _ _ (splice_size h (by simp only [List.length_cons, List.length_nil]; omega))
theorem feedB_other : ∀ (xs : List Int) (g : List Int) (im : Int) (p : Nat), g.length = 256 → p < 256 → (∀ j : Nat, j < xs.length → (p : Int) ≠ 160 + (im + j) % 64) → (feedB g im xs)[p]? = g[p]?
  | [], g, im, p, h, hp, hn => rfl
  | x :: xs, g, im, p, h, hp, hn => by
    have h0 := hn 0 (by simp)
    rw [feedB, feedB_other xs _ _ p (splice_size h (by simp only [List.length_cons, List.length_nil]; omega)) hp (fun j hj => by
      have := hn (j + 1) (by simp; omega)
      omega), splice_at h (by simp only [List.length_cons, List.length_nil]; omega) p hp, if_neg]
    simp only [List.length_cons, List.length_nil]
    omega
theorem feedB_at : ∀ (xs : List Int) (g : List Int) (im : Int) (j : Nat) (x : Int), g.length = 256 → xs.length ≤ 64 → xs[j]? = some x → (feedB g im xs)[(160 + (im + j) % 64).toNat]? = some x
  | [], g, im, j, x, h, hl, hx => by simp at hx
  | y :: xs, g, im, j, x, h, hl, hx => by
    simp only [List.length_cons] at hl
    have hs : (splice g (160 + im % 64).toNat [y]).length = 256 := splice_size h (by simp only [List.length_cons, List.length_nil]; omega)
    rw [feedB]
    cases j with
    | zero =>
      obtain rfl : y = x := by simpa using hx
      rw [feedB_other xs _ _ _ hs (by omega) (fun j hj => by omega), splice_at h (by simp only [List.length_cons, List.length_nil]; omega) _ (by omega), if_pos (by simp only [List.length_cons, List.length_nil]; omega)]
      rw [show (160 + (im + ((0 : Nat) : Int)) % 64).toNat - (160 + im % 64).toNat = 0 by omega]
      rfl
    | succ j =>
      have := feedB_at xs (splice g (160 + im % 64).toNat [y]) ((im + 1) % 65536) j x hs (by omega) (by simpa using hx)
      rw [show (160 + (im + ((j + 1 : Nat) : Int)) % 64).toNat = (160 + ((im + 1) % 65536 + j) % 64).toNat by omega]
      exact this

theorem word2_twoB {n : Int} : word2 (twoB n) = n := by
  show n % 256 + 256 * (n / 256) = n
  omega

/-- What the page says when the guest has taken all: its index stands. -/
structure Fed (g : List Int) (put : Nat) : Prop where
  size : g.length = 256
  took : (g.drop 4).take 2 = twoB ((put % 65536 : Nat) : Int)
/-- Behind a feed. -/
def fedB (g : List Int) (put : Nat) (xs : List Int) : List Int := splice (feedB g ((put % 65536 : Nat) : Int) xs) 6 (twoB (((put + xs.length) % 65536 : Nat) : Int))

theorem fedB_size {g : List Int} {put : Nat} (h : g.length = 256) (xs : List Int) : (fedB g put xs).length = 256 := splice_size (feedB_size _ _ _ h) (by simp [twoB])
theorem fedB_at {g : List Int} {put : Nat} (h : g.length = 256) {xs : List Int} (hl : xs.length ≤ 64) {j : Nat} {x : Int} (hx : xs[j]? = some x) : ((fedB g put xs).drop (160 + (put + j) % 64)).take 1 = [x] := by
  refine one_at ?_
  unfold fedB
  rw [splice_at (feedB_size _ _ _ h) (by simp [twoB]) _ (by omega), if_neg (by simp only [twoB, List.length_cons, List.length_nil]; omega)]
  have := feedB_at xs g ((put % 65536 : Nat) : Int) j x h hl hx
  rw [show 160 + (put + j) % 64 = (160 + (((put % 65536 : Nat) : Int) + (j : Int)) % 64).toNat by omega]
  exact this
theorem fedB_six {g : List Int} {put : Nat} (h : g.length = 256) (xs : List Int) : ((fedB g put xs).drop 6).take 2 = twoB (((put + xs.length) % 65536 : Nat) : Int) :=
  splice_mid (bs := twoB (((put + xs.length) % 65536 : Nat) : Int)) (feedB_size _ _ _ h) (by simp [twoB])
theorem Fed.next {g : List Int} (h : g.length = 256) (put : Nat) : Fed (splice g 4 (twoB ((put % 65536 : Nat) : Int))) put :=
  ⟨splice_size h (by simp [twoB]), splice_mid (bs := twoB ((put % 65536 : Nat) : Int)) h (by simp [twoB])⟩

end Go.Proofs.YtmdeljacbekbpaaDoor
