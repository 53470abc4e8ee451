/- path.Parse: the names between the strokes. (Printed by wip/gen_parse.py.) -/
import Derived.Test.YthchkhfnhhpleaaDoorPathParse
namespace Go.Proofs.YthchkhfnhhpleaaDoor
open Go.RowKit Go.Shelf
set_option maxRecDepth 100000
attribute [local go_sem] Oper.semAt_some

/-- The boxes of path.Parse, as the loop begins. -/
structure P8 (w W : World) (l : List UInt8) (b2 b3 b4 b5 b6 Bs B1 B3 : Nat) : Prop where
  x0 : Boxed W b2 24 (.slice none 0 0)
  x1 : Boxed W b3 3 (.int .i64 0)
  x2 : Boxed W b4 25 (.int .i64 0)
  x3 : Boxed W b5 24 (.slice none 0 0)
  x4 : Boxed W b6 3 (.int .i64 1)
  x5 : Boxed W Bs 9 (.string (txt l))
  x6 : Boxed W B1 9 (.string ⟨#[47]⟩)
  x7 : Boxed W B3 3 (.int .i64 0)
  l0 : w.heap.size ≤ b2
  l1 : b2 < b3
  l2 : b3 < b4
  l3 : b4 < b5
  l4 : b5 < b6
  l5 : b6 < Bs
  l6 : Bs < B1
  l7 : B1 < B3
  sz : W.heap.size = B3 + 1
  bl : Below w.heap.size w W
theorem p8_made (w : World) (l : List UInt8) : P8 w ((((((((w.alloc (.cells #[.slice none 0 0] 24)).alloc (.cells #[.int .i64 0] 3)).alloc (.cells #[.int .i64 0] 25)).alloc (.cells #[.slice none 0 0] 24)).alloc (.cells #[.int .i64 1] 3)).alloc (.cells #[.string (txt l)] 9)).alloc (.cells #[.string ⟨#[47]⟩] 9)).alloc (.cells #[.int .i64 0] 3)) l (w.heap.size) (w.heap.size + 1) (w.heap.size + 1 + 1) (w.heap.size + 1 + 1 + 1) (w.heap.size + 1 + 1 + 1 + 1) (w.heap.size + 1 + 1 + 1 + 1 + 1) (w.heap.size + 1 + 1 + 1 + 1 + 1 + 1) (w.heap.size + 1 + 1 + 1 + 1 + 1 + 1 + 1) := by
  refine ⟨?_, ?_, ?_, ?_, ?_, ?_, ?_, ?_, Nat.le_refl _, by omega, by omega, by omega, by omega, by omega, by omega, by omega, by simp only [World.size_alloc], ?_⟩
  · have := blk_alloc (blk_alloc (blk_alloc (blk_alloc (blk_alloc (blk_alloc (blk_alloc (heap_alloc_new w (.cells #[.slice none 0 0] 24)) (.cells #[.int .i64 0] 3)) (.cells #[.int .i64 0] 25)) (.cells #[.slice none 0 0] 24)) (.cells #[.int .i64 1] 3)) (.cells #[.string (txt l)] 9)) (.cells #[.string ⟨#[47]⟩] 9)) (.cells #[.int .i64 0] 3)
    exact this
  · have := blk_alloc (blk_alloc (blk_alloc (blk_alloc (blk_alloc (blk_alloc (heap_alloc_new (w.alloc (.cells #[.slice none 0 0] 24)) (.cells #[.int .i64 0] 3)) (.cells #[.int .i64 0] 25)) (.cells #[.slice none 0 0] 24)) (.cells #[.int .i64 1] 3)) (.cells #[.string (txt l)] 9)) (.cells #[.string ⟨#[47]⟩] 9)) (.cells #[.int .i64 0] 3)
    simp only [World.size_alloc] at this
    exact this
  · have := blk_alloc (blk_alloc (blk_alloc (blk_alloc (blk_alloc (heap_alloc_new ((w.alloc (.cells #[.slice none 0 0] 24)).alloc (.cells #[.int .i64 0] 3)) (.cells #[.int .i64 0] 25)) (.cells #[.slice none 0 0] 24)) (.cells #[.int .i64 1] 3)) (.cells #[.string (txt l)] 9)) (.cells #[.string ⟨#[47]⟩] 9)) (.cells #[.int .i64 0] 3)
    simp only [World.size_alloc] at this
    exact this
  · have := blk_alloc (blk_alloc (blk_alloc (blk_alloc (heap_alloc_new (((w.alloc (.cells #[.slice none 0 0] 24)).alloc (.cells #[.int .i64 0] 3)).alloc (.cells #[.int .i64 0] 25)) (.cells #[.slice none 0 0] 24)) (.cells #[.int .i64 1] 3)) (.cells #[.string (txt l)] 9)) (.cells #[.string ⟨#[47]⟩] 9)) (.cells #[.int .i64 0] 3)
    simp only [World.size_alloc] at this
    exact this
  · have := blk_alloc (blk_alloc (blk_alloc (heap_alloc_new ((((w.alloc (.cells #[.slice none 0 0] 24)).alloc (.cells #[.int .i64 0] 3)).alloc (.cells #[.int .i64 0] 25)).alloc (.cells #[.slice none 0 0] 24)) (.cells #[.int .i64 1] 3)) (.cells #[.string (txt l)] 9)) (.cells #[.string ⟨#[47]⟩] 9)) (.cells #[.int .i64 0] 3)
    simp only [World.size_alloc] at this
    exact this
  · have := blk_alloc (blk_alloc (heap_alloc_new (((((w.alloc (.cells #[.slice none 0 0] 24)).alloc (.cells #[.int .i64 0] 3)).alloc (.cells #[.int .i64 0] 25)).alloc (.cells #[.slice none 0 0] 24)).alloc (.cells #[.int .i64 1] 3)) (.cells #[.string (txt l)] 9)) (.cells #[.string ⟨#[47]⟩] 9)) (.cells #[.int .i64 0] 3)
    simp only [World.size_alloc] at this
    exact this
  · have := blk_alloc (heap_alloc_new ((((((w.alloc (.cells #[.slice none 0 0] 24)).alloc (.cells #[.int .i64 0] 3)).alloc (.cells #[.int .i64 0] 25)).alloc (.cells #[.slice none 0 0] 24)).alloc (.cells #[.int .i64 1] 3)).alloc (.cells #[.string (txt l)] 9)) (.cells #[.string ⟨#[47]⟩] 9)) (.cells #[.int .i64 0] 3)
    simp only [World.size_alloc] at this
    exact this
  · have := heap_alloc_new (((((((w.alloc (.cells #[.slice none 0 0] 24)).alloc (.cells #[.int .i64 0] 3)).alloc (.cells #[.int .i64 0] 25)).alloc (.cells #[.slice none 0 0] 24)).alloc (.cells #[.int .i64 1] 3)).alloc (.cells #[.string (txt l)] 9)).alloc (.cells #[.string ⟨#[47]⟩] 9)) (.cells #[.int .i64 0] 3)
    simp only [World.size_alloc] at this
    exact this
  · exact (((((((((Below.refl _ w).alloc (by first | exact Nat.le_refl _ | (simp only [World.size_alloc]; omega)) _).alloc (by first | exact Nat.le_refl _ | (simp only [World.size_alloc]; omega)) _).alloc (by first | exact Nat.le_refl _ | (simp only [World.size_alloc]; omega)) _).alloc (by first | exact Nat.le_refl _ | (simp only [World.size_alloc]; omega)) _).alloc (by first | exact Nat.le_refl _ | (simp only [World.size_alloc]; omega)) _).alloc (by first | exact Nat.le_refl _ | (simp only [World.size_alloc]; omega)) _).alloc (by first | exact Nat.le_refl _ | (simp only [World.size_alloc]; omega)) _).alloc (by first | exact Nat.le_refl _ | (simp only [World.size_alloc]; omega)) _)

theorem rows_base {W : World} {a b : Nat} {e : TypeId} {size : Nat} {v : Value} {k : Nat} {xs : List Value} (h : W.ownsRow a e size v k xs) (hb : b ≤ a) : W.ownsRow b e size v k xs := by
  refine ⟨h.1, ?_⟩
  rcases h.2 with h2 | ⟨g, cap, cur, hv, hg, r⟩
  · exact .inl h2
  · exact .inr ⟨g, cap, cur, hv, Nat.le_trans hb hg, r⟩
theorem box_app {W w1 : World} {n₀ Bx : Nat} {t e : TypeId} {size : Nat} {v v' : Value} {k m : Nat} {xs ys : List Value} {tmp : Obj}
    (hv : Boxed W Bx t v) (hte : t ≠ e) (hrow : W.ownsRow n₀ e size v k xs) (hn₀ : n₀ ≤ W.heap.size) (hown' : w1.ownsRow n₀ e size v' m ys) (hgrow : (W.alloc tmp).grownBy w1 v.ownBlock) :
    Boxed w1 Bx t v ∧ Boxed (w1.setCell ⟨Bx, 0, none⟩ v') Bx t v' ∧ (w1.setCell ⟨Bx, 0, none⟩ v').ownsRow n₀ e size v' m ys ∧ KeepsOthers W (w1.setCell ⟨Bx, 0, none⟩ v') ∧
      (∀ b, b < n₀ → w1.heap[b]? = W.heap[b]?) ∧ W.heap.size ≤ w1.heap.size := by
  obtain ⟨a1, a2, _, a4, _⟩ := Boxed.appended (n₀ := 0) hv hte (rows_base hrow (Nat.zero_le _)) (Nat.zero_le _) (Nat.zero_le _) (rows_base hown' (Nat.zero_le _)) hgrow
  refine ⟨a1, a2, hown'.kept (grownBy_setCell' w1 Bx v') (.inr (a1.not_row hte hown').symm), a4, fun b hb => ?_, by have := hgrow.size; simp at this; omega⟩
  rw [hgrow.block b (by simp; omega) (fun e => by have := (hrow.lt b e.symm).1; omega)]
  exact Below.heap_alloc _ _ _ (by omega)
theorem others_below {W W' : World} (h : Below W.heap.size W W') : KeepsOthers W W' := ⟨h.size, fun k _ hk _ => (h.block k (lt_of_blk hk)).trans hk⟩
theorem owns_sl {W : World} {b : Nat} {e : TypeId} {size : Nat} {v : Value} {k : Nat} {xs : List Value} (h : W.ownsRow b e size v k xs) : ∃ g cap, v = .slice g k cap := by
  rcases h.2 with ⟨rfl, h0⟩ | ⟨g, cap, _, rfl, _⟩
  · exact ⟨none, 0, by rw [h0]⟩
  · exact ⟨_, _, rfl⟩
/-- How far the names reach. -/
def plen : List Pc → Nat
  | [] => 0
  | x :: r => plen r + x.1.length + 1
theorem plen_snoc (x : Pc) : ∀ (p : List Pc), plen (p ++ [x]) = plen p + x.1.length + 1
  | [] => by simp [plen]
  | y :: p => by simp only [List.cons_append, plen, plen_snoc x p]; omega
theorem plen_le : ∀ (p : List Pc), plen p ≤ 257 * p.length
  | [] => Nat.le_refl _
  | x :: r => by have := plen_le r; have := x.2; simp only [plen, List.length_cons]; omega
theorem scan_le : ∀ (l : List UInt8) (i : Nat), (nameScan i l).1 ≤ i + l.length
  | [], _ => Nat.zero_le _
  | c :: l, i => by
    have := scan_le l (i + 1)
    unfold nameScan
    split
    · split
      · simp
      · simp only [List.length_cons]; omega
    · simp
theorem nameR_le (l : List UInt8) : (nameR l).1 ≤ l.length := by
  unfold nameR
  split
  · exact Nat.zero_le _
  · have := scan_le l 0; omega
theorem parseGo_all : ∀ (ps : List (List UInt8)) (a k : Nat), (∀ p ∈ ps, (nameR p).2 = 0) → k + ps.length ≤ 8 → parseGo ps a k = none
  | [], _, _, _, _ => rfl
  | p :: r, a, k, h, hk => by
    simp only [List.length_cons] at hk
    unfold parseGo
    rw [if_neg (by omega), if_pos (h p (by simp))]
    exact parseGo_all r _ _ (fun q hq => h q (by simp [hq])) (by omega)
theorem parseGo_app : ∀ (ps r : List (List UInt8)) (a k : Nat), (∀ p ∈ ps, (nameR p).2 = 0) → k + ps.length ≤ 8 → parseGo (ps ++ r) a k = parseGo r (a + (ps.map (fun p => p.length + 1)).sum) (k + ps.length)
  | [], r, a, k, _, _ => by simp
  | p :: ps, r, a, k, h, hk => by
    simp only [List.length_cons] at hk
    rw [List.cons_append, parseGo, if_neg (by omega), if_pos (h p (by simp)), parseGo_app ps r _ _ (fun q hq => h q (by simp [hq])) (by omega)]
    congr 1
    · simp only [List.map_cons, List.sum_cons]; omega
    · simp only [List.length_cons]; omega
theorem plen_sum : ∀ (p : List Pc), plen p = ((p.map (·.1)).map (fun p => p.length + 1)).sum
  | [] => rfl
  | x :: r => by simp only [plen, List.map_cons, List.sum_cons, plen_sum r]; omega
theorem parse_all {l : List UInt8} (hl : l ≠ []) (hlen : l.length ≤ 255) {xs : List Pc} (hxs : xs.map (·.1) = parts l) (hok : ∀ y ∈ xs, (nameR y.1).2 = 0) (h8 : xs.length ≤ 8) : parseR (47 :: l) = (parts l, 0, 0) := by
  unfold parseR
  rw [if_neg (by simp; omega)]
  dsimp only
  rw [if_pos rfl, if_neg hl, parseGo_all (parts l) 1 0 (fun p hp => by
    rw [← hxs] at hp
    obtain ⟨y, hy, rfl⟩ := List.mem_map.1 hp
    exact hok y hy) (by rw [← hxs, List.length_map]; omega)]
theorem parse_bad {l : List UInt8} (hl : l ≠ []) (hlen : l.length ≤ 255) {p : List Pc} {x : Pc} (hp : (p ++ [x]).map (·.1) <+: parts l) (hok : ∀ y ∈ p, (nameR y.1).2 = 0) (h8 : p.length ≤ 8) {a e : Nat}
    (h : (p.length = 8 ∧ a = 1 + plen p ∧ e = 2) ∨ (p.length ≠ 8 ∧ (nameR x.1).2 ≠ 0 ∧ a = 1 + plen p + (nameR x.1).1 ∧ e = (nameR x.1).2)) : parseR (47 :: l) = ([], a, e) := by
  obtain ⟨r, hr⟩ := hp
  have hg : parseGo (parts l) 1 0 = some (a, e) := by
    rw [← hr, List.map_append, List.append_assoc, parseGo_app _ _ _ _ (fun q hq => by obtain ⟨y, hy, rfl⟩ := List.mem_map.1 hq; exact hok y hy) (by rw [List.length_map]; omega), ← plen_sum, List.length_map]
    simp only [List.map_cons, List.map_nil, List.cons_append, List.nil_append, parseGo]
    rcases h with ⟨h1, rfl, rfl⟩ | ⟨h1, h2, rfl, rfl⟩
    · rw [if_pos (by omega)]
    · rw [if_neg (by omega), if_neg h2]
  unfold parseR
  rw [if_neg (by simp; omega)]
  dsimp only
  rw [if_pos rfl, if_neg hl, hg]
/-- The list of names so far. -/
def PRow (n₀ b5 : Nat) (pre : List Pc) (W : World) : Prop := ∃ v, Boxed W b5 24 v ∧ W.ownsRow n₀ 9 1 v pre.length (pre.map (fun x => Value.string (txt x.1))) ∧ True
/-- The other boxes. -/
structure PBox (b2 b3 b4 b6 : Nat) (k : Int) (a e : Int) (W : World) : Prop where
  at_ : Boxed W b6 3 (.int .i64 k)
  r2 : Boxed W b2 24 (.slice none 0 0)
  r3 : Boxed W b3 3 (.int .i64 a)
  r4 : Boxed W b4 25 (.int .i64 e)
/-- Between two rounds. -/
def PI (w : World) (n₀ b2 b3 b4 b5 b6 : Nat) (pre : List Pc) (W : World) : Prop :=
  PRow n₀ b5 pre W ∧ PBox b2 b3 b4 b6 (1 + (plen pre : Int)) 0 0 W ∧ ((∀ x ∈ pre, (nameR x.1).2 = 0) ∧ pre.length ≤ 8) ∧ (Below w.heap.size w W ∧ n₀ ≤ W.heap.size)
/-- A round has left: a fault. -/
def PX (w : World) (n₀ b2 b3 b4 b6 : Nat) (pre : List Pc) (W : World) : Prop :=
  ∃ (p : List Pc) (x : Pc) (a e : Int), pre = p ++ [x] ∧ (∀ y ∈ p, (nameR y.1).2 = 0) ∧ p.length ≤ 8 ∧ ((p.length = 8 ∧ a = 1 + (plen p : Int) ∧ e = 2) ∨ (p.length ≠ 8 ∧ (nameR x.1).2 ≠ 0 ∧ a = 1 + (plen p : Int) + ((nameR x.1).1 : Int) ∧ e = ((nameR x.1).2 : Int))) ∧
    PBox b2 b3 b4 b6 (1 + (plen p : Int)) a e W ∧ (Below w.heap.size w W ∧ n₀ ≤ W.heap.size)
def PIx (w : World) (n₀ b2 b3 b4 b6 : Nat) (c : Code) (pre : List Pc) (W : World) : Prop := c = .ret ∧ PX w n₀ b2 b3 b4 b6 pre W

theorem below_more {w W W' : World} (h : Below w.heap.size w W) (k : Below W.heap.size W W') : Below w.heap.size w W' := h.trans (k.mono h.size)
theorem boxed_below {W W' : World} {b : Nat} {t : TypeId} {v : Value} (h : Boxed W b t v) (k : Below W.heap.size W W') : Boxed W' b t v := (k.block b h.lt).trans h
theorem PBox.below {b2 b3 b4 b6 : Nat} {k a e : Int} {W W' : World} (h : PBox b2 b3 b4 b6 k a e W) (hb : Below W.heap.size W W') : PBox b2 b3 b4 b6 k a e W' := ⟨boxed_below h.at_ hb, boxed_below h.r2 hb, boxed_below h.r3 hb, boxed_below h.r4 hb⟩
theorem PBox.box {b2 b3 b4 b6 Bs : Nat} {k a e : Int} {W : World} (h : PBox b2 b3 b4 b6 k a e W) (n2 : b2 ≠ Bs) (n3 : b3 ≠ Bs) (n4 : b4 ≠ Bs) (n6 : b6 ≠ Bs) (v : Value) : PBox b2 b3 b4 b6 k a e (W.setCell ⟨Bs, 0, none⟩ v) := ⟨h.at_.other n6 _, h.r2.other n2 _, h.r3.other n3 _, h.r4.other n4 _⟩
theorem rows_below {W W' : World} {n₀ : Nat} {t : TypeId} {v : Value} {k : Nat} {xs : List Value} (h : W.ownsRow n₀ t 1 v k xs) (hb : Below W.heap.size W W') : W'.ownsRow n₀ t 1 v k xs := by
  refine ⟨h.1, ?_⟩
  rcases h.2 with h2 | ⟨g, cap, cur, hv, hg, hr, r⟩
  · exact .inl h2
  · exact .inr ⟨g, cap, cur, hv, hg, (hb.block g (lt_of_blk hr)).trans hr, r⟩
theorem rows_box {W : World} {n₀ Bs : Nat} {t : TypeId} {v : Value} {k : Nat} {xs : List Value} (h : W.ownsRow n₀ t 1 v k xs) (hb : Bs < n₀) (u : Value) : (W.setCell ⟨Bs, 0, none⟩ u).ownsRow n₀ t 1 v k xs := by
  refine ⟨h.1, ?_⟩
  rcases h.2 with h2 | ⟨g, cap, cur, hv, hg, hr, r⟩
  · exact .inl h2
  · exact .inr ⟨g, cap, cur, hv, hg, (Below.heap_setCell _ _ _ _ (by show g ≠ Bs; omega)).trans hr, r⟩
theorem belowBox {w W : World} (h : Below w.heap.size w W) {Bs : Nat} (hb : w.heap.size ≤ Bs) (u : Value) : Below w.heap.size w (W.setCell ⟨Bs, 0, none⟩ u) := h.setCell (p := ⟨Bs, 0, none⟩) hb u
theorem size_box (W : World) (b : Nat) (u : Value) : (W.setCell ⟨b, 0, none⟩ u).heap.size = W.heap.size := by simp [World.setCell]
theorem pi_bides {w : World} {n₀ b2 b3 b4 b5 b6 Bs : Nat} (n2 : b2 ≠ Bs) (n3 : b3 ≠ Bs) (n4 : b4 ≠ Bs) (n5 : b5 ≠ Bs) (n6 : b6 ≠ Bs) (hw : w.heap.size ≤ Bs) (hn : Bs < n₀) : Bides Bs (PI w n₀ b2 b3 b4 b5 b6) :=
  ⟨fun s W W' ⟨⟨v, h1, h2, _⟩, h3, h4, h5, h6⟩ hb => ⟨⟨v, boxed_below h1 hb, rows_below h2 hb, trivial⟩, h3.below hb, h4, below_more h5 hb, Nat.le_trans h6 hb.size⟩,
    fun s W u ⟨⟨v, h1, h2, _⟩, h3, h4, h5, h6⟩ => ⟨⟨v, h1.other n5 _, rows_box h2 hn u, trivial⟩, h3.box n2 n3 n4 n6 u, h4, belowBox h5 hw u, by rw [size_box]; exact h6⟩⟩
theorem px_bides {w : World} {n₀ b2 b3 b4 b6 Bs : Nat} (n2 : b2 ≠ Bs) (n3 : b3 ≠ Bs) (n4 : b4 ≠ Bs) (n6 : b6 ≠ Bs) (hw : w.heap.size ≤ Bs) (c : Code) : Bides Bs (PIx w n₀ b2 b3 b4 b6 c) :=
  ⟨fun s W W' ⟨hc, p, x, a, e, h0, h1, h2, h3, h4, h5, h6⟩ hb => ⟨hc, p, x, a, e, h0, h1, h2, h3, h4.below hb, below_more h5 hb, Nat.le_trans h6 hb.size⟩,
    fun s W u ⟨hc, p, x, a, e, h0, h1, h2, h3, h4, h5, h6⟩ => ⟨hc, p, x, a, e, h0, h1, h2, h3, h4.box n2 n3 n4 n6 u, belowBox h5 hw u, by rw [size_box]; exact h6⟩⟩
theorem boxed_grown {W W' : World} {row : Option Nat} {b B : Nat} {t : TypeId} {v : Value} (h : Boxed W b t v) (hg : W.grownBy W' row) (hr : ∀ r, row = some r → B ≤ r ∧ ∃ o : Obj, W.heap[r]? = some o ∧ o.isCells = false) : Boxed W' b t v :=
  h.kept hg (fun e => by obtain ⟨_, o, ho, hc⟩ := hr b e.symm; rw [show W.heap[b]? = _ from h] at ho; cases ho; cases hc)
theorem PBox.grownNo {W W' : World} {row : Option Nat} {B b2 b3 b4 b6 : Nat} {k a e : Int} (h : PBox b2 b3 b4 b6 k a e W) (hg : W.grownBy W' row) (hr : ∀ r, row = some r → B ≤ r ∧ ∃ o : Obj, W.heap[r]? = some o ∧ o.isCells = false) : PBox b2 b3 b4 b6 k a e W' :=
  ⟨boxed_grown h.at_ hg hr, boxed_grown h.r2 hg hr, boxed_grown h.r3 hg hr, boxed_grown h.r4 hg hr⟩
theorem rows_grown {W W' : World} {row : Option Nat} {B n₀ : Nat} {t : TypeId} {v : Value} {k : Nat} {xs : List Value} (h : W.ownsRow n₀ t 1 v k xs) (hg : W.grownBy W' row) (hr : ∀ r, row = some r → B ≤ r ∧ ∃ o : Obj, W.heap[r]? = some o ∧ o.isCells = false) : W'.ownsRow n₀ t 1 v k xs := by
  refine ⟨h.1, ?_⟩
  rcases h.2 with h2 | ⟨g, cap, cur, hv, hgn, hrr, r⟩
  · exact .inl h2
  · refine .inr ⟨g, cap, cur, hv, hgn, (hg.block g (lt_of_blk hrr) (fun e => ?_)).trans hrr, r⟩
    obtain ⟨_, o, ho, hc⟩ := hr g e.symm
    rw [hrr] at ho; cases ho; cases hc
/-- The stores of a fault. -/
theorem px_made {W : World} {b2 b3 b4 b6 : Nat} {k : Int} (h : PBox b2 b3 b4 b6 k 0 0 W) (n23 : b2 < b3) (n34 : b3 < b4) (n46 : b4 < b6) (a e : Int) :
    KeepsOthers W (((W.setCell ⟨b2, 0, none⟩ (.slice none 0 0)).setCell ⟨b3, 0, none⟩ (.int .i64 a)).setCell ⟨b4, 0, none⟩ (.int .i64 e)).drew ∧
    PBox b2 b3 b4 b6 k a e (((W.setCell ⟨b2, 0, none⟩ (.slice none 0 0)).setCell ⟨b3, 0, none⟩ (.int .i64 a)).setCell ⟨b4, 0, none⟩ (.int .i64 e)).drew ∧
    (∀ w : World, Below w.heap.size w W → w.heap.size ≤ b2 → Below w.heap.size w (((W.setCell ⟨b2, 0, none⟩ (.slice none 0 0)).setCell ⟨b3, 0, none⟩ (.int .i64 a)).setCell ⟨b4, 0, none⟩ (.int .i64 e)).drew) ∧
    (((W.setCell ⟨b2, 0, none⟩ (.slice none 0 0)).setCell ⟨b3, 0, none⟩ (.int .i64 a)).setCell ⟨b4, 0, none⟩ (.int .i64 e)).drew.heap.size = W.heap.size := by
  refine ⟨(((KeepsOthers.setCell _ _ _).trans (KeepsOthers.setCell _ _ _)).trans (KeepsOthers.setCell _ _ _)).trans (KeepsOthers.drew _), ⟨?_, ?_, ?_, ?_⟩, fun w hb hw => ?_, ?_⟩
  · exact ((h.at_.other (by omega) _).other (by omega) _).other (by omega) _
  · exact ((h.r2.set _).other (by omega) _).other (by omega) _
  · exact ((h.r3.other (by omega) _).set _).other (by omega) _
  · exact ((h.r4.other (by omega) _).other (by omega) _).set _
  · exact (((hb.setCell (p := ⟨b2, 0, none⟩) hw _).setCell (p := ⟨b3, 0, none⟩) (by show w.heap.size ≤ b3; omega) _).setCell (p := ⟨b4, 0, none⟩) (by show w.heap.size ≤ b4; omega) _).drew
  · show (((W.setCell _ _).setCell _ _).setCell _ _).heap.size = _
    rw [size_box, size_box, size_box]
theorem below_grown {w W W' : World} {row : Option Nat} {B : Nat} (h : Below w.heap.size w W) (hB : w.heap.size ≤ B) (hg : W.grownBy W' row) (hr : ∀ r, row = some r → B ≤ r ∧ ∃ o : Obj, W.heap[r]? = some o ∧ o.isCells = false) : Below w.heap.size w W' :=
  h.grown hg h.size (fun k e => by have := (hr k e).1; omega)
theorem pi_own {w : World} {B n₀ b2 b3 b4 b5 b6 : Nat} (hB : w.heap.size ≤ B) : OwnFrom B (PI w n₀ b2 b3 b4 b5 b6) :=
  fun _ _ _ _ ⟨⟨v, h1, h2, _⟩, h3, h4, h5, h6⟩ hg hr => ⟨⟨v, boxed_grown h1 hg hr, rows_grown h2 hg hr, trivial⟩, h3.grownNo hg hr, h4, below_grown h5 hB hg hr, Nat.le_trans h6 hg.size⟩
theorem px_own {w : World} {B n₀ b2 b3 b4 b6 : Nat} (hB : w.heap.size ≤ B) (c : Code) : OwnFrom B (PIx w n₀ b2 b3 b4 b6 c) :=
  fun _ _ _ _ ⟨hc, p, x, a, e, h0, h1, h2, h3, h4, h5, h6⟩ hg hr => ⟨hc, p, x, a, e, h0, h1, h2, h3, h4.grownNo hg hr, below_grown h5 hB hg hr, Nat.le_trans h6 hg.size⟩

/-- A round that goes on. -/
theorem ok_made {w W wN w1 : World} {b2 b3 b4 b5 b6 Bs B1 B3 : Nat} {pre : List Pc} {x : Pc} {v v' : Value} {tmp : Obj} {B : Nat} (l1 : b2 < b3) (l2 : b3 < b4) (l3 : b4 < b5) (l4 : b5 < b6) (l5 : b6 < Bs) (l6 : Bs < B1) (l7 : B1 < B3) (l0 : w.heap.size ≤ b2)
    (hv : Boxed wN b5 24 v) (hrow : wN.ownsRow (B3 + 1) 9 1 v pre.length (pre.map (fun x => Value.string (txt x.1)))) (hbx : PBox b2 b3 b4 b6 (1 + (plen pre : Int)) 0 0 wN) (hb : Below w.heap.size w W) (hs : B3 + 1 ≤ W.heap.size) (hbn : Below W.heap.size W wN)
    (hok : ∀ y ∈ pre, (nameR y.1).2 = 0) (hx : (nameR x.1).2 = 0) (hl : pre.length < 8)
    (hown' : w1.ownsRow (B3 + 1) 9 1 v' (pre.length + 1) (pre.map (fun x => Value.string (txt x.1)) ++ [.string (txt x.1)])) (hgrow : (wN.alloc tmp).grownBy w1 v.ownBlock) :
    Boxed w1 b5 24 v ∧ Boxed w1 b6 3 (.int .i64 (1 + (plen pre : Int))) ∧
      ∀ k : Int, k = 1 + (plen pre : Int) + (x.1.length + 1) → KeepsFrom B W ((w1.setCell ⟨b5, 0, none⟩ v').setCell ⟨b6, 0, none⟩ (.int .i64 k)) ∧ KeepK [B1, Bs, B3] W ((w1.setCell ⟨b5, 0, none⟩ v').setCell ⟨b6, 0, none⟩ (.int .i64 k)) ∧
        PI w (B3 + 1) b2 b3 b4 b5 b6 (pre ++ [x]) ((w1.setCell ⟨b5, 0, none⟩ v').setCell ⟨b6, 0, none⟩ (.int .i64 k)) := by
  have hsN : B3 + 1 ≤ wN.heap.size := Nat.le_trans hs hbn.size
  obtain ⟨a1, a2, a3, a4, a5, a6⟩ := box_app hv (by decide) hrow hsN hown' hgrow
  have h61 : Boxed w1 b6 3 (.int .i64 (1 + (plen pre : Int))) := (a5 b6 (by omega)).trans hbx.at_
  have h21 : Boxed w1 b2 24 (.slice none 0 0) := (a5 b2 (by omega)).trans hbx.r2
  have h31 : Boxed w1 b3 3 (.int .i64 0) := (a5 b3 (by omega)).trans hbx.r3
  have h41 : Boxed w1 b4 25 (.int .i64 0) := (a5 b4 (by omega)).trans hbx.r4
  refine ⟨a1, h61, fun k hk => ⟨(((others_below hbn).trans a4).trans (KeepsOthers.setCell _ _ _)).from _, fun b hbm => ?_, ⟨v', a2.other (by omega) _, ?_, trivial⟩, ⟨?_, (h21.other (by omega) _).other (by omega) _, (h31.other (by omega) _).other (by omega) _, (h41.other (by omega) _).other (by omega) _⟩, ⟨fun y hy => ?_, by simp; omega⟩, ?_, ?_⟩⟩
  · simp only [List.mem_cons, List.not_mem_nil, or_false] at hbm
    exact (Below.heap_setCell _ _ _ b (by show b ≠ b6; omega)).trans ((Below.heap_setCell _ _ _ b (by show b ≠ b5; omega)).trans ((a5 b (by omega)).trans (hbn.block b (by omega))))
  · have := rows_box a3 (show b6 < B3 + 1 by omega) (.int .i64 k)
    simpa using this
  · have := (h61.other (B' := b5) (by omega) v').set (.int .i64 k)
    rw [show (1 + (plen (pre ++ [x]) : Int)) = k by rw [plen_snoc, hk]; omega]
    exact this
  · rcases List.mem_append.1 hy with q | q
    · exact hok y q
    · rw [List.mem_singleton.1 q]; exact hx
  · have hbN : Below w.heap.size w wN := below_more hb hbn
    have hb1 : Below w.heap.size w w1 := ((hbN.alloc hbN.size tmp).grown hgrow (Nat.le_trans hbN.size (by simp)) (fun j e => by have := (hrow.lt j e).1; omega))
    exact (hb1.setCell (p := ⟨b5, 0, none⟩) (by show w.heap.size ≤ b5; omega) _).setCell (p := ⟨b6, 0, none⟩) (by show w.heap.size ≤ b6; omega) _
  · rw [size_box, size_box]
    omega

end Go.Proofs.YthchkhfnhhpleaaDoor
