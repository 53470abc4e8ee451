/- tenementref01: the document's machine in memory. -/
import Derived.Test.YthfkpbfapkpnfabPhysOf
namespace Go.Proofs.Ythfkpbfapkpnfab
open Go.RowKit
set_option maxRecDepth 100000

def Fr.head (f : Fr) : List Value := [.int .i64 f.owner, .int .i64 f.type, .int .i64 f.count, .int .i64 f.total]
def headCells (S : List Fr) : List Value := S.flatMap Fr.head

theorem headCells_len : ∀ (S : List Fr), (headCells S).length = S.length * 4
  | [] => rfl
  | f :: S => by
    have ih := headCells_len S
    simp only [headCells, List.flatMap_cons, List.length_append, List.length_cons, Fr.head, List.length_nil] at ih ⊢
    rw [ih]; omega

theorem headCells_get : ∀ (S : List Fr) (i j : Nat) (f : Fr), S[i]? = some f → j < 4 → (headCells S)[i * 4 + j]? = f.head[j]?
  | [], i, j, f, hi, _ => by simp at hi
  | g :: S, 0, j, f, hi, hj => by
    simp at hi; subst hi
    simp only [headCells, List.flatMap_cons, Nat.zero_mul, Nat.zero_add]
    rw [List.getElem?_append_left (by simpa [Fr.head] using hj)]
  | g :: S, i + 1, j, f, hi, hj => by
    have ih := headCells_get S i j f (by simpa using hi) hj
    simp only [headCells, List.flatMap_cons] at ih ⊢
    rw [List.getElem?_append_right (by simp [Fr.head]; omega), show (i + 1) * 4 + j - g.head.length = i * 4 + j by simp [Fr.head]; omega]
    exact ih

theorem headCells_set : ∀ (S : List Fr) (i j : Nat) (f f' : Fr) (v : Value), S[i]? = some f → j < 4 → f.head.set j v = f'.head → (headCells S).set (i * 4 + j) v = headCells (S.set i f')
  | [], i, j, f, f', v, hi, _, _ => by simp at hi
  | g :: S, 0, j, f, f', v, hi, hj, hv => by
    simp at hi; subst hi
    simp only [headCells, List.flatMap_cons, Nat.zero_mul, Nat.zero_add, List.set_cons_zero]
    rw [List.set_append_left _ _ (by simpa [Fr.head] using hj), hv]
  | g :: S, i + 1, j, f, f', v, hi, hj, hv => by
    have ih := headCells_set S i j f f' v (by simpa using hi) hj hv
    simp only [headCells, List.flatMap_cons, List.set_cons_succ] at ih ⊢
    rw [List.set_append_right _ _ (by simp [Fr.head]; omega), show (i + 1) * 4 + j - g.head.length = i * 4 + j by simp [Fr.head]; omega, ih]

theorem headCells_put : ∀ (S : List Fr) (i : Nat) (f f' : Fr), S[i]? = some f → splice (headCells S) (i * 4) f'.head = headCells (S.set i f')
  | [], i, f, f', hi => by simp at hi
  | g :: S, 0, f, f', hi => by
    simp only [headCells, List.flatMap_cons, Nat.zero_mul, List.set_cons_zero]
    rw [splice_append_left _ _ _ _ (by simp [Fr.head])]
    rfl
  | g :: S, i + 1, f, f', hi => by
    have ih := headCells_put S i f f' (by simpa using hi)
    simp only [headCells, List.flatMap_cons, List.set_cons_succ] at ih ⊢
    rw [show (i + 1) * 4 = g.head.length + i * 4 by simp [Fr.head]; omega, splice_append_right, ih]

/-- The blocks of a machine of the document's: itself, its frames' row, its rows' row; each frame's bytes, with the capacity. -/
structure RfK where
  R : Nat
  G : Nat
  H : Nat
  bl : List (Nat × Nat)
def RfK.has (K : RfK) (k : Nat) : Prop := k = K.R ∨ k = K.G ∨ k = K.H ∨ k ∈ K.bl.map Prod.fst
/-- What changes behind the making: all but the machine itself. -/
def RfK.inn (K : RfK) (k : Nat) : Prop := k = K.G ∨ k = K.H ∨ k ∈ K.bl.map Prod.fst
theorem RfK.inn_has {K : RfK} {k : Nat} (h : K.inn k) : K.has k := .inr h

def rowCells (bl : List (Nat × Nat)) : List Value := bl.map fun p => .slice (some ⟨p.1, 0, none⟩) 256 p.2

structure RfM (w : World) (K : RfK) (S : List Fr) : Prop where
  ok : okS S
  len : 1 ≤ S.length ∧ S.length ≤ 256
  bll : K.bl.length = S.length
  head : ∃ c d, S.length ≤ c ∧ S.length ≤ d ∧ w.heap[K.R]? = some (.cells #[.slice (some ⟨K.G, 0, none⟩) S.length c, .slice (some ⟨K.H, 0, none⟩) S.length d] 70 (0, 0))
  frow : ∃ r, w.heap[K.G]? = some (.cells (headCells S ++ r).toArray 30 (0, 0))
  brow : ∃ r, w.heap[K.H]? = some (.cells (rowCells K.bl ++ r).toArray 33 (0, 0))
  rows : ∀ (i : Nat) (f : Fr) (p : Nat × Nat), S[i]? = some f → K.bl[i]? = some p → 256 ≤ p.2 ∧ ∃ r, w.heap[p.1]? = some (.cells (f.bytes.map (Value.int .u8) ++ r).toArray 5 (0, 0))
  nodup : (K.bl.map Prod.fst).Nodup

theorem RfM.kept {w w' : World} {K : RfK} {S : List Fr} {P : Nat → Prop} (h : RfM w K S) (hm : Mod P w w') (hn : ∀ k, K.has k → ¬ P k) : RfM w' K S := by
  obtain ⟨c, d, hc, hd, h1⟩ := h.head
  obtain ⟨r, h2⟩ := h.frow
  obtain ⟨q, h3⟩ := h.brow
  refine ⟨h.ok, h.len, h.bll, ⟨c, d, hc, hd, hm.blk h1 (hn _ (.inl rfl))⟩, ⟨r, hm.blk h2 (hn _ (.inr (.inl rfl)))⟩, ⟨q, hm.blk h3 (hn _ (.inr (.inr (.inl rfl))))⟩, ?_, h.nodup⟩
  intro i f p hi hp
  obtain ⟨h4, r4, h5⟩ := h.rows i f p hi hp
  exact ⟨h4, r4, hm.blk h5 (hn _ (.inr (.inr (.inr (List.mem_map_of_mem (List.mem_of_getElem? hp))))))⟩
theorem RfM.keptNo {w w' : World} {K : RfK} {S : List Fr} (h : RfM w K S) (hm : Mod No w w') : RfM w' K S := h.kept hm (fun _ _ q => q)
theorem RfM.alloc {w : World} {K : RfK} {S : List Fr} (h : RfM w K S) (o : Obj) : RfM (w.alloc o) K S := h.keptNo ((Mod.refl No w).alloc o)

theorem RfM.lt {w : World} {K : RfK} {S : List Fr} (h : RfM w K S) : ∀ k, K.has k → k < w.heap.size := by
  rintro k (rfl | rfl | rfl | hk)
  · obtain ⟨_, _, _, _, h1⟩ := h.head; exact lt_of_blk h1
  · obtain ⟨_, h1⟩ := h.frow; exact lt_of_blk h1
  · obtain ⟨_, h1⟩ := h.brow; exact lt_of_blk h1
  · obtain ⟨p, hp, rfl⟩ := List.mem_map.1 hk
    obtain ⟨i, hi⟩ := List.getElem?_of_mem hp
    have hil := (List.getElem?_eq_some_iff.1 hi).1
    have hb := h.bll
    obtain ⟨_, r, h1⟩ := h.rows i _ p (List.getElem?_eq_getElem (by omega)) hi
    exact lt_of_blk h1

/-- No machine of the code's lies in one of the document's. -/
theorem RfM.ne_phys {w : World} {K : RfK} {S T : List Fr} {B F : Nat} (h : RfM w K S) (hp : PhM w B F T) : ¬ K.has B ∧ ¬ K.has F := by
  obtain ⟨c0, d0, _, _, hh⟩ := h.head
  obtain ⟨rg, hg⟩ := h.frow
  obtain ⟨rh, hr⟩ := h.brow
  obtain ⟨_, _, hb⟩ := hp.head
  obtain ⟨_, hf⟩ := hp.row
  have hl : ∀ k, k ∈ K.bl.map Prod.fst → ∃ cs, w.heap[k]? = some (.cells cs 5 (0, 0)) := by
    intro k hk
    obtain ⟨p, hp, rfl⟩ := List.mem_map.1 hk
    obtain ⟨i, hi⟩ := List.getElem?_of_mem hp
    have hil := (List.getElem?_eq_some_iff.1 hi).1
    have hb := h.bll
    obtain ⟨_, r, h1⟩ := h.rows i _ p (List.getElem?_eq_getElem (by omega)) hi
    exact ⟨_, h1⟩
  constructor
  · rintro (e | e | e | e)
    · rw [← e, hb] at hh; simp at hh
    · rw [← e, hb] at hg; simp at hg
    · rw [← e, hb] at hr; simp at hr
    · obtain ⟨cs, h1⟩ := hl _ e; rw [hb] at h1; simp at h1
  · rintro (e | e | e | e)
    · rw [← e, hf] at hh; simp at hh
    · rw [← e, hf] at hg; simp at hg
    · rw [← e, hf] at hr; simp at hr
    · obtain ⟨cs, h1⟩ := hl _ e; rw [hf] at h1; simp at h1

theorem RfM.cF {w : World} {K : RfK} {S : List Fr} (h : RfM w K S) : ∃ c, S.length ≤ c ∧ w.cell? ⟨K.R, 0, none⟩ = some (.slice (some ⟨K.G, 0, none⟩) S.length c) := by
  obtain ⟨c, d, hc, _, h1⟩ := h.head
  exact ⟨c, hc, by simp [World.cell?, h1]⟩
theorem RfM.cB {w : World} {K : RfK} {S : List Fr} (h : RfM w K S) : ∃ d, S.length ≤ d ∧ w.cell? ⟨K.R, 1, none⟩ = some (.slice (some ⟨K.H, 0, none⟩) S.length d) := by
  obtain ⟨c, d, _, hd, h1⟩ := h.head
  exact ⟨d, hd, by simp [World.cell?, h1]⟩
theorem RfM.cH {w : World} {K : RfK} {S : List Fr} (h : RfM w K S) {i : Nat} {f : Fr} (hi : S[i]? = some f) (j : Nat) (hj : j < 4) : w.cell? ⟨K.G, i * 4 + j, none⟩ = f.head[j]? := by
  obtain ⟨r, h1⟩ := h.frow
  have hl := headCells_len S
  have hlt := (List.getElem?_eq_some_iff.1 hi).1
  rw [row_cell h1, List.getElem?_append_left (by rw [hl]; omega), headCells_get S i j f hi hj]
theorem RfM.fH {w : World} {K : RfK} {S : List Fr} (h : RfM w K S) (j : Nat) : w.frozen? ⟨K.G, j, none⟩ = false := by
  obtain ⟨r, h1⟩ := h.frow
  exact row_free h1 j
theorem RfM.cR {w : World} {K : RfK} {S : List Fr} (h : RfM w K S) {i : Nat} {f : Fr} (hi : S[i]? = some f) :
    ∃ b c, 256 ≤ c ∧ K.bl[i]? = some (b, c) ∧ w.cell? ⟨K.H, i, none⟩ = some (.slice (some ⟨b, 0, none⟩) 256 c) ∧ (∀ j x, f.bytes[j]? = some x → w.cell? ⟨b, j, none⟩ = some (.int .u8 x)) ∧ ∀ j, w.frozen? ⟨b, j, none⟩ = false := by
  obtain ⟨r, h1⟩ := h.brow
  have hb := h.bll
  have hlt := (List.getElem?_eq_some_iff.1 hi).1
  obtain ⟨p, hp⟩ : ∃ p, K.bl[i]? = some p := ⟨_, List.getElem?_eq_getElem (by omega)⟩
  obtain ⟨h4, r4, h5⟩ := h.rows i f p hi hp
  refine ⟨p.1, p.2, h4, hp, ?_, ?_, fun j => row_free h5 j⟩
  · rw [row_cell h1, List.getElem?_append_left (by simp [rowCells]; omega)]
    simp [rowCells, hp]
  · intro j x hx
    have hjl := (List.getElem?_eq_some_iff.1 hx).1
    rw [row_cell h5, List.getElem?_append_left (by simpa using hjl)]
    simp [hx]

/-- Some head cell of a frame is stored. -/
theorem RfM.setH {w : World} {K : RfK} {S : List Fr} (h : RfM w K S) {i : Nat} {f f' : Fr} (hi : S[i]? = some f) (hb : f'.bytes = f.bytes) (j : Nat) (hj : j < 4) {v : Value} (hv : f.head.set j v = f'.head) :
    RfM (w.setCell ⟨K.G, i * 4 + j, none⟩ v) K (S.set i f') ∧ Mod K.inn w (w.setCell ⟨K.G, i * 4 + j, none⟩ v) := by
  obtain ⟨c, d, hc, hd, h1⟩ := h.head
  obtain ⟨r, h2⟩ := h.frow
  obtain ⟨q, h3⟩ := h.brow
  have hl := headCells_len S
  have hlt := (List.getElem?_eq_some_iff.1 hi).1
  have nR : K.R ≠ K.G := by intro e; rw [e, h2] at h1; simp at h1
  have nH : K.H ≠ K.G := by intro e; rw [e, h2] at h3; simp at h3
  have hfo := h.ok f (List.mem_of_getElem? hi)
  refine ⟨⟨okS_set h.ok i ⟨by rw [hb]; exact hfo.1, by rw [hb]; exact hfo.2⟩, by simpa using h.len, by simpa using h.bll, ⟨c, d, by simpa using hc, by simpa using hd, ?_⟩, ⟨r, ?_⟩, ⟨q, ?_⟩, ?_, h.nodup⟩, (Mod.refl _ w).setCell (p := ⟨K.G, i * 4 + j, none⟩) (fun _ => .inl rfl) v⟩
  · rw [heap_setCell_other _ _ _ _ nR, h1]; simp
  · rw [row_set h2, List.set_append_left _ _ (by rw [hl]; omega), headCells_set S i j f f' v hi hj hv]
  · rw [heap_setCell_other _ _ _ _ nH, h3]
  · intro i' f'' p hi' hp
    have hex : ∃ g, S[i']? = some g ∧ g.bytes = f''.bytes := by
      by_cases e : i = i'
      · subst e
        rw [List.getElem?_set_self hlt] at hi'
        exact ⟨f, hi, by rw [← Option.some.inj hi', hb]⟩
      · rw [List.getElem?_set_ne e] at hi'
        exact ⟨f'', hi', rfl⟩
    obtain ⟨g, hg, hgb⟩ := hex
    obtain ⟨h4, r4, h5⟩ := h.rows i' g p hg hp
    rw [hgb] at h5
    refine ⟨h4, r4, ?_⟩
    rw [heap_setCell_other _ _ _ _ (fun e => by rw [e, h2] at h5; simp at h5), h5]

theorem ris_in {K : RfK} {S : List Fr} (i : Int) (w : World) (h : RfM w K S) (h0 : 0 ≤ i) (h1 : i < S.length) :
    Calls Try.prog 98 #[.pointer (some ⟨K.R, 0, none⟩), .int .i64 i] w fun e w' => e = .returned (.bool true) ∧ w = w' := by
  obtain ⟨c, hc, hF⟩ := h.cF
  have d1 : decide (0 ≤ i) = true := decide_eq_true h0
  have d2 : decide (i < S.length) = true := decide_eq_true h1
  go_enter Try.func98, Try.ntmps98
  go_wp2
  go_ret
  exact ⟨rfl, rfl⟩

theorem ris_out {K : RfK} {S : List Fr} (i : Int) (w : World) (h : RfM w K S) (hi : i < 0 ∨ (S.length : Int) ≤ i) :
    Calls Try.prog 98 #[.pointer (some ⟨K.R, 0, none⟩), .int .i64 i] w fun e w' => e = .returned (.bool false) ∧ w = w' := by
  obtain ⟨c, hc, hF⟩ := h.cF
  by_cases h0 : 0 ≤ i
  · have d1 : decide (0 ≤ i) = true := decide_eq_true h0
    have d2 : decide (i < S.length) = false := decide_eq_false (by omega)
    go_enter Try.func98, Try.ntmps98
    go_wp2
    go_ret
    exact ⟨rfl, rfl⟩
  · have d1 : decide (0 ≤ i) = false := decide_eq_false h0
    go_enter Try.func98, Try.ntmps98
    go_wp2
    go_ret
    exact ⟨rfl, rfl⟩

theorem rdomain_yes (n : Int) (w : World) (h0 : 0 ≤ n) (h1 : n < 8) : Calls Try.prog 76 #[.int .i64 n] w fun e w' => e = .returned (.bool true) ∧ w = w' := by
  have d1 : decide (0 ≤ n) = true := decide_eq_true h0
  have d2 : decide (n < 8) = true := decide_eq_true h1
  go_enter Try.func76, Try.ntmps76
  go_wp2
  go_ret
  exact ⟨rfl, rfl⟩

theorem rdomain_no (n : Int) (w : World) (h : n < 0 ∨ 8 ≤ n) : Calls Try.prog 76 #[.int .i64 n] w fun e w' => e = .returned (.bool false) ∧ w = w' := by
  by_cases c : 0 ≤ n
  · have d1 : decide (0 ≤ n) = true := decide_eq_true c
    have d2 : decide (n < 8) = false := decide_eq_false (by omega)
    go_enter Try.func76, Try.ntmps76
    go_wp2
    go_ret
    exact ⟨rfl, rfl⟩
  · have d1 : decide (0 ≤ n) = false := decide_eq_false c
    go_enter Try.func76, Try.ntmps76
    go_wp2
    go_ret
    exact ⟨rfl, rfl⟩

end Go.Proofs.Ythfkpbfapkpnfab
