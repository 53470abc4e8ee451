/- tenementref01: the document's machine in memory. tenementref01: still, Give, Get, Put. tenementref01: Get, Put. tenementref01: Free. tenementref01: In, Read, Write. tenementref01: Owned, Left, Alloc. tenementref01: Read. tenementref01: New. -/
import Derived.Test.YtmdeljacbekbpaaDoorPhysH
import Derived.Test.YtmdeljacbekbpaaDoorPhysG
import Derived.RegionTactic
import Derived.ChangeAlike
import Derived.OwnWalk
import Derived.IntWalk
import Derived.Deep.RegionLaw
/- tenementref01: the document's machine in memory. -/
namespace Go.Proofs.YtmdeljacbekbpaaDoor
open Go.RowKit
set_option maxRecDepth 100000

def Fr.head (f : Fr) : List Value := [.int .i64 f.owner, .int .i64 f.type, .int .i64 f.count, .int .i64 f.total]
def headCells (S : List Fr) : List Value := S.flatMap Fr.head

theorem headCells_len : ∀ (S : List Fr), (headCells S).length = S.length * 4
  | [] => rfl
  | f :: S => by
    have ih := headCells_len S
    simp only [headCells, List.flatMap_cons, List.length_append, List.length_cons, Fr.head, List.length_nil] at ih ⊢
    rw [ih]; omega

theorem headCells_get : ∀ (S : List Fr) (i j : Nat) (f : Fr), S[i]? = some f → j < 4 → (headCells S)[i * 4 + j]? = f.head[j]?
  | [], i, j, f, hi, _ => by simp at hi
  | g :: S, 0, j, f, hi, hj => by
    simp at hi; subst hi
    simp only [headCells, List.flatMap_cons, Nat.zero_mul, Nat.zero_add]
    rw [List.getElem?_append_left (by simpa [Fr.head] using hj)]
  | g :: S, i + 1, j, f, hi, hj => by
    have ih := headCells_get S i j f (by simpa using hi) hj
    simp only [headCells, List.flatMap_cons] at ih ⊢
    rw [List.getElem?_append_right (by simp [Fr.head]; omega), show (i + 1) * 4 + j - g.head.length = i * 4 + j by simp [Fr.head]; omega]
    exact ih

theorem headCells_set : ∀ (S : List Fr) (i j : Nat) (f f' : Fr) (v : Value), S[i]? = some f → j < 4 → f.head.set j v = f'.head → (headCells S).set (i * 4 + j) v = headCells (S.set i f')
  | [], i, j, f, f', v, hi, _, _ => by simp at hi
  | g :: S, 0, j, f, f', v, hi, hj, hv => by
    simp at hi; subst hi
    simp only [headCells, List.flatMap_cons, Nat.zero_mul, Nat.zero_add, List.set_cons_zero]
    rw [List.set_append_left _ _ (by simpa [Fr.head] using hj), hv]
  | g :: S, i + 1, j, f, f', v, hi, hj, hv => by
    have ih := headCells_set S i j f f' v (by simpa using hi) hj hv
    simp only [headCells, List.flatMap_cons, List.set_cons_succ] at ih ⊢
    rw [List.set_append_right _ _ (by simp [Fr.head]; omega), show (i + 1) * 4 + j - g.head.length = i * 4 + j by simp [Fr.head]; omega, ih]

theorem headCells_put : ∀ (S : List Fr) (i : Nat) (f f' : Fr), S[i]? = some f → splice (headCells S) (i * 4) f'.head = headCells (S.set i f')
  | [], i, f, f', hi => by simp at hi
  | g :: S, 0, f, f', hi => by
    simp only [headCells, List.flatMap_cons, Nat.zero_mul, List.set_cons_zero]
    rw [splice_append_left _ _ _ _ (by simp [Fr.head])]
    rfl
  | g :: S, i + 1, f, f', hi => by
    have ih := headCells_put S i f f' (by simpa using hi)
    simp only [headCells, List.flatMap_cons, List.set_cons_succ] at ih ⊢
    rw [show (i + 1) * 4 = g.head.length + i * 4 by simp [Fr.head]; omega, splice_append_right, ih]

/-- The blocks of a machine of the document's: itself, its frames' row, its rows' row; each frame's bytes, with the capacity. -/
structure RfK where
  R : Nat
  G : Nat
  H : Nat
  bl : List (Nat × Nat)
def RfK.has (K : RfK) (k : Nat) : Prop := k = K.R ∨ k = K.G ∨ k = K.H ∨ k ∈ K.bl.map Prod.fst
/-- What changes behind the making: all but the machine itself. -/
def RfK.inn (K : RfK) (k : Nat) : Prop := k = K.G ∨ k = K.H ∨ k ∈ K.bl.map Prod.fst
theorem RfK.inn_has {K : RfK} {k : Nat} (h : K.inn k) : K.has k := .inr h

def rowCells (bl : List (Nat × Nat)) : List Value := bl.map fun p => .slice (some ⟨p.1, 0, none⟩) 256 p.2

structure RfM (w : World) (K : RfK) (S : List Fr) : Prop where
  ok : okS S
  len : 1 ≤ S.length ∧ S.length ≤ 256
  bll : K.bl.length = S.length
  head : ∃ c d, S.length ≤ c ∧ S.length ≤ d ∧ w.heap[K.R]? = some (.cells #[.slice (some ⟨K.G, 0, none⟩) S.length c, .slice (some ⟨K.H, 0, none⟩) S.length d] 75 (0, 0))
  frow : ∃ r, w.heap[K.G]? = some (.cells (headCells S ++ r).toArray 111 (0, 0))
  brow : ∃ r, w.heap[K.H]? = some (.cells (rowCells K.bl ++ r).toArray 22 (0, 0))
  rows : ∀ (i : Nat) (f : Fr) (p : Nat × Nat), S[i]? = some f → K.bl[i]? = some p → 256 ≤ p.2 ∧ ∃ r, w.heap[p.1]? = some (.cells (f.bytes.map (Value.int .u8) ++ r).toArray 5 (0, 0))
  nodup : (K.bl.map Prod.fst).Nodup

theorem RfM.kept {w w' : World} {K : RfK} {S : List Fr} {P : Nat → Prop} (h : RfM w K S) (hm : Mod P w w') (hn : ∀ k, K.has k → ¬ P k) : RfM w' K S := by
  obtain ⟨c, d, hc, hd, h1⟩ := h.head
  obtain ⟨r, h2⟩ := h.frow
  obtain ⟨q, h3⟩ := h.brow
  refine ⟨h.ok, h.len, h.bll, ⟨c, d, hc, hd, hm.blk h1 (hn _ (.inl rfl))⟩, ⟨r, hm.blk h2 (hn _ (.inr (.inl rfl)))⟩, ⟨q, hm.blk h3 (hn _ (.inr (.inr (.inl rfl))))⟩, ?_, h.nodup⟩
  intro i f p hi hp
  obtain ⟨h4, r4, h5⟩ := h.rows i f p hi hp
  exact ⟨h4, r4, hm.blk h5 (hn _ (.inr (.inr (.inr (List.mem_map_of_mem (List.mem_of_getElem? hp))))))⟩
theorem RfM.keptNo {w w' : World} {K : RfK} {S : List Fr} (h : RfM w K S) (hm : Mod No w w') : RfM w' K S := h.kept hm (fun _ _ q => q)
theorem RfM.alloc {w : World} {K : RfK} {S : List Fr} (h : RfM w K S) (o : Obj) : RfM (w.alloc o) K S := h.keptNo ((Mod.refl No w).alloc o)

theorem RfM.lt {w : World} {K : RfK} {S : List Fr} (h : RfM w K S) : ∀ k, K.has k → k < w.heap.size := by
  rintro k (rfl | rfl | rfl | hk)
  · obtain ⟨_, _, _, _, h1⟩ := h.head; exact lt_of_blk h1
  · obtain ⟨_, h1⟩ := h.frow; exact lt_of_blk h1
  · obtain ⟨_, h1⟩ := h.brow; exact lt_of_blk h1
  · obtain ⟨p, hp, rfl⟩ := List.mem_map.1 hk
    obtain ⟨i, hi⟩ := List.getElem?_of_mem hp
    have hil := (List.getElem?_eq_some_iff.1 hi).1
    have hb := h.bll
    obtain ⟨_, r, h1⟩ := h.rows i _ p (List.getElem?_eq_getElem (by omega)) hi
    exact lt_of_blk h1

/-- No machine of the code's lies in one of the document's. -/
theorem RfM.ne_phys {w : World} {K : RfK} {S T : List Fr} {B F : Nat} (h : RfM w K S) (hp : PhM w B F T) : ¬ K.has B ∧ ¬ K.has F := by
  obtain ⟨c0, d0, _, _, hh⟩ := h.head
  obtain ⟨rg, hg⟩ := h.frow
  obtain ⟨rh, hr⟩ := h.brow
  obtain ⟨_, _, hb⟩ := hp.head
  obtain ⟨_, hf⟩ := hp.row
  have hl : ∀ k, k ∈ K.bl.map Prod.fst → ∃ cs, w.heap[k]? = some (.cells cs 5 (0, 0)) := by
    intro k hk
    obtain ⟨p, hp, rfl⟩ := List.mem_map.1 hk
    obtain ⟨i, hi⟩ := List.getElem?_of_mem hp
    have hil := (List.getElem?_eq_some_iff.1 hi).1
    have hb := h.bll
    obtain ⟨_, r, h1⟩ := h.rows i _ p (List.getElem?_eq_getElem (by omega)) hi
    exact ⟨_, h1⟩
  constructor
  · rintro (e | e | e | e)
    · rw [← e, hb] at hh; simp at hh
    · rw [← e, hb] at hg; simp at hg
    · rw [← e, hb] at hr; simp at hr
    · obtain ⟨cs, h1⟩ := hl _ e; rw [hb] at h1; simp at h1
  · rintro (e | e | e | e)
    · rw [← e, hf] at hh; simp at hh
    · rw [← e, hf] at hg; simp at hg
    · rw [← e, hf] at hr; simp at hr
    · obtain ⟨cs, h1⟩ := hl _ e; rw [hf] at h1; simp at h1

theorem RfM.cF {w : World} {K : RfK} {S : List Fr} (h : RfM w K S) : ∃ c, S.length ≤ c ∧ w.cell? ⟨K.R, 0, none⟩ = some (.slice (some ⟨K.G, 0, none⟩) S.length c) := by
  obtain ⟨c, d, hc, _, h1⟩ := h.head
  exact ⟨c, hc, by simp [World.cell?, h1]⟩
theorem RfM.cB {w : World} {K : RfK} {S : List Fr} (h : RfM w K S) : ∃ d, S.length ≤ d ∧ w.cell? ⟨K.R, 1, none⟩ = some (.slice (some ⟨K.H, 0, none⟩) S.length d) := by
  obtain ⟨c, d, _, hd, h1⟩ := h.head
  exact ⟨d, hd, by simp [World.cell?, h1]⟩
theorem RfM.cH {w : World} {K : RfK} {S : List Fr} (h : RfM w K S) {i : Nat} {f : Fr} (hi : S[i]? = some f) (j : Nat) (hj : j < 4) : w.cell? ⟨K.G, i * 4 + j, none⟩ = f.head[j]? := by
  obtain ⟨r, h1⟩ := h.frow
  have hl := headCells_len S
  have hlt := (List.getElem?_eq_some_iff.1 hi).1
  rw [row_cell h1, List.getElem?_append_left (by rw [hl]; omega), headCells_get S i j f hi hj]
theorem RfM.fH {w : World} {K : RfK} {S : List Fr} (h : RfM w K S) (j : Nat) : w.frozen? ⟨K.G, j, none⟩ = false := by
  obtain ⟨r, h1⟩ := h.frow
  exact row_free h1 j
theorem RfM.cR {w : World} {K : RfK} {S : List Fr} (h : RfM w K S) {i : Nat} {f : Fr} (hi : S[i]? = some f) :
    ∃ b c, 256 ≤ c ∧ K.bl[i]? = some (b, c) ∧ w.cell? ⟨K.H, i, none⟩ = some (.slice (some ⟨b, 0, none⟩) 256 c) ∧ (∀ j x, f.bytes[j]? = some x → w.cell? ⟨b, j, none⟩ = some (.int .u8 x)) ∧ ∀ j, w.frozen? ⟨b, j, none⟩ = false := by
  obtain ⟨r, h1⟩ := h.brow
  have hb := h.bll
  have hlt := (List.getElem?_eq_some_iff.1 hi).1
  obtain ⟨p, hp⟩ : ∃ p, K.bl[i]? = some p := ⟨_, List.getElem?_eq_getElem (by omega)⟩
  obtain ⟨h4, r4, h5⟩ := h.rows i f p hi hp
  refine ⟨p.1, p.2, h4, hp, ?_, ?_, fun j => row_free h5 j⟩
  · rw [row_cell h1, List.getElem?_append_left (by simp [rowCells]; omega)]
    simp [rowCells, hp]
  · intro j x hx
    have hjl := (List.getElem?_eq_some_iff.1 hx).1
    rw [row_cell h5, List.getElem?_append_left (by simpa using hjl)]
    simp [hx]

/-- Some head cell of a frame is stored. -/
theorem RfM.setH {w : World} {K : RfK} {S : List Fr} (h : RfM w K S) {i : Nat} {f f' : Fr} (hi : S[i]? = some f) (hb : f'.bytes = f.bytes) (j : Nat) (hj : j < 4) {v : Value} (hv : f.head.set j v = f'.head) :
    RfM (w.setCell ⟨K.G, i * 4 + j, none⟩ v) K (S.set i f') ∧ Mod K.inn w (w.setCell ⟨K.G, i * 4 + j, none⟩ v) := by
  obtain ⟨c, d, hc, hd, h1⟩ := h.head
  obtain ⟨r, h2⟩ := h.frow
  obtain ⟨q, h3⟩ := h.brow
  have hl := headCells_len S
  have hlt := (List.getElem?_eq_some_iff.1 hi).1
  have nR : K.R ≠ K.G := by intro e; rw [e, h2] at h1; simp at h1
  have nH : K.H ≠ K.G := by intro e; rw [e, h2] at h3; simp at h3
  have hfo := h.ok f (List.mem_of_getElem? hi)
  refine ⟨⟨okS_set h.ok i ⟨by rw [hb]; exact hfo.1, by rw [hb]; exact hfo.2⟩, by simpa using h.len, by simpa using h.bll, ⟨c, d, by simpa using hc, by simpa using hd, ?_⟩, ⟨r, ?_⟩, ⟨q, ?_⟩, ?_, h.nodup⟩, (Mod.refl _ w).setCell (p := ⟨K.G, i * 4 + j, none⟩) (fun _ => .inl rfl) v⟩
  · rw [heap_setCell_other _ _ _ _ nR, h1]; simp
  · rw [row_set h2, List.set_append_left _ _ (by rw [hl]; omega), headCells_set S i j f f' v hi hj hv]
  · rw [heap_setCell_other _ _ _ _ nH, h3]
  · intro i' f'' p hi' hp
    have hex : ∃ g, S[i']? = some g ∧ g.bytes = f''.bytes := by
      by_cases e : i = i'
      · subst e
        rw [List.getElem?_set_self hlt] at hi'
        exact ⟨f, hi, by rw [← Option.some.inj hi', hb]⟩
      · rw [List.getElem?_set_ne e] at hi'
        exact ⟨f'', hi', rfl⟩
    obtain ⟨g, hg, hgb⟩ := hex
    obtain ⟨h4, r4, h5⟩ := h.rows i' g p hg hp
    rw [hgb] at h5
    refine ⟨h4, r4, ?_⟩
    rw [heap_setCell_other _ _ _ _ (fun e => by rw [e, h2] at h5; simp at h5), h5]

theorem ris_in {K : RfK} {S : List Fr} (i : Int) (w : World) (h : RfM w K S) (h0 : 0 ≤ i) (h1 : i < S.length) :
    Calls Tryd.prog 71 #[.pointer (some ⟨K.R, 0, none⟩), .int .i64 i] w fun e w' => e = .returned (.bool true) ∧ w = w' := by
  obtain ⟨c, hc, hF⟩ := h.cF
  have d1 : decide (0 ≤ i) = true := decide_eq_true h0
  have d2 : decide (i < S.length) = true := decide_eq_true h1
  go_enter Tryd.func71, Tryd.ntmps71
  go_wp2
  go_ret
  exact ⟨rfl, rfl⟩

theorem ris_out {K : RfK} {S : List Fr} (i : Int) (w : World) (h : RfM w K S) (hi : i < 0 ∨ (S.length : Int) ≤ i) :
    Calls Tryd.prog 71 #[.pointer (some ⟨K.R, 0, none⟩), .int .i64 i] w fun e w' => e = .returned (.bool false) ∧ w = w' := by
  obtain ⟨c, hc, hF⟩ := h.cF
  by_cases h0 : 0 ≤ i
  · have d1 : decide (0 ≤ i) = true := decide_eq_true h0
    have d2 : decide (i < S.length) = false := decide_eq_false (by omega)
    go_enter Tryd.func71, Tryd.ntmps71
    go_wp2
    go_ret
    exact ⟨rfl, rfl⟩
  · have d1 : decide (0 ≤ i) = false := decide_eq_false h0
    go_enter Tryd.func71, Tryd.ntmps71
    go_wp2
    go_ret
    exact ⟨rfl, rfl⟩

theorem rdomain_yes (n : Int) (w : World) (h0 : 0 ≤ n) (h1 : n < 8) : Calls Tryd.prog 57 #[.int .i64 n] w fun e w' => e = .returned (.bool true) ∧ w = w' := by
  have d1 : decide (0 ≤ n) = true := decide_eq_true h0
  have d2 : decide (n < 8) = true := decide_eq_true h1
  go_enter Tryd.func57, Tryd.ntmps57
  go_wp2
  go_ret
  exact ⟨rfl, rfl⟩

theorem rdomain_no (n : Int) (w : World) (h : n < 0 ∨ 8 ≤ n) : Calls Tryd.prog 57 #[.int .i64 n] w fun e w' => e = .returned (.bool false) ∧ w = w' := by
  by_cases c : 0 ≤ n
  · have d1 : decide (0 ≤ n) = true := decide_eq_true c
    have d2 : decide (n < 8) = false := decide_eq_false (by omega)
    go_enter Tryd.func57, Tryd.ntmps57
    go_wp2
    go_ret
    exact ⟨rfl, rfl⟩
  · have d1 : decide (0 ≤ n) = false := decide_eq_false c
    go_enter Tryd.func57, Tryd.ntmps57
    go_wp2
    go_ret
    exact ⟨rfl, rfl⟩

end Go.Proofs.YtmdeljacbekbpaaDoor

/- tenementref01: still, Give, Get, Put. -/
namespace Go.Proofs.YtmdeljacbekbpaaDoor
open Go.RowKit
set_option maxRecDepth 100000

/-- All four head cells of a frame are stored. -/
theorem RfM.setH4 {w : World} {K : RfK} {S : List Fr} (h : RfM w K S) {i : Nat} {f f' : Fr} (hi : S[i]? = some f) (hb : f'.bytes = f.bytes) :
    RfM ((((w.setCell ⟨K.G, i * 4, none⟩ (.int .i64 f'.owner)).setCell ⟨K.G, i * 4 + 1, none⟩ (.int .i64 f'.type)).setCell ⟨K.G, i * 4 + 2, none⟩ (.int .i64 f'.count)).setCell ⟨K.G, i * 4 + 3, none⟩ (.int .i64 f'.total)) K (S.set i f') ∧
    Mod K.inn w ((((w.setCell ⟨K.G, i * 4, none⟩ (.int .i64 f'.owner)).setCell ⟨K.G, i * 4 + 1, none⟩ (.int .i64 f'.type)).setCell ⟨K.G, i * 4 + 2, none⟩ (.int .i64 f'.count)).setCell ⟨K.G, i * 4 + 3, none⟩ (.int .i64 f'.total)) := by
  have hlt : i < S.length := (List.getElem?_eq_some_iff.1 hi).1
  obtain ⟨s1, m1⟩ := h.setH (f' := { f with owner := f'.owner }) hi rfl 0 (by omega) (v := .int .i64 f'.owner) rfl
  obtain ⟨s2, m2⟩ := s1.setH (i := i) (f := { f with owner := f'.owner }) (f' := { f with owner := f'.owner, type := f'.type }) (by simp [hlt]) rfl 1 (by omega) (v := .int .i64 f'.type) rfl
  obtain ⟨s3, m3⟩ := s2.setH (i := i) (f := { f with owner := f'.owner, type := f'.type }) (f' := { f with owner := f'.owner, type := f'.type, count := f'.count }) (by simp [hlt]) rfl 2 (by omega) (v := .int .i64 f'.count) rfl
  obtain ⟨s4, m4⟩ := s3.setH (i := i) (f := { f with owner := f'.owner, type := f'.type, count := f'.count }) (f' := { f with owner := f'.owner, type := f'.type, count := f'.count, total := f'.total }) (by simp [hlt]) rfl 3 (by omega) (v := .int .i64 f'.total) rfl
  have e : ({ f with owner := f'.owner, type := f'.type, count := f'.count, total := f'.total } : Fr) = f' := by obtain ⟨a, b, c, d, e⟩ := f'; simp at hb ⊢; exact hb.symm
  rw [e] at s4
  refine ⟨by simpa using s4, ((m1.trans m2).trans m3).trans m4⟩

end Go.Proofs.YtmdeljacbekbpaaDoor

/- tenementref01: Get, Put. -/
namespace Go.Proofs.YtmdeljacbekbpaaDoor
open Go.RowKit
set_option maxRecDepth 100000

end Go.Proofs.YtmdeljacbekbpaaDoor

/- tenementref01: Free. -/
namespace Go.Proofs.YtmdeljacbekbpaaDoor
open Go.RowKit
set_option maxRecDepth 100000

theorem RfK.row_mem {K : RfK} {i : Nat} {b c : Nat} (h : K.bl[i]? = some (b, c)) : K.has b := .inr (.inr (.inr (List.mem_map.2 ⟨(b, c), List.mem_of_getElem? h, rfl⟩)))

/-- A frame's bytes are another row, a new one. -/
theorem RfM.newRow {w : World} {K : RfK} {S : List Fr} (h : RfM w K S) {i : Nat} {f : Fr} (hi : S[i]? = some f) (b c : Nat) (bs : List Int) (hc : 256 ≤ c) (hl : bs.length = 256) (hr : ∀ x ∈ bs, 0 ≤ x ∧ x ≤ 255)
    (hb : ∃ r, w.heap[b]? = some (.cells (bs.map (Value.int .u8) ++ r).toArray 5 (0, 0))) (hn : ¬ K.has b) :
    RfM (w.setCell ⟨K.H, i, none⟩ (.slice (some ⟨b, 0, none⟩) 256 c)) { K with bl := K.bl.set i (b, c) } (S.set i { f with bytes := bs }) ∧ Mod K.inn w (w.setCell ⟨K.H, i, none⟩ (.slice (some ⟨b, 0, none⟩) 256 c)) := by
  obtain ⟨c0, d0, hc0, hd0, h1⟩ := h.head
  obtain ⟨r, h2⟩ := h.frow
  obtain ⟨q, h3⟩ := h.brow
  obtain ⟨rb, hrb⟩ := hb
  have hlt := (List.getElem?_eq_some_iff.1 hi).1
  have hbl := h.bll
  have nR : K.R ≠ K.H := by intro e; rw [e, h3] at h1; simp at h1
  have nG : K.G ≠ K.H := by intro e; rw [e, h3] at h2; simp at h2
  have nb : ∀ k cs, w.heap[k]? = some (.cells cs 5 (0, 0)) → k ≠ K.H := by intro k cs hk e; rw [e, h3] at hk; simp at hk
  refine ⟨⟨okS_set h.ok i ⟨hl, hr⟩, by simpa using h.len, by simpa using hbl, ⟨c0, d0, by simpa using hc0, by simpa using hd0, ?_⟩, ⟨r, ?_⟩, ⟨q, ?_⟩, ?_, ?_⟩, (Mod.refl _ w).setCell (p := ⟨K.H, i, none⟩) (fun _ => .inr (.inl rfl)) _⟩
  · rw [heap_setCell_other _ _ _ _ nR, h1]; simp
  · rw [heap_setCell_other _ _ _ _ nG, h2]
    have : headCells (S.set i { f with bytes := bs }) = headCells S := by
      have e := headCells_put S i f { f with bytes := bs } hi
      rw [← e]
      have hh : (headCells S).drop (i * 4) = f.head ++ (headCells S).drop (i * 4 + 4) := by
        apply List.ext_getElem?
        intro j
        by_cases hj : j < 4
        · rw [List.getElem?_append_left (by simpa [Fr.head] using hj), List.getElem?_drop, headCells_get S i j f hi hj]
        · rw [List.getElem?_append_right (by simp [Fr.head]; omega), List.getElem?_drop, List.getElem?_drop]
          congr 1; simp [Fr.head]; omega
      have hlen := headCells_len S
      show (headCells S).take (i * 4) ++ (f.head ++ (headCells S).drop (i * 4 + 4)) = headCells S
      rw [← hh, List.take_append_drop]
    rw [this]
  · rw [row_set h3, List.set_append_left _ _ (by simp [rowCells]; omega)]
    simp [rowCells, List.map_set]
  · intro i' f' p hi' hp
    by_cases e : i = i'
    · subst e
      rw [List.getElem?_set_self hlt] at hi'
      rw [List.getElem?_set_self (by omega)] at hp
      obtain rfl := Option.some.inj hi'
      obtain rfl := Option.some.inj hp
      exact ⟨hc, rb, by rw [heap_setCell_other _ _ _ _ (nb _ _ hrb), hrb]⟩
    · rw [List.getElem?_set_ne e] at hi'
      have hp : (K.bl.set i (b, c))[i']? = some p := hp
      rw [List.getElem?_set_ne e] at hp
      obtain ⟨h4, r4, h5⟩ := h.rows i' f' p hi' hp
      exact ⟨h4, r4, by rw [heap_setCell_other _ _ _ _ (nb _ _ h5), h5]⟩
  · show ((K.bl.set i (b, c)).map Prod.fst).Nodup
    rw [List.map_set]
    have hnm : b ∉ K.bl.map Prod.fst := fun q => hn (.inr (.inr (.inr q)))
    have hnd := h.nodup
    revert hnm hnd
    generalize K.bl.map Prod.fst = l
    intro hnm hnd
    clear hi hlt hbl hc hl hr hn h1 h2 h3 hrb nR nG nb
    induction l generalizing i with
    | nil => simp
    | cons x xs ih =>
      rw [List.nodup_cons] at hnd
      cases i with
      | zero =>
        rw [List.set_cons_zero, List.nodup_cons]
        exact ⟨fun q => hnm (List.mem_cons_of_mem _ q), hnd.2⟩
      | succ i =>
        rw [List.set_cons_succ, List.nodup_cons]
        refine ⟨fun q => ?_, ih (fun q => hnm (List.mem_cons_of_mem _ q)) hnd.2⟩
        rcases List.mem_or_eq_of_mem_set q with q | q
        · exact hnd.1 q
        · exact hnm (by have q : x = b := q; simp [q])

/-- The blocks behind a step: those from before, and new ones. -/
def RfK.grew (K K' : RfK) (n : Nat) : Prop := K'.R = K.R ∧ ∀ k, K'.has k → K.has k ∨ n ≤ k
theorem RfK.grew_refl (K : RfK) (n : Nat) : K.grew K n := ⟨rfl, fun _ h => .inl h⟩
theorem RfK.grew_set (K : RfK) (i b c n : Nat) (h : n ≤ b) : K.grew { K with bl := K.bl.set i (b, c) } n := by
  refine ⟨rfl, ?_⟩
  rintro k (e | e | e | e)
  · exact .inl (.inl e)
  · exact .inl (.inr (.inl e))
  · exact .inl (.inr (.inr (.inl e)))
  · have e : k ∈ (K.bl.set i (b, c)).map Prod.fst := e
    rw [List.map_set] at e
    rcases List.mem_or_eq_of_mem_set e with q | q
    · exact .inl (.inr (.inr (.inr q)))
    · exact .inr (by rw [q]; exact h)

/-- A row of noughts. -/
def zeroB : List Int := List.replicate 256 0
def zeroRow : Array Value := (zeroB.map (Value.int .u8)).toArray
theorem zeroB_len : zeroB.length = 256 := List.length_replicate
theorem zeroB_range : ∀ x ∈ zeroB, 0 ≤ x ∧ x ≤ 255 := fun x hx => by have := List.eq_of_mem_replicate hx; omega
theorem make_page (w : World) : (Instr.makeSlice 22 (.int .i64 256) (.int .i64 256)).run Tryd.prog w = .ok (.slice (some ⟨w.heap.size, 0, none⟩) 256 256) (w.alloc (.cells zeroRow 5)) := by
  have h := run_make_row' (P := Tryd.prog) 22 5 (.int .u8 0) 1 Tryd.underlying22 Tryd.infoU8 rfl .i64 .i64 256 (by omega) (by omega) w
  have e : madeCells #[Value.int .u8 0] 256 = zeroRow := by rw [made_one, zeroRow, zeroB, List.map_replicate]
  rw [e] at h
  exact h
theorem zeroRow_eq : zeroRow = (zeroB.map (Value.int .u8)).toArray := rfl
attribute [irreducible] zeroRow

end Go.Proofs.YtmdeljacbekbpaaDoor

/- tenementref01: In, Read, Write. -/
namespace Go.Proofs.YtmdeljacbekbpaaDoor
open Go.RowKit
set_option maxRecDepth 100000

theorem rin_in {K : RfK} {S : List Fr} (i off n : Int) (w : World) (h : RfM w K S) (hp : InP S i off n) :
    Calls Tryd.prog 66 #[.pointer (some ⟨K.R, 0, none⟩), .int .i64 i, .int .i64 off, .int .i64 n] w fun e w' => e = .returned (.bool true) ∧ w = w' := by
  obtain ⟨⟨hi0, hi1⟩, ho, hn, hs⟩ := hp
  have d1 : decide (0 ≤ off) = true := decide_eq_true (by omega)
  have d2 : decide (0 ≤ n) = true := decide_eq_true (by omega)
  have d3 : decide (off ≤ 256) = true := decide_eq_true (by omega)
  have d4 : decide (n ≤ 256 - off) = true := decide_eq_true (by omega)
  go_enter Tryd.func66, Tryd.ntmps66
  go_wp2_with (go_at_call 71; refine (ris_in i _ h hi0 hi1).mono ?_; rintro e w' ⟨rfl, rfl⟩)
  go_ret
  exact ⟨rfl, rfl⟩

theorem rin_out {K : RfK} {S : List Fr} (i off n : Int) (w : World) (h : RfM w K S) (hp : ¬ InP S i off n) :
    Calls Tryd.prog 66 #[.pointer (some ⟨K.R, 0, none⟩), .int .i64 i, .int .i64 off, .int .i64 n] w fun e w' => e = .returned (.bool false) ∧ w = w' := by
  by_cases hi : i < 0 ∨ (S.length : Int) ≤ i
  · go_enter Tryd.func66, Tryd.ntmps66
    go_wp2_with (go_at_call 71; refine (ris_out i _ h hi).mono ?_; rintro e w' ⟨rfl, rfl⟩)
    go_ret
    exact ⟨rfl, rfl⟩
  have hi0 : 0 ≤ i := by omega
  have hi1 : i < S.length := by omega
  by_cases c1 : 0 ≤ off
  rotate_left
  · have d1 : decide (0 ≤ off) = false := decide_eq_false c1
    go_enter Tryd.func66, Tryd.ntmps66
    go_wp2_with (go_at_call 71; refine (ris_in i _ h hi0 hi1).mono ?_; rintro e w' ⟨rfl, rfl⟩)
    go_ret
    exact ⟨rfl, rfl⟩
  have d1 : decide (0 ≤ off) = true := decide_eq_true c1
  by_cases c2 : 0 ≤ n
  rotate_left
  · have d2 : decide (0 ≤ n) = false := decide_eq_false c2
    go_enter Tryd.func66, Tryd.ntmps66
    go_wp2_with (go_at_call 71; refine (ris_in i _ h hi0 hi1).mono ?_; rintro e w' ⟨rfl, rfl⟩)
    go_ret
    exact ⟨rfl, rfl⟩
  have d2 : decide (0 ≤ n) = true := decide_eq_true c2
  by_cases c3 : off ≤ 256
  rotate_left
  · have d3 : decide (off ≤ 256) = false := decide_eq_false c3
    go_enter Tryd.func66, Tryd.ntmps66
    go_wp2_with (go_at_call 71; refine (ris_in i _ h hi0 hi1).mono ?_; rintro e w' ⟨rfl, rfl⟩)
    go_ret
    exact ⟨rfl, rfl⟩
  have d3 : decide (off ≤ 256) = true := decide_eq_true c3
  have d4 : decide (n ≤ 256 - off) = false := decide_eq_false (by unfold InP at hp; omega)
  go_enter Tryd.func66, Tryd.ntmps66
  go_wp2_with (go_at_call 71; refine (ris_in i _ h hi0 hi1).mono ?_; rintro e w' ⟨rfl, rfl⟩)
  go_ret
  exact ⟨rfl, rfl⟩

theorem rread_out {K : RfK} {S : List Fr} (i off n : Int) (w : World) (h : RfM w K S) (hp : ¬ InP S i off n) :
    Calls Tryd.prog 70 #[.pointer (some ⟨K.R, 0, none⟩), .int .i64 i, .int .i64 off, .int .i64 n] w fun e w' => e = .returned (.tuple #[.slice none 0 0, .int .i64 1]) ∧ w = w' := by
  go_enter Tryd.func70, Tryd.ntmps70
  go_wp2_with (go_at_call 66; refine (rin_out i off n _ h hp).mono ?_; rintro e w' ⟨rfl, rfl⟩)
  go_ret2
  exact ⟨rfl, rfl⟩

theorem rwrite_out {K : RfK} {S : List Fr} (i off : Int) (p : Option Addr) (n c : Nat) (w : World) (h : RfM w K S) (hp : ¬ InP S i off n) :
    Calls Tryd.prog 51 #[.pointer (some ⟨K.R, 0, none⟩), .int .i64 i, .int .i64 off, .slice p n c] w fun e w' => e = .returned (.int .i64 1) ∧ w = w' := by
  go_enter Tryd.func51, Tryd.ntmps51
  go_wp2_with (go_at_call 66; refine (rin_out i off n _ h hp).mono ?_; rintro e w' ⟨rfl, rfl⟩)
  go_ret
  exact ⟨rfl, rfl⟩

theorem rwrite_free {K : RfK} {S : List Fr} (i off : Int) (p : Option Addr) (n c : Nat) (f : Fr) (w : World) (h : RfM w K S) (hp : InP S i off n) (hf : S[i.toNat]? = some f) (ho : f.owner = -1) :
    Calls Tryd.prog 51 #[.pointer (some ⟨K.R, 0, none⟩), .int .i64 i, .int .i64 off, .slice p n c] w fun e w' => e = .returned (.int .i64 11) ∧ w = w' := by
  have hi := hp.1
  obtain ⟨cf, hcf, hF⟩ := h.cF
  have c0 := h.cH hf 0 (by omega)
  simp only [Nat.add_zero, Fr.head, List.getElem?_cons_zero] at c0
  rw [ho] at c0
  have hi0 := hi.1
  have hi1 := hi.2
  clear ho hi
  go_enter Tryd.func51, Tryd.ntmps51
  go_wp2_with (go_at_call 66; refine (rin_in i off n _ h hp).mono ?_; rintro e w' ⟨rfl, rfl⟩)
  go_ret
  exact ⟨rfl, rfl⟩

/-- One byte of a frame is stored. -/
theorem RfM.setB {w : World} {K : RfK} {S : List Fr} (h : RfM w K S) {i : Nat} {f : Fr} (hi : S[i]? = some f) {b c : Nat} (hb : K.bl[i]? = some (b, c)) (j : Nat) (hj : j < 256) (x : Int) (hx : 0 ≤ x ∧ x ≤ 255) :
    RfM (w.setCell ⟨b, j, none⟩ (.int .u8 x)) K (S.set i { f with bytes := f.bytes.set j x }) ∧ Mod K.inn w (w.setCell ⟨b, j, none⟩ (.int .u8 x)) := by
  obtain ⟨c0, d0, hc0, hd0, h1⟩ := h.head
  obtain ⟨r, h2⟩ := h.frow
  obtain ⟨q, h3⟩ := h.brow
  obtain ⟨h4, rb, hrb⟩ := h.rows i f (b, c) hi hb
  have hrb : w.heap[b]? = some (.cells (f.bytes.map (Value.int .u8) ++ rb).toArray 5 (0, 0)) := hrb
  have hlt := (List.getElem?_eq_some_iff.1 hi).1
  have hfo := h.ok f (List.mem_of_getElem? hi)
  have nR : K.R ≠ b := by intro e; rw [e, hrb] at h1; simp at h1
  have nG : K.G ≠ b := by intro e; rw [e, hrb] at h2; simp at h2
  have nH : K.H ≠ b := by intro e; rw [e, hrb] at h3; simp at h3
  refine ⟨⟨okS_set h.ok i ⟨by simpa using hfo.1, ?_⟩, by simpa using h.len, by simpa using h.bll, ⟨c0, d0, by simpa using hc0, by simpa using hd0, ?_⟩, ⟨r, ?_⟩, ⟨q, ?_⟩, ?_, h.nodup⟩, (Mod.refl _ w).setCell (p := ⟨b, j, none⟩) (fun _ => .inr (.inr (List.mem_map.2 ⟨(b, c), List.mem_of_getElem? hb, rfl⟩))) _⟩
  · intro y hy
    rcases List.mem_or_eq_of_mem_set hy with q | q
    · exact hfo.2 y q
    · rw [q]; exact hx
  · rw [heap_setCell_other _ _ _ _ nR, h1]; simp
  · rw [heap_setCell_other _ _ _ _ nG, h2]
    have e : ∀ (S : List Fr) (i : Nat), S[i]? = some f → headCells (S.set i { f with bytes := f.bytes.set j x }) = headCells S := by
      intro S
      induction S with
      | nil => intro i h; simp at h
      | cons g S ih =>
        intro i hg
        cases i with
        | zero => simp at hg; subst hg; rfl
        | succ i =>
          have := ih i (by simpa using hg)
          simp only [headCells, List.flatMap_cons, List.set_cons_succ] at this ⊢
          rw [this]
    rw [e S i hi]
  · rw [heap_setCell_other _ _ _ _ nH, h3]
  · intro i' f' p hi' hp
    by_cases e : i = i'
    · subst e
      rw [List.getElem?_set_self hlt] at hi'
      obtain rfl := Option.some.inj hi'
      rw [hb] at hp
      obtain rfl := Option.some.inj hp
      refine ⟨h4, rb, ?_⟩
      rw [row_set hrb, List.set_append_left _ _ (by simp [hfo.1]; exact hj)]
      simp [List.map_set]
    · rw [List.getElem?_set_ne e] at hi'
      obtain ⟨h4', r4, h5⟩ := h.rows i' f' p hi' hp
      refine ⟨h4', r4, ?_⟩
      rw [heap_setCell_other _ _ _ _ ?_, h5]
      intro ee
      have hnd := h.nodup
      have e1 : (K.bl.map Prod.fst)[i]? = some b := by simp [hb]
      have e2 : (K.bl.map Prod.fst)[i']? = some b := by simp [hp, ee]
      have l1 := (List.getElem?_eq_some_iff.1 e1).1
      have l2 := (List.getElem?_eq_some_iff.1 e2).1
      rw [List.getElem?_eq_getElem l1] at e1
      rw [List.getElem?_eq_getElem l2] at e2
      have e3 := (Option.some.inj e1).trans (Option.some.inj e2).symm
      have hpw := List.pairwise_iff_getElem.1 hnd
      rcases Nat.lt_or_gt_of_ne e with q | q
      · exact hpw i i' l1 l2 q e3
      · exact hpw i' i l2 l1 q e3.symm

theorem set_same {S : List Fr} {i : Nat} {f : Fr} (h : S[i]? = some f) : S.set i f = S := by
  obtain ⟨h1, rfl⟩ := List.getElem?_eq_some_iff.1 h
  exact List.set_getElem_self h1

theorem splice_step {l bs : List Int} {o k : Nat} {x : Int} (hl : o + bs.length ≤ l.length) (hx : bs[k]? = some x) : (splice l o (bs.take k)).set (o + k) x = splice l o (bs.take (k + 1)) := by
  have hk := (List.getElem?_eq_some_iff.1 hx).1
  have e : bs.take (k + 1) = bs.take k ++ [x] := by rw [List.take_add_one, hx]; rfl
  unfold splice
  rw [e]
  have h1 : (l.take o).length = o := by simp; omega
  have h2 : (bs.take k).length = k := by simp; omega
  rw [← List.append_assoc, List.set_append_right _ _ (by simp [h1, h2]), List.length_append, h1, h2, show o + k - (o + k) = 0 by omega]
  rw [List.length_append, h2, List.drop_eq_getElem_cons (show o + k < l.length by omega), List.set_cons_zero]
  simp [Nat.add_assoc]

set_option maxHeartbeats 1600000 in
theorem rwrite_in {K : RfK} {S : List Fr} (i off : Int) (p : Option Addr) (n c : Nat) (bs : List Int) (f : Fr) (w : World) (h : RfM w K S) (hl : bs.length = n) (hp : InP S i off n) (hf : S[i.toNat]? = some f) (ho : f.owner ≠ -1)
    (hr : ∀ x ∈ bs, 0 ≤ x ∧ x ≤ 255) (hs : 0 < n → ∃ b o, p = some ⟨b, o, none⟩ ∧ ¬ K.inn b ∧ n ≤ c ∧ ∀ j x, bs[j]? = some x → w.cell? ⟨b, o + j, none⟩ = some (.int .u8 x)) :
    Calls Tryd.prog 51 #[.pointer (some ⟨K.R, 0, none⟩), .int .i64 i, .int .i64 off, .slice p n c] w fun e w' =>
      e = .returned (.int .i64 0) ∧ Mod K.inn w w' ∧ RfM w' K (S.set i.toNat { f with bytes := splice f.bytes off.toNat bs }) := by
  have hp' := hp
  obtain ⟨⟨hi0, hi1⟩, hof, hn, hz⟩ := hp
  obtain ⟨o, rfl⟩ := Int.eq_ofNat_of_zero_le hof
  obtain ⟨cf, hcf, hF⟩ := h.cF
  have c0 := h.cH hf 0 (by omega)
  simp only [Nat.add_zero, Fr.head, List.getElem?_cons_zero] at c0
  have d0 : (f.owner == -1) = false := beq_eq_false_iff_ne.2 ho
  have hlt : i.toNat < S.length := by omega
  have hfo := h.ok f (List.mem_of_getElem? hf)
  have HS := Lib.hid hs
  have HRG := Lib.hid hr
  have HL := Lib.hid hl
  clear hs hr hl ho
  go_enter Tryd.func51, Tryd.ntmps51
  go_wp2_with (go_at_call 66; refine (rin_in i o n _ h hp').mono ?_; rintro e w' ⟨rfl, rfl⟩)
  go_loopw [9] (fun v wr => ∃ k : Nat, k ≤ n ∧ v = .int .i64 k ∧ Mod K.inn w wr ∧ RfM wr K (S.set i.toNat { f with bytes := splice f.bytes o (bs.take k) })) (fun v _ => n - (intOf v).toNat)
  case atStart =>
    refine ⟨0, Nat.zero_le _, rfl, Mod.refl _ _, ?_⟩
    have e : splice f.bytes o (bs.take 0) = f.bytes := by simp [splice]
    rw [e, show ({ f with bytes := f.bytes } : Fr) = f from rfl, set_same hf]
    exact h
  case round =>
    obtain ⟨k, hk, rfl, hm, hR⟩ := hrel
    by_cases hlt2 : k < n
    · obtain ⟨sb, so, rfl, hsb, hnc, hsc⟩ := HS.out (by omega)
      obtain ⟨x, hx⟩ : ∃ x, bs[k]? = some x := ⟨bs[k]'(by rw [HL.out]; exact hlt2), by rw [List.getElem?_eq_getElem]⟩
      have hx0 := hsc k x hx
      have hxw : wr.cell? ⟨sb, so + k, none⟩ = some (.int .u8 x) := by
        have := World.block_lt_of_cell? w _ hx0
        exact (World.cell?_of_block (w := w) (hm.block sb this hsb)).trans hx0
      obtain ⟨fk, hfk⟩ : ∃ fk : Fr, fk = { f with bytes := splice f.bytes o (bs.take k) } := ⟨_, rfl⟩
      rw [← hfk] at hR
      have hfg : (S.set i.toNat fk)[i.toNat]? = some fk := by simp [hlt]
      obtain ⟨d, hd, hB⟩ := hR.cB
      rw [List.length_set] at hd hB
      obtain ⟨rb, rc, hrc, hbl, hcR, hcx, hfz⟩ := hR.cR hfg
      have hok := (hR.ok fk (List.mem_of_getElem? hfg)).1
      have hcx' := hcx (o + k) fk.bytes[o + k] (by rw [List.getElem?_eq_getElem])
      generalize fk.bytes[o + k] = y at hcx'
      have hfz' := hfz (o + k)
      have hset := hR.setB hfg hbl (o + k) (by omega) x (HRG.out x (List.mem_of_getElem? hx))
      have hst : ({ fk with bytes := fk.bytes.set (o + k) x } : Fr) = { f with bytes := splice f.bytes o (bs.take (k + 1)) } := by
        rw [hfk]; simp only; rw [splice_step (by rw [hfo.1, HL.out]; omega) hx]
      rw [List.set_set, hst] at hset
      have HSET := Lib.hid hset; clear hset hst hfk hx hx0
      have b1 : (0 : Int) ≤ (o : Int) + k := by omega
      have b2 : (o : Int) + k < 256 := by omega
      have b3 : ((o : Int) + k).toNat = o + k := by omega
      have b4 : (k : Int) < n := by omega
      have b5 : (0 : Int) ≤ k := by omega
      go_wp2
      go_region
      go_wp2
      go_roundw
      case rel => exact ⟨k + 1, by omega, by go_num, (hm.trans HSET.out.2).drew, HSET.out.1.keptNo ((Mod.refl No _).drew)⟩
      case measure => simp [intOf]; omega
    · obtain rfl : k = n := by omega
      rw [List.take_of_length_le (by rw [HL.out]; exact Nat.le_refl _)] at hR
      go_wp2
      go_ret
      exact ⟨rfl, hm, hR⟩

end Go.Proofs.YtmdeljacbekbpaaDoor

/- tenementref01: Owned, Left, Alloc. -/
namespace Go.Proofs.YtmdeljacbekbpaaDoor
open Go.RowKit
set_option maxRecDepth 100000

set_option maxHeartbeats 800000 in
theorem rowned_in {K : RfK} {S : List Fr} (o : Int) (w : World) (h : RfM w K S) :
    Calls Tryd.prog 58 #[.pointer (some ⟨K.R, 0, none⟩), .int .i64 o] w fun e W' => ∃ v, e = .returned v ∧
      W'.ownsRow w.heap.size 3 1 v (idxs S o S.length).length ((idxs S o S.length).map (Value.int .i64)) ∧ Below w.heap.size w W' := by
  obtain ⟨i0, hi, hz0, hz1, hz2⟩ := info_parts Tryd.infoInt
  have hlen := h.len
  go_enter Tryd.func58, Tryd.ntmps58
  go_wp2_with fail
  go_loopw [5, 6] (fun vl v wr => ∃ k : Nat, k ≤ S.length ∧ v = .int .i64 k ∧ wr.ownsRow w.heap.size 3 1 vl (idxs S o k).length ((idxs S o k).map (Value.int .i64)) ∧ Below w.heap.size w wr) (fun _ v _ => S.length - (intOf v).toNat)
  case atStart => exact ⟨0, Nat.zero_le _, rfl, World.ownsRow_nil _ _ _ _, Below.refl _ _⟩
  case round =>
    obtain ⟨k, hk, rfl, hown, hB⟩ := hrel
    have hR := h.kept (Mod.of_below (P := No) hB) (fun _ _ q => q)
    obtain ⟨c, hc, hF⟩ := hR.cF
    obtain ⟨q, cp, rfl⟩ := owns_slice hown
    by_cases hlt : k < S.length
    · obtain ⟨f, hf⟩ : ∃ f, S[k]? = some f := ⟨S[k], by simp [hlt]⟩
      have hcl := hR.cH hf 0 (by omega)
      simp only [Nat.add_zero, Fr.head, List.getElem?_cons_zero] at hcl
      by_cases hq : f.owner = o
      · have hht : ownsAt S o k = true := by simp [ownsAt, hf, hq]
        have HM := Lib.hid hht; clear hht
        have d1 : (f.owner == o) = true := beq_iff_eq.2 hq
        clear hq
        have hpl := idxs_len S o k
        have hsz := hB.size
        go_wp2_with (at_builtin; refine wpList_append_own _ rfl _ _ 134 rfl w.heap.size 3 i0 (.int .i64 0) 1 8 Tryd.underlying134 hi hz0 hz1 hz2 rfl (by decide) _ _ _ rfl (hown.alloc _) ⟨wr.heap.size, 0, none⟩ 1 1 [.int .i64 (k : Int)] rfl rfl (cell_one_new _ _ _) (by simp [Value.oneCell']) (by unfold maxLen; omega) (by omega) (by simp; omega) ?_; intro v' w7 hown' hgrow _)
        go_roundw
        case rel =>
          refine ⟨k + 1, by omega, by go_num, ?_, (hB.alloc (by omega) _).grown hgrow (by simp; omega) (fun j ej => by have := (hown.lt j ej).1; omega)⟩
          rw [idxs_hit HM.out]
          simpa using hown'
        case measure => simp [intOf]; omega
      · have hms : ownsAt S o k = false := by simp [ownsAt, hf, hq]
        have HM := Lib.hid hms; clear hms
        have d1 : (f.owner == o) = false := beq_eq_false_iff_ne.2 hq
        clear hq
        go_wp2
        go_roundw
        case rel => exact ⟨k + 1, by omega, by go_num, by rw [idxs_miss HM.out]; exact hown, hB⟩
        case measure => simp [intOf]; omega
    · obtain rfl : k = S.length := by omega
      go_wp2
      go_ret
      exact ⟨_, rfl, hown, hB⟩

theorem ralloc_arg {K : RfK} (o : Int) (w : World) (ho : (o < 0 ∨ 8 ≤ o) ∧ o ≠ -2) :
    Calls Tryd.prog 34 #[.pointer (some ⟨K.R, 0, none⟩), .int .i64 o] w fun e w' => e = .returned (.tuple #[.int .i64 0, .int .i64 1]) ∧ w = w' := by
  have d1 : (o != -2) = true := bne_iff_ne.2 ho.2
  have hd := ho.1
  clear ho
  go_enter Tryd.func34, Tryd.ntmps34
  go_wp2_with (go_at_call 57; refine (rdomain_no o _ hd).mono ?_; rintro e w' ⟨rfl, rfl⟩)
  go_ret2
  exact ⟨rfl, rfl⟩

set_option maxHeartbeats 800000 in
theorem ralloc_full {K : RfK} {S : List Fr} (o : Int) (w : World) (h : RfM w K S) (ho : (0 ≤ o ∧ o < 8) ∨ o = -2) (hk : idxs S (-1) S.length = []) :
    Calls Tryd.prog 34 #[.pointer (some ⟨K.R, 0, none⟩), .int .i64 o] w fun e w' => e = .returned (.tuple #[.int .i64 0, .int .i64 10]) ∧ Mod No w w' := by
  have hO : Hid (∀ w, RfM w K S → Calls Tryd.prog 58 #[.pointer (some ⟨K.R, 0, none⟩), .int .i64 (-1)] w fun e W' => ∃ q cap, e = .returned (.slice q 0 cap) ∧ Mod No w W') := by
    intro w h
    refine (rowned_in (-1) w h).mono ?_
    rintro e w' ⟨v, rfl, hv, hb⟩
    obtain ⟨g, cap, rfl⟩ := owns_slice hv
    rw [hk]
    exact ⟨_, _, rfl, Mod.of_below hb⟩
  clear hk
  have hdo : Hid (∀ w, (0 ≤ o ∧ o < 8) → Calls Tryd.prog 57 #[.int .i64 o] w fun e w' => e = .returned (.bool true) ∧ w = w') := fun w q => rdomain_yes o w q.1 q.2
  rcases ho with ho | rfl
  · go_enter Tryd.func34, Tryd.ntmps34
    go_wp2_with (first
      | (go_at_call 57; refine (hdo.out _ ho).mono ?_; rintro e w' ⟨rfl, rfl⟩)
      | (go_at_call 58; refine (hO.out _ h).mono ?_; rintro e w' ⟨q, cap, rfl, hm⟩))
    go_ret2
    exact ⟨rfl, hm⟩
  · go_enter Tryd.func34, Tryd.ntmps34
    go_wp2_with (first
      | (go_at_call 57; refine (rdomain_no (-2) _ (.inl (by omega))).mono ?_; rintro e w' ⟨rfl, rfl⟩)
      | (go_at_call 58; refine (hO.out _ h).mono ?_; rintro e w' ⟨q, cap, rfl, hm⟩))
    go_ret2
    exact ⟨rfl, hm⟩

theorem row_item {W : World} {b : Nat} {e : TypeId} {v : Value} {k : Nat} {xs : List Int} (h : W.ownsRow b e 1 v k (xs.map (Value.int .i64))) (j : Nat) (x : Int) (hj : xs[j]? = some x) :
    ∃ g cap, v = .slice (some ⟨g, 0, none⟩) k cap ∧ j < k ∧ k ≤ cap ∧ b ≤ g ∧ W.cell? ⟨g, j, none⟩ = some (.int .i64 x) := by
  have hl := h.1
  simp at hl
  have hjl := (List.getElem?_eq_some_iff.1 hj).1
  rcases h.2 with ⟨rfl, h2⟩ | ⟨g, cap, cur, rfl, hg, hr, hc, hm, hs, ht⟩
  · omega
  · refine ⟨g, cap, rfl, by omega, hc, hg, ?_⟩
    have := h.cells (g := g) rfl j (.int .i64 x) (by simp [hj])
    rwa [Addr.add_lit, Nat.zero_add] at this

set_option maxHeartbeats 800000 in
theorem ralloc_some {K : RfK} {S : List Fr} (o : Int) (w : World) (h : RfM w K S) (ho : (0 ≤ o ∧ o < 8) ∨ o = -2) {k : Nat} {f : Fr} {r : List Int} (hk : idxs S (-1) S.length = (k : Int) :: r) (hf : S[k]? = some f) :
    Calls Tryd.prog 34 #[.pointer (some ⟨K.R, 0, none⟩), .int .i64 o] w fun e w' =>
      e = .returned (.tuple #[.int .i64 k, .int .i64 0]) ∧ Mod K.inn w w' ∧ RfM w' K (S.set k { f with owner := o }) := by
  have hlt : k < S.length := (List.getElem?_eq_some_iff.1 hf).1
  have hO : Hid (∀ w, RfM w K S → Calls Tryd.prog 58 #[.pointer (some ⟨K.R, 0, none⟩), .int .i64 (-1)] w fun e W' => ∃ g n cap, e = .returned (.slice (some ⟨g, 0, none⟩) n cap) ∧ Mod No w W' ∧ 0 < n ∧ n ≤ cap ∧ w.heap.size ≤ g ∧ W'.cell? ⟨g, 0, none⟩ = some (.int .i64 k)) := by
    intro w h
    refine (rowned_in (-1) w h).mono ?_
    rintro e w' ⟨v, rfl, hv, hb⟩
    obtain ⟨g, cap, rfl, hj, hc, hg, hcl⟩ := row_item hv 0 k (by rw [hk]; rfl)
    exact ⟨_, _, _, rfl, Mod.of_below hb, hj, hc, hg, hcl⟩
  clear hk
  have main : ∀ w1 : World, RfM w1 K S → Hid (RfM (w1.setCell ⟨K.G, k * 4, none⟩ (.int .i64 o)) K (S.set k { f with owner := o }) ∧ Mod K.inn w1 (w1.setCell ⟨K.G, k * 4, none⟩ (.int .i64 o))) :=
    fun w1 h1 => h1.setH (f' := { f with owner := o }) hf rfl 0 (by omega) (v := .int .i64 o) rfl
  have hdo : Hid (∀ w, Calls Tryd.prog 57 #[.int .i64 o] w fun e w' => (∃ b, e = .returned (.bool b) ∧ (b = true ∨ (o != -2) = false)) ∧ w = w') := by
    intro w
    rcases ho with ho | rfl
    · exact (rdomain_yes o w ho.1 ho.2).mono (by rintro e w' ⟨rfl, rfl⟩; exact ⟨⟨_, rfl, .inl rfl⟩, rfl⟩)
    · exact (rdomain_no (-2) w (.inl (by omega))).mono (by rintro e w' ⟨rfl, rfl⟩; exact ⟨⟨_, rfl, .inr rfl⟩, rfl⟩)
  clear ho
  go_enter Tryd.func34, Tryd.ntmps34
  go_wp2_with fail
  refine (hdo.out _).mono ?_
  rintro e w1 ⟨⟨b, rfl, hb⟩, rfl⟩
  cases b
  all_goals try simp only [Bool.false_eq_true, false_or, true_or] at hb
  all_goals
    go_wp2_with (go_at_call 58; refine (hO.out _ h).mono ?_; rintro e w1 ⟨g, n, cap, rfl, hm1, hn, hnc, hg, hc0⟩; have h1 := h.keptNo hm1; obtain ⟨c, hc, hF⟩ := h1.cF; have hfz := h1.fH (k * 4); have hcl := h1.cH hf 0 (by omega); simp only [Nat.add_zero, Fr.head, List.getElem?_cons_zero] at hcl)
    have hlG := h.lt K.G (.inr (.inl rfl))
    have hn1 : g ≠ K.G := by omega
    have hn2 : K.G ≠ g := by omega
    have hk0 : (0 : Int) ≤ k := by omega
    have hkl : (k : Int) < S.length := by omega
    have hn0 : (0 : Int) < n := by omega
    go_region
    go_wp2
    go_ret2
    obtain ⟨hR2, hM2⟩ := (main w1 h1).out
    exact ⟨rfl, ((Mod.of_no hm1).trans hM2).drew, hR2.keptNo ((Mod.refl No _).drew)⟩

end Go.Proofs.YtmdeljacbekbpaaDoor

/- tenementref01: Read. -/
namespace Go.Proofs.YtmdeljacbekbpaaDoor
open Go.RowKit
set_option maxRecDepth 100000

theorem own_empty {w : World} {n₀ : Nat} {g : Nat} (h : w.heap[g]? = some (.cells #[] 5 (0, 0))) (hg : n₀ ≤ g) : w.ownsRow n₀ 5 1 (.slice (some ⟨g, 0, none⟩) 0 0) 0 [] :=
  ⟨rfl, .inr ⟨g, 0, #[], rfl, hg, h, Nat.le_refl _, Nat.zero_le _, rfl, rfl⟩⟩

/-- The conversion of an own row of bytes to a text. -/
theorem conv_own {w : World} {n₀ n : Nat} {v : Value} {xs : List Int} (h : w.ownsRow n₀ 5 1 v n (xs.map (Value.int .u8))) :
    (convert 22 9 v).run Tryd.prog w = .ok (.string (strOfNums xs)) w := by
  have hl := h.1
  simp at hl
  rcases h.2 with ⟨rfl, h2⟩ | ⟨g, cap, cur, rfl, hg, hr, hc, hm, hs, ht⟩
  · subst h2
    obtain rfl : xs = [] := List.eq_nil_of_length_eq_zero hl
    rfl
  · refine run_convert_bytes_arg w 22 5 Tryd.underlying22 Tryd.underlying5 g 0 n cap xs hl (fun i hi => ?_) 9 Tryd.underlying9
    have := h.cells (g := g) rfl i (.int .u8 xs[i]) (by simp [List.getElem?_eq_getElem (show i < xs.length by omega)])
    rw [Addr.add_lit] at this
    rw [this, List.getD_eq_getElem?_getD, List.getElem?_eq_getElem (by omega)]
    rfl

theorem infoU8P : ∃ i0, Tryd.prog.info? 5 = some i0 ∧ i0.zero = some (.int .u8 0) ∧ i0.size = 1 ∧ i0.bytes = 1 := by
  obtain ⟨i, h, a, b, c⟩ := info_parts Tryd.infoU8
  exact ⟨i, h, a, b, c⟩

set_option maxHeartbeats 1600000 in
theorem rread_in {K : RfK} {S : List Fr} (i off n : Int) (f : Fr) (w : World) (h : RfM w K S) (hp : InP S i off n) (hf : S[i.toNat]? = some f) :
    Calls Tryd.prog 70 #[.pointer (some ⟨K.R, 0, none⟩), .int .i64 i, .int .i64 off, .int .i64 n] w fun e w' => ∃ q cap,
      e = .returned (.tuple #[.slice q n.toNat cap, .int .i64 0]) ∧ Mod No w w' ∧ w'.ownsRow w.heap.size 5 1 (.slice q n.toNat cap) n.toNat (((f.bytes.drop off.toNat).take n.toNat).map (Value.int .u8)) := by
  obtain ⟨i0, hi, hz0, hz1, hz2⟩ := infoU8P
  have hp' := hp
  obtain ⟨⟨hi0, hi1⟩, ho, hn, hs⟩ := hp
  obtain ⟨o, rfl⟩ := Int.eq_ofNat_of_zero_le ho
  obtain ⟨m, rfl⟩ := Int.eq_ofNat_of_zero_le hn
  obtain ⟨d, hd, hB⟩ := h.cB
  obtain ⟨rb, rc, hrc, hbl, hcR, hcx, hfz⟩ := h.cR hf
  have hlR := h.lt K.R (.inl rfl)
  have hlH := h.lt K.H (.inr (.inr (.inl rfl)))
  have hlb := h.lt rb (RfK.row_mem hbl)
  have hfo := h.ok f (List.mem_of_getElem? hf)
  have hil : i.toNat < S.length := by omega
  obtain ⟨bs, hbs⟩ : ∃ bs, bs = (f.bytes.drop o).take m := ⟨_, rfl⟩
  have hlen : bs.length = m := by rw [hbs]; simp [hfo.1]; omega
  have hcell : ∀ w1 : World, Mod No w w1 → ∀ ad : Addr, (0 < m → ad = ⟨rb, o, none⟩) → ∀ j u, (bs.map (Value.int .u8))[j]? = some u → w1.cell? (ad.add j) = some u := by
    intro w1 hm ad had j u hj
    have hjl := (List.getElem?_eq_some_iff.1 hj).1
    rw [List.length_map, hlen] at hjl
    rw [had (by omega), Addr.add_lit]
    rw [List.getElem?_map] at hj
    obtain ⟨x, hx, rfl⟩ := Option.map_eq_some_iff.1 hj
    have hx2 : f.bytes[o + j]? = some x := by rw [hbs, List.getElem?_take_of_lt hjl, List.getElem?_drop] at hx; exact hx
    exact (World.cell?_of_block (w := w) (hm.block rb hlb (fun q => q))).trans (hcx _ _ hx2)
  have HB := Lib.hid hbs; clear hbs
  have HC := Lib.hid hcell; clear hcell hcx
  have HL := Lib.hid hlen; clear hlen
  obtain ⟨ad, hsl, had⟩ : ∃ ad, (if rc = o then (some ⟨rb, 0, none⟩ : Option Addr) else some ⟨rb, o, none⟩) = some ad ∧ (0 < m → ad = ⟨rb, o, none⟩) := by
    by_cases q : rc = o
    · exact ⟨_, if_pos q, fun _ => by omega⟩
    · exact ⟨_, if_neg q, fun _ => rfl⟩
  have HAD := Lib.hid had; clear had
  have b1 : (0 : Int) ≤ (o : Int) + m := by omega
  have b2 : ((o : Int) + m).toNat = o + m := by omega
  have b3 : o + m - o = m := by omega
  have b4 : (o : Int) + m ≤ rc := by omega
  have b5 : (o : Int) ≤ (o : Int) + m := by omega
  have b6 : IntKind.i64.wrap ((o : Int) + m) = (o : Int) + m := IntWalk.i64_in _ (by omega)
  go_enter Tryd.func70, Tryd.ntmps70
  go_wp2_with (first
    | (go_at_call 66; refine (rin_in i o m _ h hp').mono ?_; rintro e w' ⟨rfl, rfl⟩)
    | (at_builtin; refine wpList_append_own _ rfl _ _ 22 rfl w.heap.size 5 i0 (.int .u8 0) 1 1 Tryd.underlying22 hi hz0 hz1 hz2 rfl (by decide) _ _ _ rfl (own_empty (heap_alloc_new w (.cells #[] 5)) (Nat.le_refl _)) ad m (rc - o) (bs.map (Value.int .u8)) rfl (by rw [List.length_map, HL.out]; omega) (HC.out _ ((Mod.refl No w).alloc _) ad HAD.out) (oneCell_u8 _) (by unfold maxLen; omega) (by omega) (by simp) ?_; intro v' w7 hown' hgrow _; obtain ⟨g', cap', rfl⟩ := owns_slice hown'))
  go_ret2
  refine ⟨g', cap', by simp, ((Mod.refl No w).alloc _).grown hgrow (fun j ej hj => ?_), ?_⟩
  · cases ej
    exact absurd hj (Nat.lt_irrefl _)
  · have h2 := hown'
    rw [Nat.zero_add, List.nil_append] at h2
    simp only [Int.toNat_natCast]
    rw [← HB.out]
    exact h2

end Go.Proofs.YtmdeljacbekbpaaDoor

/- tenementref01: New. -/
namespace Go.Proofs.YtmdeljacbekbpaaDoor
open Go.RowKit
set_option maxRecDepth 100000

/-- append onto an own row, as a step of a region that draws its order. -/
theorem step_append_own {P : Program} {ops : Array Oper} {o : Oper} {a : Act} {w : World} {K : Act → World → Prop} {Q : Exit → Act → World → Prop} {E : Prop}
    (hg : o.guard = none) (s x : Operand) (t : TypeId) (hop : o.op = Op.call { callee := Callee.builtin Builtin.append, args := #[s, x], argTypes := #[t, t] })
    (base : Nat) (e : TypeId) (i : TypeInfo) (z : Value) (size bytes : Nat) (h1 : P.underlying t = some (.slice e)) (h2 : P.info? e = some i) (h3 : i.zero = some z) (h4 : i.size = size) (h5 : i.bytes = bytes) (h6 : z.cells.size = size) (h7 : 0 < size)
    (v : Value) (n : Nat) (xs : List Value) (hs : a.eval s = v) (hown : w.ownsRow base e size v n xs)
    (ad : Addr) (m c : Nat) (news : List Value) (hx : a.eval x = .slice (some ad) m c) (hn : news.length = m * size) (hc : ∀ j u, news[j]? = some u → w.cell? (ad.add j) = some u) (h1c : ∀ u ∈ news, u.oneCell' = true)
    (b1 : n + m ≤ maxLen) (b2 : (n + m) * bytes ≤ 140737488355328) (hbase : base ≤ w.heap.size)
    (hK : ∀ v' w', w'.ownsRow base e size v' (n + m) (xs ++ news) → w.grownBy w' v.ownBlock → K (a.put o.dst v') w') :
    if Region.wanted o (yielded ops a.tmps) = true then Oper.wp P o a w K Q else E := by
  have hw : Region.wanted o (yielded ops a.tmps) = true := by simp [Region.wanted, hg]
  rw [if_pos hw]
  obtain ⟨v', w', hrun, r1, r2, _⟩ := run_append_own (P := P) w base t o.type e i z size bytes h1 h2 h3 h4 h5 h6 h7 v n xs hown ad m c news hn hc h1c b1 b2 hbase
  unfold Oper.wp
  simp [execOp, hop, resolve, invoke, builtin, hs, hx, hrun, Result.andThen]
  exact hK v' w' r1 r2

theorem rnew_out (n : Int) (w : World) (h : n < 1 ∨ 256 < n) :
    Calls Tryd.prog 32 #[.int .i64 n] w fun e w' => e = .returned (.tuple #[.pointer none, .int .i64 1]) ∧ w = w' := by
  by_cases c : n < 1
  · have d1 : decide (n < 1) = true := decide_eq_true c
    go_enter Tryd.func32, Tryd.ntmps32
    go_wp2
    go_ret2
    exact ⟨rfl, rfl⟩
  · have d1 : decide (n < 1) = false := decide_eq_false c
    have d2 : decide (256 < n) = true := decide_eq_true (by omega)
    go_enter Tryd.func32, Tryd.ntmps32
    go_wp2
    go_ret2
    exact ⟨rfl, rfl⟩

theorem own_ne {w : World} {b1 b2 : Nat} {e1 e2 : TypeId} {s1 s2 k1 k2 : Nat} {v1 v2 : Value} {x1 x2 : List Value} (h1 : w.ownsRow b1 e1 s1 v1 k1 x1) (h2 : w.ownsRow b2 e2 s2 v2 k2 x2) (hne : e1 ≠ e2) : v1.ownBlock = none ∨ v1.ownBlock ≠ v2.ownBlock := by
  rcases h1.2 with ⟨rfl, _⟩ | ⟨g, cap, cur, rfl, _, hr, _⟩
  · exact .inl rfl
  · right
    rcases h2.2 with ⟨rfl, _⟩ | ⟨g2, cap2, cur2, rfl, _, hr2, _⟩
    · simp [Value.ownBlock]
    · intro e
      have e : some g = some g2 := e
      obtain rfl := Option.some.inj e
      rw [hr] at hr2
      simp at hr2
      exact hne hr2.2

theorem blk_ne {w : World} {b1 : Nat} {e1 e2 : TypeId} {s1 k1 : Nat} {v1 : Value} {x1 : List Value} (h1 : w.ownsRow b1 e1 s1 v1 k1 x1) {g : Nat} {cs : Array Value} {fz : Nat × Nat} (hg : w.heap[g]? = some (.cells cs e2 fz)) (hne : e1 ≠ e2) : some g ≠ v1.ownBlock := by
  rcases h1.2 with ⟨rfl, _⟩ | ⟨g1, cap, cur, rfl, _, hr, _⟩
  · simp [Value.ownBlock]
  · intro e
    have e : some g = some g1 := e
    obtain rfl := Option.some.inj e
    rw [hr] at hg
    simp at hg
    exact hne hg.2.1

/-- What holds in the making: so many frames, so many rows. -/
structure RNew (w0 : World) (kF kB : Nat) (w : World) (vF vB : Value) (bl : List (Nat × Nat)) : Prop where
  mod : Mod No w0 w
  hd : w.heap[w0.heap.size]? = some (.cells #[vF, vB] 75 (0, 0))
  oF : w.ownsRow (w0.heap.size + 1) 111 4 vF kF (headCells (List.replicate kF freeFr))
  oB : w.ownsRow (w0.heap.size + 1) 22 1 vB kB (rowCells bl)
  len : bl.length = kB
  rows : ∀ (i : Nat) (p : Nat × Nat), bl[i]? = some p → 256 ≤ p.2 ∧ w0.heap.size + 1 ≤ p.1 ∧ w.heap[p.1]? = some (.cells zeroRow 5 (0, 0))
  nd : (bl.map Prod.fst).Nodup

theorem headCells_rep (k : Nat) : headCells (List.replicate (k + 1) freeFr) = headCells (List.replicate k freeFr) ++ freeFr.head := by
  rw [List.replicate_succ']; simp [headCells]

theorem RNew.stepF {w0 w w7 : World} {kF kB : Nat} {vF vB v' : Value} {bl : List (Nat × Nat)} (h : RNew w0 kF kB w vF vB bl) {o : Obj} (hg : (w.alloc o).grownBy w7 vF.ownBlock)
    (hown : w7.ownsRow (w0.heap.size + 1) 111 4 v' (kF + 1) (headCells (List.replicate kF freeFr) ++ freeFr.head)) :
    w7.heap[w0.heap.size]? = some (.cells #[vF, vB] 75 (0, 0)) ∧ RNew w0 (kF + 1) kB (w7.setCell ⟨w0.heap.size, 0, none⟩ v') v' vB bl := by
  have hm7 : Mod (fun b => some b = vF.ownBlock) w w7 := ((Mod.refl _ w).alloc o).grown hg (fun j ej _ => ej.symm)
  have hhd7 := hm7.blk h.hd (blk_ne h.oF h.hd (by decide))
  refine ⟨hhd7, ⟨?_, ?_, ?_, ?_, h.len, ?_, h.nd⟩⟩
  · refine Mod.setCell (p := ⟨w0.heap.size, 0, none⟩) (h.mod.step hm7 (fun i hi q => ?_)) (fun q => absurd q (Nat.lt_irrefl _)) _
    have := (h.oF.lt i q.symm).1
    exact absurd hi (by omega)
  · simpa using row_set (l := [vF, vB]) hhd7 0 v'
  · rw [headCells_rep]
    exact ownsRow_setCell_below hown (a := ⟨w0.heap.size, 0, none⟩) (by show w0.heap.size < _; omega) v'
  · have : w7.ownsRow (w0.heap.size + 1) 22 1 vB kB (rowCells bl) := (h.oB.alloc o).kept hg (own_ne h.oB h.oF (by decide))
    exact ownsRow_setCell_below this (a := ⟨w0.heap.size, 0, none⟩) (by show w0.heap.size < _; omega) v'
  · intro i p hp
    obtain ⟨a, b, c⟩ := h.rows i p hp
    refine ⟨a, b, ?_⟩
    rw [heap_setCell_other _ _ _ _ (show p.1 ≠ w0.heap.size by omega)]
    exact hm7.blk c (blk_ne h.oF c (by decide))

theorem RNew.stepB {w0 w w9 : World} {kF kB : Nat} {vF vB v' : Value} {bl : List (Nat × Nat)} (h : RNew w0 kF kB w vF vB bl) {o : Obj} {c : Nat} (hc : 256 ≤ c) (hg : ((w.alloc (.cells zeroRow 5)).alloc o).drew.grownBy w9 vB.ownBlock)
    (hown : w9.ownsRow (w0.heap.size + 1) 22 1 v' (kB + 1) (rowCells bl ++ [.slice (some ⟨w.heap.size, 0, none⟩) 256 c])) :
    w9.heap[w0.heap.size]? = some (.cells #[vF, vB] 75 (0, 0)) ∧ RNew w0 kF (kB + 1) (w9.setCell ⟨w0.heap.size, 1, none⟩ v') vF v' (bl ++ [(w.heap.size, c)]) := by
  have hm9 : Mod (fun b => some b = vB.ownBlock) w w9 := ((((Mod.refl _ w).alloc _).alloc o).drew).grown hg (fun j ej _ => ej.symm)
  have hhd9 := hm9.blk h.hd (blk_ne h.oB h.hd (by decide))
  have hsz := h.mod.size
  have hlt := lt_of_blk h.hd
  refine ⟨hhd9, ⟨?_, ?_, ?_, ?_, by simp [h.len], ?_, ?_⟩⟩
  · refine Mod.setCell (p := ⟨w0.heap.size, 1, none⟩) (h.mod.step hm9 (fun i hi q => ?_)) (fun q => absurd q (Nat.lt_irrefl _)) _
    have := (h.oB.lt i q.symm).1
    exact absurd hi (by omega)
  · simpa using row_set (l := [vF, vB]) hhd9 1 v'
  · have : w9.ownsRow (w0.heap.size + 1) 111 4 vF kF (headCells (List.replicate kF freeFr)) := (((h.oF.alloc _).alloc o).drew).kept hg (own_ne h.oF h.oB (by decide))
    exact ownsRow_setCell_below this (a := ⟨w0.heap.size, 1, none⟩) (by show w0.heap.size < _; omega) v'
  · have e : rowCells (bl ++ [(w.heap.size, c)]) = rowCells bl ++ [.slice (some ⟨w.heap.size, 0, none⟩) 256 c] := by simp [rowCells]
    rw [e]
    exact ownsRow_setCell_below hown (a := ⟨w0.heap.size, 1, none⟩) (by show w0.heap.size < _; omega) v'
  · intro i p hp
    by_cases hi : i < bl.length
    · rw [List.getElem?_append_left hi] at hp
      obtain ⟨a, b, c⟩ := h.rows i p hp
      refine ⟨a, b, ?_⟩
      rw [heap_setCell_other _ _ _ _ (show p.1 ≠ w0.heap.size by omega)]
      exact hm9.blk c (blk_ne h.oB c (by decide))
    · rw [List.getElem?_append_right (by omega)] at hp
      obtain rfl : p = (w.heap.size, c) := by
        cases hq : i - bl.length with
        | zero => rw [hq] at hp; simpa using hp.symm
        | succ m => rw [hq] at hp; simp at hp
      refine ⟨hc, hlt, ?_⟩
      rw [heap_setCell_other _ _ _ _ (show w.heap.size ≠ w0.heap.size by omega)]
      have hz : ((w.alloc (.cells zeroRow 5)).alloc o).heap[w.heap.size]? = some (.cells zeroRow 5 (0, 0)) := blk_alloc (heap_alloc_new _ _) o
      exact (hg.block w.heap.size (lt_of_blk hz) (fun q => by have := (h.oB.lt _ q.symm).2; omega)).trans hz
  · rw [List.map_append, List.nodup_append]
    refine ⟨h.nd, by simp, ?_⟩
    intro a ha b hb
    simp at hb
    subst hb
    obtain ⟨p, hp, rfl⟩ := List.mem_map.1 ha
    obtain ⟨i, hi⟩ := List.getElem?_of_mem hp
    have := lt_of_blk (h.rows i p hi).2.2
    omega

theorem RNew.done {w0 w : World} {n : Nat} {vF vB : Value} {bl : List (Nat × Nat)} (h : RNew w0 n n w vF vB bl) (h0 : 1 ≤ n) (h1 : n ≤ 256) :
    ∃ K : RfK, K.R = w0.heap.size ∧ (∀ k, K.has k → w0.heap.size ≤ k) ∧ RfM w K (List.replicate n freeFr) := by
  obtain ⟨gF, cF, rfl⟩ : ∃ g cap, vF = .slice (some ⟨g, 0, none⟩) n cap := by
    rcases h.oF.2 with ⟨_, q⟩ | ⟨g, cap, _, rfl, _⟩
    · omega
    · exact ⟨_, _, rfl⟩
  obtain ⟨gB, cB, rfl⟩ : ∃ g cap, vB = .slice (some ⟨g, 0, none⟩) n cap := by
    rcases h.oB.2 with ⟨_, q⟩ | ⟨g, cap, _, rfl, _⟩
    · omega
    · exact ⟨_, _, rfl⟩
  have lF := (h.oF.lt gF rfl).1
  have lB := (h.oB.lt gB rfl).1
  rcases h.oF.2 with ⟨q, _⟩ | ⟨g1, c1, cur1, q1, _, r1, l1, _, s1, t1⟩
  · cases q
  cases q1
  rcases h.oB.2 with ⟨q, _⟩ | ⟨g2, c2, cur2, q2, _, r2, l2, _, s2, t2⟩
  · cases q
  cases q2
  refine ⟨⟨w0.heap.size, gF, gB, bl⟩, rfl, ?_, okS_replicate _ freeFr_ok, by simp; omega, by simp [h.len], ⟨cF, cB, by simpa using l1, by simpa using l2, by simpa using h.hd⟩, ⟨cur1.toList.drop (n * 4), ?_⟩, ⟨cur2.toList.drop (n * 1), ?_⟩, ?_, h.nd⟩
  · rintro k (rfl | rfl | rfl | q)
    · exact Nat.le_refl _
    · omega
    · omega
    · obtain ⟨p, hp, rfl⟩ := List.mem_map.1 q
      obtain ⟨i, hi⟩ := List.getElem?_of_mem hp
      have := (h.rows i p hi).2.1
      omega
  · rw [r1, ← t1, List.take_append_drop]
  · rw [r2, ← t2, List.take_append_drop]
  · intro i f p hf hp
    obtain ⟨a, b, c⟩ := h.rows i p hp
    have hff : f = freeFr := by
      have := List.mem_of_getElem? hf
      exact (List.mem_replicate.1 this).2
    subst hff
    refine ⟨a, [], ?_⟩
    rw [c, List.append_nil, zeroRow_eq]
    rfl

theorem Tryd.infoApiFrame : (Tryd.prog.info? 111).map (fun i => (i.zero, i.size, i.bytes)) = some (some (.agg #[.int .i64 0, .int .i64 0, .int .i64 0, .int .i64 0]), 4, 32) := by kernel_rfl
theorem Tryd.infoBytes : (Tryd.prog.info? 22).map (fun i => (i.zero, i.size, i.bytes)) = some (some (.slice none 0 0), 1, 24) := by kernel_rfl

set_option maxHeartbeats 3200000 in
theorem rnew_in (n : Nat) (w : World) (h0 : 1 ≤ n) (h1 : n ≤ 256) :
    Calls Tryd.prog 32 #[.int .i64 (n : Int)] w fun e w' => ∃ K, e = .returned (.tuple #[.pointer (some ⟨K.R, 0, none⟩), .int .i64 0]) ∧ (∀ k, K.has k → w.heap.size ≤ k) ∧ Mod No w w' ∧ RfM w' K (List.replicate n freeFr) := by
  have d1 : decide ((n : Int) < 1) = false := decide_eq_false (by omega)
  have d2 : decide ((256 : Int) < n) = false := decide_eq_false (by omega)
  obtain ⟨i0, hi, hz0, hz1, hz2⟩ := info_parts Tryd.infoApiFrame
  obtain ⟨j0, hj, hy0, hy1, hy2⟩ := info_parts Tryd.infoBytes
  have hmk := make_page
  go_enter Tryd.func32, Tryd.ntmps32
  go_wp2
  go_loopw [5] (fun v wr => ∃ k : Nat, k ≤ n ∧ v = .int .i64 k ∧ ∃ vF vB bl, RNew w k k wr vF vB bl) (fun v _ => n - (intOf v).toNat)
  case atStart =>
    exact ⟨0, Nat.zero_le _, rfl, .slice none 0 0, .slice none 0 0, [], (Mod.refl No w).alloc _, heap_alloc_new _ _, World.ownsRow_nil _ _ _ _, World.ownsRow_nil _ _ _ _, rfl, by simp, by simp⟩
  case round =>
    obtain ⟨k, hk, rfl, vF, vB, bl, hR⟩ := hrel
    by_cases hlt : k < n
    · have hhd := hR.hd
      have hoF := hR.oF
      have hsz := hR.mod.size
      have hltw := lt_of_blk hhd
      obtain ⟨qF, cF, rfl⟩ := owns_slice hoF
      have hoB := hR.oB
      obtain ⟨qB, cB, rfl⟩ := owns_slice hoB
      have HR := Lib.hid hR; clear hR
      have hc0 := row_cell (l := [.slice qF k cF, .slice qB k cB]) hhd 0
      simp only [List.getElem?_cons_zero] at hc0
      go_wp2_with (at_builtin; refine wpList_append_own _ rfl _ _ 73 rfl (w.heap.size + 1) 111 i0 (.agg #[.int .i64 0, .int .i64 0, .int .i64 0, .int .i64 0]) 4 32 Tryd.underlying73 hi hz0 hz1 hz2 rfl (by decide) _ _ _ rfl (hoF.alloc _) ⟨wr.heap.size, 0, none⟩ 1 1 freeFr.head rfl rfl (fun j u hj => by rw [Addr.add_lit, Nat.zero_add]; exact (row_cell (heap_alloc_new wr (.cells freeFr.head.toArray 111)) j).trans hj) (by simp [Value.oneCell', Fr.head]) (by unfold maxLen; omega) (by omega) (by simp; omega) ?_; intro v' w7 hown' hgrow _; obtain ⟨g', cap', rfl⟩ := owns_slice hown'; obtain ⟨hhd7, hR8⟩ := HR.out.stepF hgrow hown'; have hd0 := row_cell (l := [.slice qF k cF, .slice qB k cB]) hhd7 0; simp only [List.getElem?_cons_zero] at hd0; have hg0 := row_free (l := [.slice qF k cF, .slice qB k cB]) hhd7 0)
      have hs8 := lt_of_blk hR8.hd
      generalize w7.setCell ⟨w.heap.size, 0, none⟩ (.slice g' (k + 1) cap') = w8 at hR8 hs8 ⊢
      have hhd8 := hR8.hd
      have hoB8 := hR8.oB
      have he1 := row_cell (l := [.slice g' (k + 1) cap', .slice qB k cB]) hhd8 1
      simp only [List.getElem?_cons_zero, List.getElem?_cons_succ] at he1
      have HR8 := Lib.hid hR8
      have HOB := Lib.hid hoB8
      clear hR8 hhd8 hoB8 HR hown' hgrow hhd7 hd0 hg0 hc0 hoB hoF hhd
      go_region_law (refine step_append_own rfl (.tmp 33) (.tmp 35) 27 rfl (w.heap.size + 1) 22 j0 (.slice none 0 0) 1 24 Tryd.underlying27 hj hy0 hy1 hy2 rfl (by decide) (.slice qB k cB) k (rowCells bl) (by simp [Act.eval]) ((HOB.out.alloc _).alloc _).drew ⟨w8.heap.size + 1, 0, none⟩ 1 1 [.slice (some ⟨w8.heap.size, 0, none⟩) 256 256] (by simp [Act.eval]) rfl (fun j u hj => by rw [Addr.add_lit, Nat.zero_add]; exact (row_cell (heap_alloc2_new w8 (.cells zeroRow 5) (.cells #[.slice (some ⟨w8.heap.size, 0, none⟩) 256 256] 22)) j).trans hj) (by simp [Value.oneCell']) (by unfold maxLen; omega) (by omega) (by simp; omega) ?_; intro v' w9 hown9 hgrow9; obtain ⟨g9, cap9, rfl⟩ := owns_slice hown9; obtain ⟨hhd9, hR9⟩ := RNew.stepB HR8.out (Nat.le_refl _) hgrow9 hown9; have hx1 := row_cell (l := [.slice g' (k + 1) cap', .slice qB k cB]) hhd9 1; simp only [List.getElem?_cons_zero, List.getElem?_cons_succ] at hx1; have hgx := row_free (l := [.slice g' (k + 1) cap', .slice qB k cB]) hhd9 1; have HR9 := Lib.hid hR9; clear hR9)
      all_goals go_wp2
      all_goals go_roundw
      all_goals first
        | exact ⟨k + 1, by omega, by go_num, _, _, _, HR9.out⟩
        | (simp [intOf]; omega)
    · obtain rfl : k = n := by omega
      go_wp2
      go_ret2
      obtain ⟨K, hKR, hK, hM⟩ := hR.done h0 h1
      exact ⟨K, by rw [hKR]; rfl, hK, hR.mod, hM⟩

end Go.Proofs.YtmdeljacbekbpaaDoor
