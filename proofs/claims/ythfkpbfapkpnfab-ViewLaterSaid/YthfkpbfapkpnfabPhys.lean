/- The machine's frames in memory: what is known of a machine that phys.New made. -/
import Derived.Test.YthfkpbfapkpnfabProg
import Derived.Test.YthfkpbfapkpnfabBase
namespace Go.Proofs.Ythfkpbfapkpnfab
open Go.RowKit

/-- A frame: whose, of which type, counts, bytes. -/
structure Fr where
  owner : Int
  type : Int
  count : Int
  total : Int
  bytes : List Int

def Fr.cells (f : Fr) : List Value := .int .i64 f.owner :: .int .i64 f.type :: .int .i64 f.count :: .int .i64 f.total :: f.bytes.map (Value.int .u8)
def Fr.ok (f : Fr) : Prop := f.bytes.length = 256 ∧ ∀ b ∈ f.bytes, 0 ≤ b ∧ b ≤ 255
def allCells (S : List Fr) : List Value := S.flatMap Fr.cells
def okS (S : List Fr) : Prop := ∀ f ∈ S, f.ok

theorem Fr.len {f : Fr} (h : f.ok) : f.cells.length = 260 := by simp [Fr.cells, h.1]

theorem allCells_len : ∀ {S : List Fr}, okS S → (allCells S).length = S.length * 260
  | [], _ => rfl
  | f :: S, h => by
    have ih := allCells_len (S := S) (fun g hg => h g (by simp [hg]))
    have hf := Fr.len (h f (by simp))
    simp only [allCells, List.flatMap_cons, List.length_append, List.length_cons] at ih ⊢
    rw [hf, ih]; omega

theorem allCells_get : ∀ {S : List Fr}, okS S → ∀ (i j : Nat) (f : Fr), S[i]? = some f → j < 260 → (allCells S)[i * 260 + j]? = f.cells[j]?
  | [], _, i, j, f, hi, _ => by simp at hi
  | g :: S, h, 0, j, f, hi, hj => by
    simp at hi; subst hi
    simp only [allCells, List.flatMap_cons, Nat.zero_mul, Nat.zero_add]
    rw [List.getElem?_append_left (by rw [Fr.len (h g (by simp))]; exact hj)]
  | g :: S, h, i + 1, j, f, hi, hj => by
    have hg := Fr.len (h g (by simp))
    have ih := allCells_get (S := S) (fun g hg => h g (by simp [hg])) i j f (by simpa using hi) hj
    simp only [allCells, List.flatMap_cons] at ih ⊢
    rw [List.getElem?_append_right (by rw [hg]; omega), hg, show (i + 1) * 260 + j - 260 = i * 260 + j by omega]
    exact ih

theorem allCells_set : ∀ {S : List Fr}, okS S → ∀ (i j : Nat) (f f' : Fr) (v : Value), S[i]? = some f → j < 260 → f.cells.set j v = f'.cells → (allCells S).set (i * 260 + j) v = allCells (S.set i f')
  | [], _, i, j, f, f', v, hi, _, _ => by simp at hi
  | g :: S, h, 0, j, f, f', v, hi, hj, hv => by
    simp at hi; subst hi
    simp only [allCells, List.flatMap_cons, Nat.zero_mul, Nat.zero_add, List.set_cons_zero]
    rw [List.set_append_left _ _ (by rw [Fr.len (h g (by simp))]; exact hj), hv]
  | g :: S, h, i + 1, j, f, f', v, hi, hj, hv => by
    have hg := Fr.len (h g (by simp))
    have ih := allCells_set (S := S) (fun g hg => h g (by simp [hg])) i j f f' v (by simpa using hi) hj hv
    simp only [allCells, List.flatMap_cons, List.set_cons_succ] at ih ⊢
    rw [List.set_append_right _ _ (by rw [hg]; omega), hg, show (i + 1) * 260 + j - 260 = i * 260 + j by omega, ih]

/-- A row that is laid over a frame's bytes. -/
theorem splice_append_left {α : Type} (A B cs : List α) (off : Nat) (h : off + cs.length ≤ A.length) : splice (A ++ B) off cs = splice A off cs ++ B := by
  unfold splice
  rw [List.take_append_of_le_length (by omega), List.drop_append_of_le_length h]
  simp
theorem splice_append_right {α : Type} (A B cs : List α) (off : Nat) : splice (A ++ B) (A.length + off) cs = A ++ splice B off cs := by
  unfold splice
  rw [List.take_length_add_append, Nat.add_assoc, List.drop_length_add_append]
  simp

theorem allCells_splice : ∀ {S : List Fr}, okS S → ∀ (i off : Nat) (f : Fr) (bs : List Int), S[i]? = some f → off + bs.length ≤ 256 →
    splice (allCells S) (i * 260 + 4 + off) (bs.map (Value.int .u8)) = allCells (S.set i { f with bytes := splice f.bytes off bs })
  | [], _, i, off, f, bs, hi, _ => by simp at hi
  | g :: S, h, 0, off, f, bs, hi, hj => by
    simp at hi; subst hi
    have hg := Fr.len (h g (by simp))
    simp only [allCells, List.flatMap_cons, Nat.zero_mul, Nat.zero_add, List.set_cons_zero]
    rw [splice_append_left _ _ _ _ (by rw [hg]; simp; omega)]
    congr 1
    have := splice_append_right [Value.int .i64 g.owner, .int .i64 g.type, .int .i64 g.count, .int .i64 g.total] (g.bytes.map (Value.int .u8)) (bs.map (Value.int .u8)) off
    simp only [List.length_cons, List.length_nil, Nat.zero_add, Nat.reduceAdd, List.cons_append, List.nil_append] at this
    simp only [Fr.cells]
    rw [this]
    simp [splice, List.map_take, List.map_drop]
  | g :: S, h, i + 1, off, f, bs, hi, hj => by
    have hg := Fr.len (h g (by simp))
    have ih := allCells_splice (S := S) (fun g hg => h g (by simp [hg])) i off f bs (by simpa using hi) hj
    simp only [allCells, List.flatMap_cons, List.set_cons_succ] at ih ⊢
    have e : (i + 1) * 260 + 4 + off = g.cells.length + (i * 260 + 4 + off) := by rw [hg]; omega
    rw [e, splice_append_right, ih]

theorem okS_set {S : List Fr} (h : okS S) (i : Nat) {f : Fr} (hf : f.ok) : okS (S.set i f) := by
  intro g hg
  rcases List.mem_or_eq_of_mem_set hg with h' | h'
  · exact h g h'
  · exact h' ▸ hf

/-- Machine at block B, its frames in block F. -/
structure PhM (w : World) (B F : Nat) (S : List Fr) : Prop where
  ok : okS S
  len : 1 ≤ S.length ∧ S.length ≤ 256
  head : ∃ c, S.length ≤ c ∧ w.heap[B]? = some (.cells #[.bool true, .slice (some ⟨F, 0, none⟩) S.length c] 25 (0, 0))
  row : ∃ rest, w.heap[F]? = some (.cells (allCells S ++ rest).toArray 122 (0, 0))

theorem PhM.ne {w : World} {B F : Nat} {S : List Fr} (h : PhM w B F S) : B ≠ F := by
  rintro rfl
  obtain ⟨c, _, h1⟩ := h.head
  obtain ⟨r, h2⟩ := h.row
  rw [h1] at h2
  simp at h2

theorem PhM.made {w : World} {B F : Nat} {S : List Fr} (h : PhM w B F S) : w.cell? ⟨B, 0, none⟩ = some (.bool true) := by
  obtain ⟨c, _, h1⟩ := h.head
  simp [World.cell?, h1]
theorem PhM.frames {w : World} {B F : Nat} {S : List Fr} (h : PhM w B F S) : ∃ c, S.length ≤ c ∧ w.cell? ⟨B, 1, none⟩ = some (.slice (some ⟨F, 0, none⟩) S.length c) := by
  obtain ⟨c, hc, h1⟩ := h.head
  exact ⟨c, hc, by simp [World.cell?, h1]⟩
theorem PhM.cell {w : World} {B F : Nat} {S : List Fr} (h : PhM w B F S) {i : Nat} {f : Fr} (hi : S[i]? = some f) (j : Nat) (hj : j < 260) : w.cell? ⟨F, i * 260 + j, none⟩ = f.cells[j]? := by
  obtain ⟨r, h1⟩ := h.row
  have hl := allCells_len h.ok
  have hlt : i < S.length := (List.getElem?_eq_some_iff.1 hi).1
  rw [row_cell h1, List.getElem?_append_left (by rw [hl]; omega), allCells_get h.ok i j f hi hj]
theorem PhM.free {w : World} {B F : Nat} {S : List Fr} (h : PhM w B F S) (j : Nat) : w.frozen? ⟨F, j, none⟩ = false := by
  obtain ⟨r, h1⟩ := h.row
  exact row_free h1 j

/-- It stays where neither of its blocks is changed. -/
theorem PhM.kept {w w' : World} {B F : Nat} {S : List Fr} {P : Nat → Prop} (h : PhM w B F S) (hm : Mod P w w') (hB : ¬ P B) (hF : ¬ P F) : PhM w' B F S := by
  obtain ⟨c, hc, h1⟩ := h.head
  obtain ⟨r, h2⟩ := h.row
  exact ⟨h.ok, h.len, ⟨c, hc, hm.blk h1 hB⟩, ⟨r, hm.blk h2 hF⟩⟩

theorem PhM.alloc {w : World} {B F : Nat} {S : List Fr} (h : PhM w B F S) (o : Obj) : PhM (w.alloc o) B F S := h.kept ((Mod.refl No w).alloc o) (fun p => p) (fun p => p)
theorem PhM.ltB {w : World} {B F : Nat} {S : List Fr} (h : PhM w B F S) : B < w.heap.size := by obtain ⟨c, _, h1⟩ := h.head; exact lt_of_blk h1
theorem PhM.ltF {w : World} {B F : Nat} {S : List Fr} (h : PhM w B F S) : F < w.heap.size := by obtain ⟨r, h1⟩ := h.row; exact lt_of_blk h1

/-- One cell of a frame is stored. -/
theorem PhM.set {w : World} {B F : Nat} {S : List Fr} (h : PhM w B F S) {i : Nat} {f f' : Fr} (hi : S[i]? = some f) (hf : f'.ok) (j : Nat) (hj : j < 260) {v : Value} (hv : f.cells.set j v = f'.cells) :
    PhM (w.setCell ⟨F, i * 260 + j, none⟩ v) B F (S.set i f') := by
  obtain ⟨c, hc, h1⟩ := h.head
  obtain ⟨r, h2⟩ := h.row
  have hl := allCells_len h.ok
  have hlt : i < S.length := (List.getElem?_eq_some_iff.1 hi).1
  refine ⟨okS_set h.ok i hf, by simpa using h.len, ⟨c, by simpa using hc, ?_⟩, ⟨r, ?_⟩⟩
  · rw [heap_setCell_other _ _ _ _ h.ne, h1]; simp
  · rw [row_set h2, List.set_append_left _ _ (by rw [hl]; omega), allCells_set h.ok i j f f' v hi hj hv]

/-- Bytes are laid over a frame. -/
theorem PhM.splice {w w' : World} {B F : Nat} {S : List Fr} (h : PhM w B F S) {i : Nat} {f : Fr} (hi : S[i]? = some f) {off : Nat} {bs : List Int} (ho : off + bs.length ≤ 256) (hb : ∀ b ∈ bs, 0 ≤ b ∧ b ≤ 255)
    {r : List Value} (hr : w'.heap[F]? = some (.cells (Go.splice (allCells S ++ r) (i * 260 + 4 + off) (bs.map (Value.int .u8))).toArray 122 (0, 0))) (hm : Mod (One F) w w') :
    PhM w' B F (S.set i { f with bytes := Go.splice f.bytes off bs }) := by
  obtain ⟨c, hc, h1⟩ := h.head
  have hl := allCells_len h.ok
  have hlt : i < S.length := (List.getElem?_eq_some_iff.1 hi).1
  have hfo : f.ok := h.ok f (List.mem_of_getElem? hi)
  refine ⟨okS_set h.ok i ⟨?_, ?_⟩, by simpa using h.len, ⟨c, by simpa using hc, ?_⟩, ⟨r, ?_⟩⟩
  · simp only [Go.splice, List.length_append, List.length_take, List.length_drop, hfo.1]; omega
  · intro b hb'
    simp only [Go.splice, List.mem_append] at hb'
    rcases hb' with h' | h' | h'
    · exact hfo.2 b (List.mem_of_mem_take h')
    · exact hb b h'
    · exact hfo.2 b (List.mem_of_mem_drop h')
  · rw [hm.blk h1 (fun e => h.ne e)]; simp
  · rw [hr, splice_append_left _ _ _ _ (by rw [hl]; simp; omega), allCells_splice h.ok i off f bs hi ho]

/-- No machine: nil, or one that no call made. -/
def NoM (w : World) (p : Option Addr) : Prop := p = none ∨ ∃ b, p = some ⟨b, 0, none⟩ ∧ w.cell? ⟨b, 0, none⟩ = some (.bool false)

theorem NoM.kept {P : Nat → Prop} {w w' : World} {p : Option Addr} (h : NoM w p) (hm : Mod P w w') (hn : ∀ b, p = some ⟨b, 0, none⟩ → ¬ P b) : NoM w' p := by
  rcases h with h | ⟨b, e, h⟩
  · exact .inl h
  · have hb : b < w.heap.size := World.block_lt_of_cell? w _ h
    exact .inr ⟨b, e, (World.cell?_of_block (hm.block b hb (hn b e))).trans h⟩
theorem NoM.alloc {w : World} {p : Option Addr} (h : NoM w p) (o : Obj) : NoM (w.alloc o) p := h.kept ((Mod.refl No w).alloc o) (fun _ _ q => q)

theorem none_made (B : Nat) (w : World) (h : w.cell? ⟨B, 0, none⟩ = some (.bool true)) :
    Calls Try.prog 63 #[.pointer (some ⟨B, 0, none⟩)] w fun e w' => e = .returned (.bool false) ∧ w = w' := by
  go_enter Try.func63, Try.ntmps63
  go_wp2
  go_ret
  exact ⟨rfl, rfl⟩

theorem none_none (p : Option Addr) (w : World) (h : NoM w p) :
    Calls Try.prog 63 #[.pointer p] w fun e w' => e = .returned (.bool true) ∧ w = w' := by
  rcases h with rfl | ⟨b, rfl, h⟩
  all_goals
    go_enter Try.func63, Try.ntmps63
    go_wp2
    go_ret
    exact ⟨rfl, rfl⟩

end Go.Proofs.Ythfkpbfapkpnfab
