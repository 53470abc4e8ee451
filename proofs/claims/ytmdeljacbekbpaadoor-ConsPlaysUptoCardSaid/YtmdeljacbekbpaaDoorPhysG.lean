/- What a step of the program may change in memory, block by block; small laws on blocks. The machine's frames in memory: what is known of a machine that phys.New made. phys.Machine: Size, at, part, Read, Write. phys.Machine: Read, Write, Frame. phys.Machine: kinds, Get, Put, rest, Free, Give. phys.Machine: Put. phys.Machine: Free, Give. phys.New. -/
import Derived.WalkKit
import Derived.Laws.CopyOwn
import Derived.Lib.Hide
import Derived.Deep.Draws
import Derived.Test.YtmdeljacbekbpaaDoorProg
import Derived.Deep.OwnRows
import Derived.Deep.QuietTactic
import Derived.BigQuiet
import Derived.Deep.MidRow
/- What a step of the program may change in memory, block by block; small laws on blocks. -/
namespace Go.Proofs.YtmdeljacbekbpaaDoor
open Go.RowKit

/-- Of the blocks that were there only those of which P holds may have changed. -/
structure Mod (P : Nat → Prop) (w w' : World) : Prop where
  os : w'.os = w.os
  tape : w'.tape = w.tape
  output : w'.output = w.output
  size : w.heap.size ≤ w'.heap.size
  block : ∀ k, k < w.heap.size → ¬ P k → w'.heap[k]? = w.heap[k]?

def No : Nat → Prop := fun _ => False
def One (b : Nat) : Nat → Prop := fun k => k = b

theorem Mod.refl (P : Nat → Prop) (w : World) : Mod P w w := ⟨rfl, rfl, rfl, Nat.le_refl _, fun _ _ _ => rfl⟩

/-- A second step: what it changes was let go, or is new. -/
theorem Mod.step {P Q : Nat → Prop} {a b c : World} (h : Mod P a b) (k : Mod Q b c) (hq : ∀ i, i < a.heap.size → Q i → P i) : Mod P a c :=
  ⟨k.os.trans h.os, k.tape.trans h.tape, k.output.trans h.output, Nat.le_trans h.size k.size,
    fun i hi hn => (k.block i (Nat.lt_of_lt_of_le hi h.size) (fun q => hn (hq i hi q))).trans (h.block i hi hn)⟩

theorem Mod.trans {P : Nat → Prop} {a b c : World} (h : Mod P a b) (k : Mod P b c) : Mod P a c := h.step k (fun _ _ p => p)

theorem Mod.mono {P Q : Nat → Prop} {a b : World} (h : Mod P a b) (hq : ∀ i, i < a.heap.size → P i → Q i) : Mod Q a b :=
  ⟨h.os, h.tape, h.output, h.size, fun i hi hn => h.block i hi (fun p => hn (hq i hi p))⟩

theorem Mod.of_no {Q : Nat → Prop} {a b : World} (h : Mod No a b) : Mod Q a b := h.mono (fun _ _ p => p.elim)

theorem Mod.alloc {P : Nat → Prop} {a w : World} (h : Mod P a w) (o : Obj) : Mod P a (w.alloc o) :=
  h.step (Q := No) ⟨rfl, rfl, rfl, by simp, fun k hk _ => Below.heap_alloc w o k hk⟩ (fun _ _ q => q.elim)

theorem Mod.drew {P : Nat → Prop} {a w : World} (h : Mod P a w) : Mod P a w.drew := ⟨h.os, h.tape, h.output, h.size, h.block⟩

theorem Mod.drewN {P : Nat → Prop} {a w : World} (h : Mod P a w) (n : Nat) : Mod P a (w.drewN n) := ⟨h.os, h.tape, h.output, h.size, h.block⟩

theorem Mod.setCell {P : Nat → Prop} {a w : World} (h : Mod P a w) {p : Addr} (hp : p.block < a.heap.size → P p.block) (v : Value) : Mod P a (w.setCell p v) :=
  h.step (Q := One p.block) ⟨rfl, rfl, rfl, by simp [World.setCell], fun k _ hn => heap_setCell_other w p k v hn⟩ (fun _ hi q => q ▸ hp (q ▸ hi))

theorem Mod.set1 {F : Nat} {a w : World} (h : Mod (One F) a w) (o : Nat) (v : Value) : Mod (One F) a (w.setCell ⟨F, o, none⟩ v) := h.setCell (p := ⟨F, o, none⟩) (fun _ => rfl) v

theorem Mod.setRow {P : Nat → Prop} {a w : World} (h : Mod P a w) {g : Nat} (hp : g < a.heap.size → P g) (cs : Array Value) : Mod P a (w.setRow g cs) :=
  h.step (Q := One g) ⟨rfl, rfl, rfl, by simp [World.setRow], fun k _ hn => setRow_other w g k cs hn⟩ (fun _ hi q => q ▸ hp (q ▸ hi))

theorem Mod.grown {P : Nat → Prop} {a w w' : World} {row : Option Nat} (h : Mod P a w) (hg : w.grownBy w' row) (hp : ∀ k, row = some k → k < a.heap.size → P k) : Mod P a w' :=
  h.step (Q := fun k => some k = row) ⟨hg.os, hg.tape, hg.output, hg.size, fun k hk hn => hg.block k hk hn⟩ (fun i hi q => hp i q.symm hi)

theorem Mod.of_below {P : Nat → Prop} {w w' : World} (h : Below w.heap.size w w') : Mod P w w' := ⟨h.os, h.tape, h.output, h.size, fun k hk _ => h.block k hk⟩

theorem Mod.below {P : Nat → Prop} {w w' : World} {B : Nat} (h : Mod P w w') (hB : B ≤ w.heap.size) (hp : ∀ k, P k → B ≤ k) : Below B w w' :=
  ⟨h.os, h.tape, h.output, h.size, fun k hk => h.block k (Nat.lt_of_lt_of_le hk hB) (fun p => by have := hp k p; omega)⟩

theorem Mod.no_below {w w' : World} (h : Mod No w w') : Below w.heap.size w w' := h.below (Nat.le_refl _) (fun _ p => p.elim)

theorem lt_of_blk {w : World} {b : Nat} {o : Obj} (h : w.heap[b]? = some o) : b < w.heap.size := (Array.getElem?_eq_some_iff.1 h).1

theorem Mod.blk {P : Nat → Prop} {w w' : World} (h : Mod P w w') {b : Nat} {o : Obj} (hb : w.heap[b]? = some o) (hn : ¬ P b) : w'.heap[b]? = some o :=
  (h.block b (lt_of_blk hb) hn).trans hb

theorem blk_alloc {w : World} {b : Nat} {o : Obj} (h : w.heap[b]? = some o) (x : Obj) : (w.alloc x).heap[b]? = some o := (Below.heap_alloc w x b (lt_of_blk h)).trans h
theorem blk_setCell {w : World} {b : Nat} {o : Obj} (h : w.heap[b]? = some o) {p : Addr} (hp : b ≠ p.block) (v : Value) : (w.setCell p v).heap[b]? = some o := (heap_setCell_other w p b v hp).trans h

/-- A row's cell, and that it may be written. -/
theorem row_cell {w : World} {g : Nat} {l : List Value} {t : TypeId} (hg : w.heap[g]? = some (.cells l.toArray t (0, 0))) (j : Nat) : w.cell? ⟨g, j, none⟩ = l[j]? := by
  rw [cell_of_row w g j _ t (0, 0) hg]; simp
theorem row_free {w : World} {g : Nat} {l : List Value} {t : TypeId} (hg : w.heap[g]? = some (.cells l.toArray t (0, 0))) (j : Nat) : w.frozen? ⟨g, j, none⟩ = false := frozen_of_row w g j _ t hg
theorem row_set {w : World} {g : Nat} {l : List Value} {t : TypeId} (hg : w.heap[g]? = some (.cells l.toArray t (0, 0))) (j : Nat) (v : Value) :
    (w.setCell ⟨g, j, none⟩ v).heap[g]? = some (.cells (l.set j v).toArray t (0, 0)) := by
  rw [heap_setCell_same w g j _ t v hg]; simp

/-- copy into a row that is known whole: the place and the cells are given. -/
theorem wpList_copy_row {P : Program} {w : World} {ops : Array Oper} {rest : List Oper} {o : Oper} {a : Act} {Q : Exit → Act → World → Prop} (hgd : o.guard = none) (d s : Operand) (dT sT : TypeId)
    (ho : o.op = .call { callee := .builtin .copy, args := #[d, s], argTypes := #[dT, sT] }) (elem : TypeId) (hu : P.underlying dT = some (.slice elem)) (hsz : (P.info? elem).map (·.size) = some 1)
    (dp sp : Option Addr) (dLen dCap sLen sCap : Nat) (hd : a.eval d = .slice dp dLen dCap) (hs : a.eval s = .slice sp sLen sCap)
    (g off : Nat) (cur : List Value) (t : TypeId) (hg : w.heap[g]? = some (.cells cur.toArray t (0, 0))) (cs : List Value) (hn : cs.length = Nat.min sLen dLen)
    (hpos : 0 < cs.length → dp = some ⟨g, off, none⟩ ∧ ∃ ad, sp = some ad ∧ ∀ j v, cs[j]? = some v → w.cell? (ad.add j) = some v)
    (hfit : off + cs.length ≤ cur.length) (h1 : ∀ v ∈ cs, v.oneCell' = true)
    (h : ∀ w', Hid (w'.heap[g]? = some (.cells (splice cur off cs).toArray t (0, 0))) → Mod (One g) w w' → wpList P ops Q rest (a.put o.dst (goInt cs.length)) w') :
    wpList P ops Q (o :: rest) a w := by
  by_cases h0 : cs.length = 0
  · obtain rfl : cs = [] := List.eq_nil_of_length_eq_zero h0
    refine wpList_copy_nothing hgd d s dT sT ho elem hu hsz dp sp dLen dCap sLen sCap hd hs (by simpa using hn.symm) ?_
    exact h w (show _ = _ by simpa [splice] using hg) (Mod.refl _ _)
  · obtain ⟨rfl, ad, rfl, hsrc⟩ := hpos (by omega)
    refine wpList_copy_own hgd d s dT sT ho elem hu hsz g off dLen dCap ad sLen sCap hd hs cur.toArray t hg cs hn hsrc (by simpa using hfit) h1 ?_
    exact h _ (show _ = _ by simpa [splice] using setRow_heap w g _ _ t _ hg) ((Mod.refl (One g) w).setRow (fun _ => rfl) _)

theorem oneCell_u8 (l : List Int) : ∀ v ∈ l.map (Value.int .u8), v.oneCell' = true := by
  intro v hv; obtain ⟨n, _, rfl⟩ := List.mem_map.1 hv; rfl

end Go.Proofs.YtmdeljacbekbpaaDoor

/- The machine's frames in memory: what is known of a machine that phys.New made. -/
namespace Go.Proofs.YtmdeljacbekbpaaDoor
open Go.RowKit

/-- A frame: whose, of which type, counts, bytes. -/
structure Fr where
  owner : Int
  type : Int
  count : Int
  total : Int
  bytes : List Int

def Fr.cells (f : Fr) : List Value := .int .i64 f.owner :: .int .i64 f.type :: .int .i64 f.count :: .int .i64 f.total :: f.bytes.map (Value.int .u8)
def Fr.ok (f : Fr) : Prop := f.bytes.length = 256 ∧ ∀ b ∈ f.bytes, 0 ≤ b ∧ b ≤ 255
def allCells (S : List Fr) : List Value := S.flatMap Fr.cells
def okS (S : List Fr) : Prop := ∀ f ∈ S, f.ok

theorem Fr.len {f : Fr} (h : f.ok) : f.cells.length = 260 := by simp [Fr.cells, h.1]

theorem allCells_len : ∀ {S : List Fr}, okS S → (allCells S).length = S.length * 260
  | [], _ => rfl
  | f :: S, h => by
    have ih := allCells_len (S := S) (fun g hg => h g (by simp [hg]))
    have hf := Fr.len (h f (by simp))
    simp only [allCells, List.flatMap_cons, List.length_append, List.length_cons] at ih ⊢
    rw [hf, ih]; omega

theorem allCells_get : ∀ {S : List Fr}, okS S → ∀ (i j : Nat) (f : Fr), S[i]? = some f → j < 260 → (allCells S)[i * 260 + j]? = f.cells[j]?
  | [], _, i, j, f, hi, _ => by simp at hi
  | g :: S, h, 0, j, f, hi, hj => by
    simp at hi; subst hi
    simp only [allCells, List.flatMap_cons, Nat.zero_mul, Nat.zero_add]
    rw [List.getElem?_append_left (by rw [Fr.len (h g (by simp))]; exact hj)]
  | g :: S, h, i + 1, j, f, hi, hj => by
    have hg := Fr.len (h g (by simp))
    have ih := allCells_get (S := S) (fun g hg => h g (by simp [hg])) i j f (by simpa using hi) hj
    simp only [allCells, List.flatMap_cons] at ih ⊢
    rw [List.getElem?_append_right (by rw [hg]; omega), hg, show (i + 1) * 260 + j - 260 = i * 260 + j by omega]
    exact ih

theorem allCells_set : ∀ {S : List Fr}, okS S → ∀ (i j : Nat) (f f' : Fr) (v : Value), S[i]? = some f → j < 260 → f.cells.set j v = f'.cells → (allCells S).set (i * 260 + j) v = allCells (S.set i f')
  | [], _, i, j, f, f', v, hi, _, _ => by simp at hi
  | g :: S, h, 0, j, f, f', v, hi, hj, hv => by
    simp at hi; subst hi
    simp only [allCells, List.flatMap_cons, Nat.zero_mul, Nat.zero_add, List.set_cons_zero]
    rw [List.set_append_left _ _ (by rw [Fr.len (h g (by simp))]; exact hj), hv]
  | g :: S, h, i + 1, j, f, f', v, hi, hj, hv => by
    have hg := Fr.len (h g (by simp))
    have ih := allCells_set (S := S) (fun g hg => h g (by simp [hg])) i j f f' v (by simpa using hi) hj hv
    simp only [allCells, List.flatMap_cons, List.set_cons_succ] at ih ⊢
    rw [List.set_append_right _ _ (by rw [hg]; omega), hg, show (i + 1) * 260 + j - 260 = i * 260 + j by omega, ih]

/-- A row that is laid over a frame's bytes. -/
theorem splice_append_left {α : Type} (A B cs : List α) (off : Nat) (h : off + cs.length ≤ A.length) : splice (A ++ B) off cs = splice A off cs ++ B := by
  unfold splice
  rw [List.take_append_of_le_length (by omega), List.drop_append_of_le_length h]
  simp
theorem splice_append_right {α : Type} (A B cs : List α) (off : Nat) : splice (A ++ B) (A.length + off) cs = A ++ splice B off cs := by
  unfold splice
  rw [List.take_length_add_append, Nat.add_assoc, List.drop_length_add_append]
  simp

theorem allCells_splice : ∀ {S : List Fr}, okS S → ∀ (i off : Nat) (f : Fr) (bs : List Int), S[i]? = some f → off + bs.length ≤ 256 →
    splice (allCells S) (i * 260 + 4 + off) (bs.map (Value.int .u8)) = allCells (S.set i { f with bytes := splice f.bytes off bs })
  | [], _, i, off, f, bs, hi, _ => by simp at hi
  | g :: S, h, 0, off, f, bs, hi, hj => by
    simp at hi; subst hi
    have hg := Fr.len (h g (by simp))
    simp only [allCells, List.flatMap_cons, Nat.zero_mul, Nat.zero_add, List.set_cons_zero]
    rw [splice_append_left _ _ _ _ (by rw [hg]; simp; omega)]
    congr 1
    have := splice_append_right [Value.int .i64 g.owner, .int .i64 g.type, .int .i64 g.count, .int .i64 g.total] (g.bytes.map (Value.int .u8)) (bs.map (Value.int .u8)) off
    simp only [List.length_cons, List.length_nil, Nat.zero_add, Nat.reduceAdd, List.cons_append, List.nil_append] at this
    simp only [Fr.cells]
    rw [this]
    simp [splice, List.map_take, List.map_drop]
  | g :: S, h, i + 1, off, f, bs, hi, hj => by
    have hg := Fr.len (h g (by simp))
    have ih := allCells_splice (S := S) (fun g hg => h g (by simp [hg])) i off f bs (by simpa using hi) hj
    simp only [allCells, List.flatMap_cons, List.set_cons_succ] at ih ⊢
    have e : (i + 1) * 260 + 4 + off = g.cells.length + (i * 260 + 4 + off) := by rw [hg]; omega
    rw [e, splice_append_right, ih]

theorem okS_set {S : List Fr} (h : okS S) (i : Nat) {f : Fr} (hf : f.ok) : okS (S.set i f) := by
  intro g hg
  rcases List.mem_or_eq_of_mem_set hg with h' | h'
  · exact h g h'
  · exact h' ▸ hf

/-- Machine at block B, its frames in block F. -/
structure PhM (w : World) (B F : Nat) (S : List Fr) : Prop where
  ok : okS S
  len : 1 ≤ S.length ∧ S.length ≤ 256
  head : ∃ c, S.length ≤ c ∧ w.heap[B]? = some (.cells #[.bool true, .slice (some ⟨F, 0, none⟩) S.length c] 120 (0, 0))
  row : ∃ rest, w.heap[F]? = some (.cells (allCells S ++ rest).toArray 115 (0, 0))

theorem PhM.ne {w : World} {B F : Nat} {S : List Fr} (h : PhM w B F S) : B ≠ F := by
  rintro rfl
  obtain ⟨c, _, h1⟩ := h.head
  obtain ⟨r, h2⟩ := h.row
  rw [h1] at h2
  simp at h2

theorem PhM.made {w : World} {B F : Nat} {S : List Fr} (h : PhM w B F S) : w.cell? ⟨B, 0, none⟩ = some (.bool true) := by
  obtain ⟨c, _, h1⟩ := h.head
  simp [World.cell?, h1]
theorem PhM.frames {w : World} {B F : Nat} {S : List Fr} (h : PhM w B F S) : ∃ c, S.length ≤ c ∧ w.cell? ⟨B, 1, none⟩ = some (.slice (some ⟨F, 0, none⟩) S.length c) := by
  obtain ⟨c, hc, h1⟩ := h.head
  exact ⟨c, hc, by simp [World.cell?, h1]⟩
theorem PhM.cell {w : World} {B F : Nat} {S : List Fr} (h : PhM w B F S) {i : Nat} {f : Fr} (hi : S[i]? = some f) (j : Nat) (hj : j < 260) : w.cell? ⟨F, i * 260 + j, none⟩ = f.cells[j]? := by
  obtain ⟨r, h1⟩ := h.row
  have hl := allCells_len h.ok
  have hlt : i < S.length := (List.getElem?_eq_some_iff.1 hi).1
  rw [row_cell h1, List.getElem?_append_left (by rw [hl]; omega), allCells_get h.ok i j f hi hj]
theorem PhM.free {w : World} {B F : Nat} {S : List Fr} (h : PhM w B F S) (j : Nat) : w.frozen? ⟨F, j, none⟩ = false := by
  obtain ⟨r, h1⟩ := h.row
  exact row_free h1 j

/-- It stays where neither of its blocks is changed. -/
theorem PhM.kept {w w' : World} {B F : Nat} {S : List Fr} {P : Nat → Prop} (h : PhM w B F S) (hm : Mod P w w') (hB : ¬ P B) (hF : ¬ P F) : PhM w' B F S := by
  obtain ⟨c, hc, h1⟩ := h.head
  obtain ⟨r, h2⟩ := h.row
  exact ⟨h.ok, h.len, ⟨c, hc, hm.blk h1 hB⟩, ⟨r, hm.blk h2 hF⟩⟩

theorem PhM.alloc {w : World} {B F : Nat} {S : List Fr} (h : PhM w B F S) (o : Obj) : PhM (w.alloc o) B F S := h.kept ((Mod.refl No w).alloc o) (fun p => p) (fun p => p)
theorem PhM.ltB {w : World} {B F : Nat} {S : List Fr} (h : PhM w B F S) : B < w.heap.size := by obtain ⟨c, _, h1⟩ := h.head; exact lt_of_blk h1
theorem PhM.ltF {w : World} {B F : Nat} {S : List Fr} (h : PhM w B F S) : F < w.heap.size := by obtain ⟨r, h1⟩ := h.row; exact lt_of_blk h1

/-- One cell of a frame is stored. -/
theorem PhM.set {w : World} {B F : Nat} {S : List Fr} (h : PhM w B F S) {i : Nat} {f f' : Fr} (hi : S[i]? = some f) (hf : f'.ok) (j : Nat) (hj : j < 260) {v : Value} (hv : f.cells.set j v = f'.cells) :
    PhM (w.setCell ⟨F, i * 260 + j, none⟩ v) B F (S.set i f') := by
  obtain ⟨c, hc, h1⟩ := h.head
  obtain ⟨r, h2⟩ := h.row
  have hl := allCells_len h.ok
  have hlt : i < S.length := (List.getElem?_eq_some_iff.1 hi).1
  refine ⟨okS_set h.ok i hf, by simpa using h.len, ⟨c, by simpa using hc, ?_⟩, ⟨r, ?_⟩⟩
  · rw [heap_setCell_other _ _ _ _ h.ne, h1]; simp
  · rw [row_set h2, List.set_append_left _ _ (by rw [hl]; omega), allCells_set h.ok i j f f' v hi hj hv]

/-- Bytes are laid over a frame. -/
theorem PhM.splice {w w' : World} {B F : Nat} {S : List Fr} (h : PhM w B F S) {i : Nat} {f : Fr} (hi : S[i]? = some f) {off : Nat} {bs : List Int} (ho : off + bs.length ≤ 256) (hb : ∀ b ∈ bs, 0 ≤ b ∧ b ≤ 255)
    {r : List Value} (hr : w'.heap[F]? = some (.cells (Go.splice (allCells S ++ r) (i * 260 + 4 + off) (bs.map (Value.int .u8))).toArray 115 (0, 0))) (hm : Mod (One F) w w') :
    PhM w' B F (S.set i { f with bytes := Go.splice f.bytes off bs }) := by
  obtain ⟨c, hc, h1⟩ := h.head
  have hl := allCells_len h.ok
  have hlt : i < S.length := (List.getElem?_eq_some_iff.1 hi).1
  have hfo : f.ok := h.ok f (List.mem_of_getElem? hi)
  refine ⟨okS_set h.ok i ⟨?_, ?_⟩, by simpa using h.len, ⟨c, by simpa using hc, ?_⟩, ⟨r, ?_⟩⟩
  · simp only [Go.splice, List.length_append, List.length_take, List.length_drop, hfo.1]; omega
  · intro b hb'
    simp only [Go.splice, List.mem_append] at hb'
    rcases hb' with h' | h' | h'
    · exact hfo.2 b (List.mem_of_mem_take h')
    · exact hb b h'
    · exact hfo.2 b (List.mem_of_mem_drop h')
  · rw [hm.blk h1 (fun e => h.ne e)]; simp
  · rw [hr, splice_append_left _ _ _ _ (by rw [hl]; simp; omega), allCells_splice h.ok i off f bs hi ho]

/-- No machine: nil, or one that no call made. -/
def NoM (w : World) (p : Option Addr) : Prop := p = none ∨ ∃ b, p = some ⟨b, 0, none⟩ ∧ w.cell? ⟨b, 0, none⟩ = some (.bool false)

theorem NoM.kept {P : Nat → Prop} {w w' : World} {p : Option Addr} (h : NoM w p) (hm : Mod P w w') (hn : ∀ b, p = some ⟨b, 0, none⟩ → ¬ P b) : NoM w' p := by
  rcases h with h | ⟨b, e, h⟩
  · exact .inl h
  · have hb : b < w.heap.size := World.block_lt_of_cell? w _ h
    exact .inr ⟨b, e, (World.cell?_of_block (hm.block b hb (hn b e))).trans h⟩
theorem NoM.alloc {w : World} {p : Option Addr} (h : NoM w p) (o : Obj) : NoM (w.alloc o) p := h.kept ((Mod.refl No w).alloc o) (fun _ _ q => q)

theorem none_made (B : Nat) (w : World) (h : w.cell? ⟨B, 0, none⟩ = some (.bool true)) :
    Calls Tryd.prog 54 #[.pointer (some ⟨B, 0, none⟩)] w fun e w' => e = .returned (.bool false) ∧ w = w' := by
  go_enter Tryd.func54, Tryd.ntmps54
  go_wp2
  go_ret
  exact ⟨rfl, rfl⟩

theorem none_none (p : Option Addr) (w : World) (h : NoM w p) :
    Calls Tryd.prog 54 #[.pointer p] w fun e w' => e = .returned (.bool true) ∧ w = w' := by
  rcases h with rfl | ⟨b, rfl, h⟩
  all_goals
    go_enter Tryd.func54, Tryd.ntmps54
    go_wp2
    go_ret
    exact ⟨rfl, rfl⟩

end Go.Proofs.YtmdeljacbekbpaaDoor

/- phys.Machine: Size, at, part, Read, Write. -/
namespace Go.Proofs.YtmdeljacbekbpaaDoor
open Go.RowKit

theorem size_made {B F : Nat} {S : List Fr} (w : World) (h : PhM w B F S) :
    Calls Tryd.prog 35 #[.pointer (some ⟨B, 0, none⟩)] w fun e w' => e = .returned (.int .i64 S.length) ∧ w = w' := by
  have h0 := h.made
  obtain ⟨c, _, h1⟩ := h.frames
  go_enter Tryd.func35, Tryd.ntmps35
  go_wp2_with (go_at_call 54; refine (none_made B _ h0).mono ?_; rintro e w' ⟨rfl, rfl⟩)
  go_ret
  exact ⟨rfl, rfl⟩

theorem size_none {p : Option Addr} (w : World) (h : NoM w p) :
    Calls Tryd.prog 35 #[.pointer p] w fun e w' => e = .returned (.int .i64 0) ∧ w = w' := by
  go_enter Tryd.func35, Tryd.ntmps35
  go_wp2_with (go_at_call 54; refine (none_none p _ h).mono ?_; rintro e w' ⟨rfl, rfl⟩)
  go_ret
  exact ⟨rfl, rfl⟩

theorem at_in {B F : Nat} {S : List Fr} (i : Int) (w : World) (h : PhM w B F S) (hi0 : 0 ≤ i) (hi1 : i < S.length) :
    Calls Tryd.prog 61 #[.pointer (some ⟨B, 0, none⟩), .int .i64 i] w fun e w' => e = .returned (.tuple #[.pointer (some ⟨F, i.toNat * 260, none⟩), .int .i64 0]) ∧ w = w' := by
  have h0 := h.made
  obtain ⟨c, _, h1⟩ := h.frames
  have d1 : decide (i < 0) = false := decide_eq_false (by omega)
  have d2 : decide ((S.length : Int) ≤ i) = false := decide_eq_false (by omega)
  go_enter Tryd.func61, Tryd.ntmps61
  go_wp2_with (go_at_call 54; refine (none_made B _ h0).mono ?_; rintro e w' ⟨rfl, rfl⟩)
  go_ret2
  exact ⟨rfl, rfl⟩

theorem at_out {B F : Nat} {S : List Fr} (i : Int) (w : World) (h : PhM w B F S) (hi : i < 0 ∨ (S.length : Int) ≤ i) :
    Calls Tryd.prog 61 #[.pointer (some ⟨B, 0, none⟩), .int .i64 i] w fun e w' => e = .returned (.tuple #[.pointer none, .int .i64 1]) ∧ w = w' := by
  have h0 := h.made
  obtain ⟨c, _, h1⟩ := h.frames
  by_cases hn : i < 0
  · have d1 : decide (i < 0) = true := decide_eq_true hn
    go_enter Tryd.func61, Tryd.ntmps61
    go_wp2_with (go_at_call 54; refine (none_made B _ h0).mono ?_; rintro e w' ⟨rfl, rfl⟩)
    go_ret2
    exact ⟨rfl, rfl⟩
  · have d1 : decide (i < 0) = false := decide_eq_false hn
    have d2 : decide ((S.length : Int) ≤ i) = true := decide_eq_true (by omega)
    go_enter Tryd.func61, Tryd.ntmps61
    go_wp2_with (go_at_call 54; refine (none_made B _ h0).mono ?_; rintro e w' ⟨rfl, rfl⟩)
    go_ret2
    exact ⟨rfl, rfl⟩

theorem at_none {p : Option Addr} (i : Int) (w : World) (h : NoM w p) :
    Calls Tryd.prog 61 #[.pointer p, .int .i64 i] w fun e w' => e = .returned (.tuple #[.pointer none, .int .i64 7]) ∧ w = w' := by
  go_enter Tryd.func61, Tryd.ntmps61
  go_wp2_with (go_at_call 54; refine (none_none p _ h).mono ?_; rintro e w' ⟨rfl, rfl⟩)
  go_ret2
  exact ⟨rfl, rfl⟩

/-- A part of a frame that there is. -/
def InP (S : List Fr) (i off n : Int) : Prop := (0 ≤ i ∧ i < S.length) ∧ 0 ≤ off ∧ 0 ≤ n ∧ off + n ≤ 256

theorem part_in {B F : Nat} {S : List Fr} (i off n : Int) (w : World) (h : PhM w B F S) (hp : InP S i off n) :
    Calls Tryd.prog 44 #[.pointer (some ⟨B, 0, none⟩), .int .i64 i, .int .i64 off, .int .i64 n] w fun e w' => e = .returned (.tuple #[.pointer (some ⟨F, i.toNat * 260, none⟩), .int .i64 0]) ∧ w = w' := by
  obtain ⟨⟨hi0, hi1⟩, ho, hn, hs⟩ := hp
  have d1 : decide (off < 0) = false := decide_eq_false (by omega)
  have d2 : decide (n < 0) = false := decide_eq_false (by omega)
  have d3 : decide (256 < off) = false := decide_eq_false (by omega)
  have d4 : decide (256 - off < n) = false := decide_eq_false (by omega)
  go_enter Tryd.func44, Tryd.ntmps44
  go_wp2_with (go_at_call 61; refine (at_in i _ h hi0 hi1).mono ?_; rintro e w' ⟨rfl, rfl⟩)
  go_ret2
  exact ⟨rfl, rfl⟩

theorem part_out {B F : Nat} {S : List Fr} (i off n : Int) (w : World) (h : PhM w B F S) (hp : ¬ InP S i off n) :
    Calls Tryd.prog 44 #[.pointer (some ⟨B, 0, none⟩), .int .i64 i, .int .i64 off, .int .i64 n] w fun e w' => (∃ p, e = .returned (.tuple #[.pointer p, .int .i64 1])) ∧ w = w' := by
  by_cases hi : i < 0 ∨ (S.length : Int) ≤ i
  · go_enter Tryd.func44, Tryd.ntmps44
    go_wp2_with (go_at_call 61; refine (at_out i _ h hi).mono ?_; rintro e w' ⟨rfl, rfl⟩)
    go_ret2
    exact ⟨⟨_, rfl⟩, rfl⟩
  have hi0 : 0 ≤ i := by omega
  have hi1 : i < S.length := by omega
  by_cases c1 : off < 0
  · have d1 : decide (off < 0) = true := decide_eq_true c1
    go_enter Tryd.func44, Tryd.ntmps44
    go_wp2_with (go_at_call 61; refine (at_in i _ h hi0 hi1).mono ?_; rintro e w' ⟨rfl, rfl⟩)
    go_ret2
    exact ⟨⟨_, rfl⟩, rfl⟩
  have d1 : decide (off < 0) = false := decide_eq_false c1
  by_cases c2 : n < 0
  · have d2 : decide (n < 0) = true := decide_eq_true c2
    go_enter Tryd.func44, Tryd.ntmps44
    go_wp2_with (go_at_call 61; refine (at_in i _ h hi0 hi1).mono ?_; rintro e w' ⟨rfl, rfl⟩)
    go_ret2
    exact ⟨⟨_, rfl⟩, rfl⟩
  have d2 : decide (n < 0) = false := decide_eq_false c2
  by_cases c3 : 256 < off
  · have d3 : decide (256 < off) = true := decide_eq_true c3
    go_enter Tryd.func44, Tryd.ntmps44
    go_wp2_with (go_at_call 61; refine (at_in i _ h hi0 hi1).mono ?_; rintro e w' ⟨rfl, rfl⟩)
    go_ret2
    exact ⟨⟨_, rfl⟩, rfl⟩
  have d3 : decide (256 < off) = false := decide_eq_false c3
  have d4 : decide (256 - off < n) = true := decide_eq_true (by unfold InP at hp; omega)
  go_enter Tryd.func44, Tryd.ntmps44
  go_wp2_with (go_at_call 61; refine (at_in i _ h hi0 hi1).mono ?_; rintro e w' ⟨rfl, rfl⟩)
  go_ret2
  exact ⟨⟨_, rfl⟩, rfl⟩

theorem part_none {p : Option Addr} (i off n : Int) (w : World) (h : NoM w p) :
    Calls Tryd.prog 44 #[.pointer p, .int .i64 i, .int .i64 off, .int .i64 n] w fun e w' => e = .returned (.tuple #[.pointer none, .int .i64 7]) ∧ w = w' := by
  go_enter Tryd.func44, Tryd.ntmps44
  go_wp2_with (go_at_call 61; refine (at_none i _ h).mono ?_; rintro e w' ⟨rfl, rfl⟩)
  go_ret2
  exact ⟨rfl, rfl⟩

end Go.Proofs.YtmdeljacbekbpaaDoor

/- phys.Machine: Read, Write, Frame. -/
namespace Go.Proofs.YtmdeljacbekbpaaDoor
open Go.RowKit
set_option maxRecDepth 100000

theorem Tryd.infoU8 : (Tryd.prog.info? 5).map (fun i => (i.zero, i.size, i.bytes)) = some (some (.int .u8 0), 1, 1) := by kernel_rfl
theorem Tryd.pageLen : Tryd.prog.arrayLen 113 = 256 := by kernel_rfl
theorem Tryd.pageElem : Tryd.prog.elem 113 = 5 := by kernel_rfl
theorem Tryd.sizeU8 : (Tryd.prog.info? 5).map (·.size) = some 1 := by kernel_rfl

theorem slice_page (o k F : Nat) (ho : o ≤ 256) : ∃ ad : Addr, (o < 256 → ad = ⟨F, k + o, none⟩) ∧
    ∀ w, (Instr.sliceAt 113 (.pointer (some ⟨F, k, none⟩)) (some (.int .i64 (o : Int))) none none).run Tryd.prog w = .ok (.slice (some ad) (256 - o) (256 - o)) w := by
  refine ⟨if 256 = o then ⟨F, k, none⟩ else ⟨F, k + o, none⟩, fun h => by rw [if_neg (by omega)], fun w => ?_⟩
  rw [run_sliceAt_array_l w 113 _ (by rw [Tryd.pageLen, Tryd.pageElem]; exact Tryd.underlying113) .i64 _ (by omega) (by rw [Tryd.pageLen]; omega)]
  rw [Tryd.pageLen, Tryd.pageElem]
  obtain ⟨i, hi, hs⟩ := Option.map_eq_some_iff.1 Tryd.sizeU8
  have hsz : (sizeOf 5).run Tryd.prog w = .ok 1 w := by simp [sizeOf, typeInfo, hi, hs]
  rw [hsz]
  simp only [Result.andThen, slicedAt, Int.toNat_natCast, Nat.mul_one]
  split <;> simp [Addr.add]

theorem made_one (z : Value) (n : Nat) : madeCells #[z] n = (List.replicate n z).toArray := by
  rw [← toList_madeCells_one]
theorem splice_all {α : Type} (L cs : List α) (h : cs.length = L.length) : splice L 0 cs = cs := by
  unfold splice; simp [h]

set_option maxHeartbeats 400000 in
theorem read_in {B F : Nat} {S : List Fr} (i off n : Int) (f : Fr) (w : World) (h : PhM w B F S) (hp : InP S i off n) (hf : S[i.toNat]? = some f) :
    Calls Tryd.prog 16 #[.pointer (some ⟨B, 0, none⟩), .int .i64 i, .int .i64 off, .int .i64 n] w fun e w' =>
      e = .returned (.tuple #[.slice (some ⟨w.heap.size, 0, none⟩) n.toNat n.toNat, .int .i64 0]) ∧ Mod No w w' ∧ w.heap.size < w'.heap.size ∧
      w'.heap[w.heap.size]? = some (.cells (((f.bytes.drop off.toNat).take n.toNat).map (Value.int .u8)).toArray 5 (0, 0)) := by
  have hp' := hp
  obtain ⟨⟨hi0, hi1⟩, ho, hn, hs⟩ := hp
  obtain ⟨o, rfl⟩ := Int.eq_ofNat_of_zero_le ho
  obtain ⟨m, rfl⟩ := Int.eq_ofNat_of_zero_le hn
  have hmk := run_make_row' (P := Tryd.prog) 22 5 (.int .u8 0) 1 Tryd.underlying22 Tryd.infoU8 rfl .i64 .i64 m (by omega) (by omega)
  obtain ⟨ad, had, hsl⟩ := slice_page o (i.toNat * 260 + 4) F (by omega)
  have hfo := h.ok f (List.mem_of_getElem? hf)
  obtain ⟨bs, hbs⟩ : ∃ bs, bs = (f.bytes.drop o).take m := ⟨_, rfl⟩
  have hlen : bs.length = m := by rw [hbs]; simp [hfo.1]; omega
  have hb : F < w.heap.size := by obtain ⟨r, hr⟩ := h.row; exact lt_of_blk hr
  have hcell : ∀ j b, bs[j]? = some b → w.cell? ⟨F, i.toNat * 260 + 4 + o + j, none⟩ = some (.int .u8 b) := by
    intro j b hj
    have hjm : j < m := by rw [← hlen]; exact (List.getElem?_eq_some_iff.1 hj).1
    have := h.cell hf (4 + o + j) (by omega)
    rw [show i.toNat * 260 + 4 + o + j = i.toNat * 260 + (4 + o + j) by omega, this, show 4 + o + j = (o + j) + 4 by omega]
    simp only [Fr.cells, List.getElem?_cons_succ, List.getElem?_map]
    rw [hbs, List.getElem?_take_of_lt hjm, List.getElem?_drop] at hj
    rw [hj]; rfl
  have HB := Lib.hid hbs; clear hbs
  have HC := Lib.hid hcell; clear hcell
  have HL := Lib.hid hlen; clear hlen
  go_enter Tryd.func16, Tryd.ntmps16
  go_wp2_with (first
    | (go_at_call 44; refine (part_in i o m _ h hp').mono ?_; rintro e w' ⟨rfl, rfl⟩)
    | (with_reducible refine wpList_copy_row rfl _ _ _ _ rfl 5 Tryd.underlying22 Tryd.sizeU8 _ _ _ _ _ _ rfl rfl w.heap.size 0 (List.replicate m (.int .u8 0)) 5 ?c1 (bs.map (Value.int .u8)) ?c2 ?c3 ?c4 (oneCell_u8 _) ?c5))
  case c1 => rw [heap_alloc_new, made_one]
  case c2 => rw [List.length_map, HL.out]; exact (Nat.min_eq_right (by omega)).symm
  case c3 =>
    intro hpos j a hj
    rw [HL.out] at hpos
    rw [had (by omega), Addr.add_lit, World.cell?_alloc_past _ _ _ hb]
    exact HC.out j a hj
  case c4 => rw [List.length_map, HL.out]; simp
  case c5 =>
    intro w' HG hm
    go_wp2
    go_ret2
    have hs := hm.size
    have hg := HG.out
    rw [splice_all _ _ (by rw [List.length_map, HL.out]; simp)] at hg
    refine ⟨rfl, ((Mod.refl No w).alloc _).step hm (fun k hk e => by cases e; omega), by simp at hs; omega, ?_⟩
    rw [hg, HB.out]; simp

theorem read_out {B F : Nat} {S : List Fr} (i off n : Int) (w : World) (h : PhM w B F S) (hp : ¬ InP S i off n) :
    Calls Tryd.prog 16 #[.pointer (some ⟨B, 0, none⟩), .int .i64 i, .int .i64 off, .int .i64 n] w fun e w' => e = .returned (.tuple #[.slice none 0 0, .int .i64 1]) ∧ w = w' := by
  go_enter Tryd.func16, Tryd.ntmps16
  go_wp2_with (go_at_call 44; refine (part_out i off n _ h hp).mono ?_; rintro e w' ⟨⟨p, rfl⟩, rfl⟩)
  go_ret2
  exact ⟨rfl, rfl⟩

theorem read_none {p : Option Addr} (i off n : Int) (w : World) (h : NoM w p) :
    Calls Tryd.prog 16 #[.pointer p, .int .i64 i, .int .i64 off, .int .i64 n] w fun e w' => e = .returned (.tuple #[.slice none 0 0, .int .i64 7]) ∧ w = w' := by
  go_enter Tryd.func16, Tryd.ntmps16
  go_wp2_with (go_at_call 44; refine (part_none i off n _ h).mono ?_; rintro e w' ⟨rfl, rfl⟩)
  go_ret2
  exact ⟨rfl, rfl⟩

/-- Bytes that a slice holds. -/
structure Src (w : World) (p : Option Addr) (bs : List Int) : Prop where
  range : ∀ b ∈ bs, 0 ≤ b ∧ b ≤ 255
  cells : 0 < bs.length → ∃ ad, p = some ad ∧ ∀ j b, bs[j]? = some b → w.cell? (ad.add j) = some (.int .u8 b)

theorem Src.nil (w : World) (p : Option Addr) : Src w p [] := ⟨by simp, by simp⟩

theorem write_out {B F : Nat} {S : List Fr} (i off : Int) (p : Option Addr) (n c : Nat) (w : World) (h : PhM w B F S) (hp : ¬ InP S i off n) :
    Calls Tryd.prog 17 #[.pointer (some ⟨B, 0, none⟩), .int .i64 i, .int .i64 off, .slice p n c] w fun e w' => e = .returned (.int .i64 1) ∧ w = w' := by
  go_enter Tryd.func17, Tryd.ntmps17
  go_wp2_with (go_at_call 44; refine (part_out i off n _ h hp).mono ?_; rintro e w' ⟨⟨p, rfl⟩, rfl⟩)
  go_ret
  exact ⟨rfl, rfl⟩

theorem write_none {p : Option Addr} (i off : Int) (q : Option Addr) (n c : Nat) (w : World) (h : NoM w p) :
    Calls Tryd.prog 17 #[.pointer p, .int .i64 i, .int .i64 off, .slice q n c] w fun e w' => e = .returned (.int .i64 7) ∧ w = w' := by
  go_enter Tryd.func17, Tryd.ntmps17
  go_wp2_with (go_at_call 44; refine (part_none i off n _ h).mono ?_; rintro e w' ⟨rfl, rfl⟩)
  go_ret
  exact ⟨rfl, rfl⟩

theorem write_free {B F : Nat} {S : List Fr} (i off : Int) (p : Option Addr) (n c : Nat) (f : Fr) (w : World) (h : PhM w B F S) (hp : InP S i off n) (hf : S[i.toNat]? = some f) (ho : f.owner = -1) :
    Calls Tryd.prog 17 #[.pointer (some ⟨B, 0, none⟩), .int .i64 i, .int .i64 off, .slice p n c] w fun e w' => e = .returned (.int .i64 11) ∧ w = w' := by
  have hc : w.cell? ⟨F, i.toNat * 260, none⟩ = some (.int .i64 (-1)) := by have := h.cell hf 0 (by omega); rw [← ho]; exact this
  clear ho
  go_enter Tryd.func17, Tryd.ntmps17
  go_wp2_with (go_at_call 44; refine (part_in i off n _ h hp).mono ?_; rintro e w' ⟨rfl, rfl⟩)
  go_ret
  exact ⟨rfl, rfl⟩

set_option maxHeartbeats 400000 in
theorem write_in {B F : Nat} {S : List Fr} (i off : Int) (p : Option Addr) (n c : Nat) (bs : List Int) (f : Fr) (w : World) (h : PhM w B F S) (hl : bs.length = n) (hp : InP S i off n) (hf : S[i.toNat]? = some f) (ho : f.owner ≠ -1) (hs : Src w p bs) :
    Calls Tryd.prog 17 #[.pointer (some ⟨B, 0, none⟩), .int .i64 i, .int .i64 off, .slice p n c] w fun e w' =>
      e = .returned (.int .i64 0) ∧ Mod (One F) w w' ∧ PhM w' B F (S.set i.toNat { f with bytes := splice f.bytes off.toNat bs }) := by
  have hp' := hp
  obtain ⟨⟨hi0, hi1⟩, hof, hn, hz⟩ := hp
  obtain ⟨o, rfl⟩ := Int.eq_ofNat_of_zero_le hof
  obtain ⟨ad, had, hsl⟩ := slice_page o (i.toNat * 260 + 4) F (by omega)
  have hc : w.cell? ⟨F, i.toNat * 260, none⟩ = some (.int .i64 f.owner) := h.cell hf 0 (by omega)
  have d1 : (f.owner == -1) = false := beq_eq_false_iff_ne.2 ho
  obtain ⟨r, hr⟩ := h.row
  have hfit : o + bs.length ≤ 256 := by omega
  have hlt : i.toNat < S.length := (List.getElem?_eq_some_iff.1 hf).1
  have hlen := allCells_len h.ok
  have HL := Lib.hid hl; clear hl
  have HN := Lib.hid hlen; clear hlen
  have HR := Lib.hid hr; clear hr
  go_enter Tryd.func17, Tryd.ntmps17
  go_wp2_with (first
    | (go_at_call 44; refine (part_in i o n _ h hp').mono ?_; rintro e w' ⟨rfl, rfl⟩)
    | (with_reducible refine wpList_copy_row rfl _ _ _ _ rfl 5 Tryd.underlying22 Tryd.sizeU8 _ _ _ _ _ _ rfl rfl F (i.toNat * 260 + 4 + o) (allCells S ++ r) 115 HR.out (bs.map (Value.int .u8)) ?c2 ?c3 ?c4 (oneCell_u8 _) ?c5))
  case c2 => rw [List.length_map, HL.out]; exact (Nat.min_eq_left (by omega)).symm
  case c3 =>
    intro hpos
    rw [List.length_map] at hpos
    obtain ⟨a, rfl, ha⟩ := hs.cells hpos
    refine ⟨by rw [had (by omega)], a, rfl, ?_⟩
    intro j v hj
    rw [List.getElem?_map] at hj
    cases hb : bs[j]? with
    | none => rw [hb] at hj; cases hj
    | some b => rw [hb] at hj; cases hj; exact ha j b hb
  case c4 => rw [List.length_map, List.length_append, HN.out]; omega
  case c5 =>
    intro w' HG hm
    go_wp2
    go_ret
    exact ⟨rfl, hm, h.splice hf hfit hs.range HG.out hm⟩

/-- What a machine says of a frame. -/
theorem frame_in {B F : Nat} {S : List Fr} (i : Int) (f : Fr) (w : World) (h : PhM w B F S) (hi : 0 ≤ i) (hf : S[i.toNat]? = some f) :
    Calls Tryd.prog 59 #[.pointer (some ⟨B, 0, none⟩), .int .i64 i] w fun e w' =>
      e = .returned (.tuple #[.agg #[.int .i64 f.owner, .int .i64 f.type, .int .i64 f.count, .int .i64 f.total], .int .i64 0]) ∧ Mod No w w' := by
  have hlt : i.toNat < S.length := (List.getElem?_eq_some_iff.1 hf).1
  have c0 : w.cell? ⟨F, i.toNat * 260, none⟩ = some (.int .i64 f.owner) := h.cell hf 0 (by omega)
  have c1 : w.cell? ⟨F, i.toNat * 260 + 1, none⟩ = some (.int .i64 f.type) := h.cell hf 1 (by omega)
  have c2 : w.cell? ⟨F, i.toNat * 260 + 2, none⟩ = some (.int .i64 f.count) := h.cell hf 2 (by omega)
  have c3 : w.cell? ⟨F, i.toNat * 260 + 3, none⟩ = some (.int .i64 f.total) := h.cell hf 3 (by omega)
  go_enter Tryd.func59, Tryd.ntmps59
  have hF := h.ltF
  go_wp2_with (go_at_call 61; refine (at_in i _ (h.alloc _) hi (by omega)).mono ?_; rintro e w' ⟨rfl, rfl⟩)
  exact bodyPost_ret (v := .tuple #[.agg #[.int .i64 f.owner, .int .i64 f.type, .int .i64 f.count, .int .i64 f.total], .int .i64 0]) (by simp [results, Tryd.results59, go_sem]) rfl ⟨rfl, (Mod.refl _ _).alloc _⟩

theorem frame_out {B F : Nat} {S : List Fr} (i : Int) (w : World) (h : PhM w B F S) (hi : i < 0 ∨ (S.length : Int) ≤ i) :
    Calls Tryd.prog 59 #[.pointer (some ⟨B, 0, none⟩), .int .i64 i] w fun e w' =>
      e = .returned (.tuple #[.agg #[.int .i64 0, .int .i64 0, .int .i64 0, .int .i64 0], .int .i64 1]) ∧ Mod No w w' := by
  go_enter Tryd.func59, Tryd.ntmps59
  go_wp2_with (go_at_call 61; refine (at_out i _ (h.alloc _) hi).mono ?_; rintro e w' ⟨rfl, rfl⟩)
  exact bodyPost_ret (v := .tuple #[.agg #[.int .i64 0, .int .i64 0, .int .i64 0, .int .i64 0], .int .i64 1]) (by simp [results, Tryd.results59, go_sem]) rfl ⟨rfl, (Mod.refl _ _).alloc _⟩

theorem frame_none {p : Option Addr} (i : Int) (w : World) (h : NoM w p) :
    Calls Tryd.prog 59 #[.pointer p, .int .i64 i] w fun e w' =>
      e = .returned (.tuple #[.agg #[.int .i64 0, .int .i64 0, .int .i64 0, .int .i64 0], .int .i64 7]) ∧ Mod No w w' := by
  go_enter Tryd.func59, Tryd.ntmps59
  go_wp2_with (go_at_call 61; refine (at_none i _ (h.alloc _)).mono ?_; rintro e w' ⟨rfl, rfl⟩)
  exact bodyPost_ret (v := .tuple #[.agg #[.int .i64 0, .int .i64 0, .int .i64 0, .int .i64 0], .int .i64 7]) (by simp [results, Tryd.results59, go_sem]) rfl ⟨rfl, (Mod.refl _ _).alloc _⟩

end Go.Proofs.YtmdeljacbekbpaaDoor

/- phys.Machine: kinds, Get, Put, rest, Free, Give. -/
namespace Go.Proofs.YtmdeljacbekbpaaDoor
open Go.RowKit
set_option maxRecDepth 100000

/-- Why a frame must stay as it is. -/
def Fr.rest (f : Fr) : Int := if f.owner = -1 then 11 else if f.total = 0 then 0 else 9

def Fr.getErr (f : Fr) (owner kind : Int) : Int := if f.owner = -1 then 11 else if f.owner ≠ owner then 12 else if kind ≠ 0 ∧ f.type ≠ 0 ∧ f.type ≠ kind then 13 else 0
def Fr.got (f : Fr) (kind : Int) : Fr := if kind = 0 then { f with total := f.total + 1 } else { f with total := f.total + 1, type := kind, count := f.count + 1 }

theorem getErr_zero {f : Fr} {o k : Int} (h : f.getErr o k = 0) : f.owner ≠ -1 ∧ f.owner = o ∧ (k = 0 ∨ f.type = 0 ∨ f.type = k) := by
  unfold Fr.getErr at h
  split at h
  · omega
  split at h
  · omega
  split at h
  · omega
  rename_i a b c
  refine ⟨a, by simpa using b, ?_⟩
  by_cases h1 : k = 0
  · exact .inl h1
  by_cases h2 : f.type = 0
  · exact .inr (.inl h2)
  by_cases h3 : f.type = k
  · exact .inr (.inr h3)
  · exact absurd ⟨h1, h2, h3⟩ c

end Go.Proofs.YtmdeljacbekbpaaDoor

/- phys.Machine: Put. -/
namespace Go.Proofs.YtmdeljacbekbpaaDoor
open Go.RowKit
set_option maxRecDepth 100000

def Fr.putErr (f : Fr) (kind : Int) : Int := if kind = 0 then (if f.total = f.count then 14 else 0) else (if f.type = kind then 0 else 14)
def Fr.put (f : Fr) (kind : Int) : Fr :=
  let c := if kind = 0 then f.count else f.count - 1
  { f with total := f.total - 1, count := c, type := if c = 0 then 0 else f.type }

theorem putErr_zero {f : Fr} {k : Int} (h : f.putErr k = 0) : if k = 0 then f.total ≠ f.count else f.type = k := by
  unfold Fr.putErr at h
  split <;> rename_i hk
  · rw [if_pos hk] at h; split at h
    · omega
    · assumption
  · rw [if_neg hk] at h; split at h
    · assumption
    · omega

end Go.Proofs.YtmdeljacbekbpaaDoor

/- phys.Machine: Free, Give. -/
namespace Go.Proofs.YtmdeljacbekbpaaDoor
open Go.RowKit
set_option maxRecDepth 100000

theorem splice_cons {α : Type} (L : List α) (o : Nat) (v : α) (vs : List α) (h : o + 1 + vs.length ≤ L.length) : splice (L.set o v) (o + 1) vs = splice L o (v :: vs) := by
  unfold splice
  have h1 : (L.set o v).take (o + 1) = L.take o ++ [v] := by
    rw [List.take_succ_eq_append_getElem (by simp; omega), List.take_set_of_le (Nat.le_refl _)]
    simp
  have h2 : (L.set o v).drop (o + 1 + vs.length) = L.drop (o + (v :: vs).length) := by
    rw [List.drop_set_of_lt (by omega), show o + 1 + vs.length = o + (v :: vs).length by simp; omega]
  rw [h1, h2]; simp

theorem row_setCells {g : Nat} {t : TypeId} : ∀ (vs : List Value) (o : Nat) (L : List Value) (w : World), w.heap[g]? = some (.cells L.toArray t (0, 0)) → o + vs.length ≤ L.length →
    (w.setCells g o vs).heap[g]? = some (.cells (splice L o vs).toArray t (0, 0)) ∧ Mod (One g) w (w.setCells g o vs)
  | [], o, L, w, h, _ => ⟨by simpa [splice, World.setCells] using h, Mod.refl _ _⟩
  | v :: vs, o, L, w, h, hl => by
    simp only [List.length_cons] at hl
    have h1 := row_set h o v
    obtain ⟨h2, h3⟩ := row_setCells vs (o + 1) (L.set o v) (w.setCell ⟨g, o, none⟩ v) h1 (by simp; omega)
    rw [splice_cons L o v vs (by omega)] at h2
    exact ⟨h2, ((Mod.refl (One g) w).set1 o v).trans h3⟩

theorem allCells_put : ∀ {S : List Fr}, okS S → ∀ (i : Nat) (f f' : Fr), S[i]? = some f → f'.ok → splice (allCells S) (i * 260) f'.cells = allCells (S.set i f')
  | [], _, i, f, f', hi, _ => by simp at hi
  | g :: S, h, 0, f, f', hi, hf => by
    have hg := Fr.len (h g (by simp))
    simp only [allCells, List.flatMap_cons, Nat.zero_mul, List.set_cons_zero]
    rw [splice_append_left _ _ _ _ (by rw [hg, Fr.len hf]; omega)]
    congr 1
    unfold splice; simp [hg, Fr.len hf]
  | g :: S, h, i + 1, f, f', hi, hf => by
    have hg := Fr.len (h g (by simp))
    have ih := allCells_put (S := S) (fun g hg => h g (by simp [hg])) i f f' (by simpa using hi) hf
    simp only [allCells, List.flatMap_cons, List.set_cons_succ] at ih ⊢
    have e : (i + 1) * 260 = g.cells.length + i * 260 := by rw [hg]; omega
    rw [e, splice_append_right, ih]

/-- A whole frame is stored. -/
theorem PhM.put {w : World} {B F : Nat} {S : List Fr} (h : PhM w B F S) {i : Nat} {f f' : Fr} (hi : S[i]? = some f) (hf : f'.ok) :
    PhM (w.setCells F (i * 260) f'.cells) B F (S.set i f') ∧ Mod (One F) w (w.setCells F (i * 260) f'.cells) := by
  obtain ⟨c, hc, h1⟩ := h.head
  obtain ⟨r, h2⟩ := h.row
  have hl := allCells_len h.ok
  have hlt : i < S.length := (List.getElem?_eq_some_iff.1 hi).1
  have hcl := Fr.len hf
  obtain ⟨h3, hm⟩ := row_setCells (f'.cells) (i * 260) _ w h2 (by simp [hl, hcl]; omega)
  rw [splice_append_left _ _ _ _ (by rw [hl, hcl]; omega), allCells_put h.ok i f f' hi hf] at h3
  exact ⟨⟨okS_set h.ok i hf, by simpa using h.len, ⟨c, by simpa using hc, by rw [hm.blk h1 (fun e => h.ne e)]; simp⟩, ⟨r, h3⟩⟩, hm⟩

theorem PhM.there {w : World} {B F : Nat} {S : List Fr} (h : PhM w B F S) {i : Nat} {f : Fr} (hi : S[i]? = some f) : w.there F (i * 260) 260 := by
  intro j hj
  have hf := Fr.len (h.ok f (List.mem_of_getElem? hi))
  refine ⟨?_, h.free _⟩
  rw [h.cell hi j hj]
  simp [hf, hj]

/-- A free frame, scrubbed. -/
def freeFr : Fr := ⟨-1, 0, 0, 0, List.replicate 256 0⟩
theorem freeFr_ok : freeFr.ok := ⟨by simp [freeFr], fun b hb => by simp [freeFr] at hb; omega⟩
def freeAgg : Array Value := freeFr.cells.toArray
theorem build_free (w : World) : (Instr.build 115 #[(0, .agg #[.int .i64 (-1), .int .i64 0, .int .i64 0, .int .i64 0])]).run Tryd.prog w = .ok (.agg freeAgg) w := by kernel_rfl
theorem Tryd.sizeFrame : (Tryd.prog.info? 115).map (·.size) = some freeAgg.size := by kernel_rfl
theorem freeAgg_one : freeAgg.all (·.oneCell') = true := by kernel_rfl
theorem freeAgg_size : freeAgg.size = 260 := by kernel_rfl
theorem freeAgg_list : freeAgg.toList = freeFr.cells := rfl

theorem domain_yes (n : Int) (w : World) (h0 : 0 ≤ n) (h1 : n < 8) : Calls Tryd.prog 55 #[.int .i64 n] w fun e w' => e = .returned (.bool true) ∧ w = w' := by
  have d1 : decide (0 ≤ n) = true := decide_eq_true h0
  have d2 : decide (n < 8) = true := decide_eq_true h1
  go_enter Tryd.func55, Tryd.ntmps55
  go_wp2
  go_ret
  exact ⟨rfl, rfl⟩

theorem domain_no (n : Int) (w : World) (h : n < 0 ∨ 8 ≤ n) : Calls Tryd.prog 55 #[.int .i64 n] w fun e w' => e = .returned (.bool false) ∧ w = w' := by
  by_cases c : 0 ≤ n
  · have d1 : decide (0 ≤ n) = true := decide_eq_true c
    have d2 : decide (n < 8) = false := decide_eq_false (by omega)
    go_enter Tryd.func55, Tryd.ntmps55
    go_wp2
    go_ret
    exact ⟨rfl, rfl⟩
  · have d1 : decide (0 ≤ n) = false := decide_eq_false c
    go_enter Tryd.func55, Tryd.ntmps55
    go_wp2
    go_ret
    exact ⟨rfl, rfl⟩

end Go.Proofs.YtmdeljacbekbpaaDoor

/- phys.New. -/
namespace Go.Proofs.YtmdeljacbekbpaaDoor
open Go.RowKit
set_option maxRecDepth 100000

def zeroFr : Fr := ⟨0, 0, 0, 0, List.replicate 256 0⟩
theorem zeroFr_ok : zeroFr.ok := ⟨by simp [zeroFr], fun b hb => by simp [zeroFr] at hb; omega⟩
theorem okS_replicate (n : Nat) {f : Fr} (h : f.ok) : okS (List.replicate n f) := fun g hg => by simp at hg; rw [hg.2]; exact h

theorem made_frames (n : Nat) : madeCells zeroFr.cells.toArray (n * 260) = (allCells (List.replicate n zeroFr)).toArray := by
  have hz : zeroFr.cells.toArray.size = 260 := by simp [Fr.len zeroFr_ok]
  have hl := allCells_len (okS_replicate n zeroFr_ok)
  rw [List.length_replicate] at hl
  apply Array.ext
  · rw [size_madeCells, List.size_toArray, hl]
  · intro j h1 h2
    rw [size_madeCells] at h1
    have hg := allCells_get (okS_replicate n zeroFr_ok) (j / 260) (j % 260) zeroFr (by rw [List.getElem?_replicate, if_pos (show j / 260 < n by omega)]) (by omega)
    rw [show j / 260 * 260 + j % 260 = j by omega] at hg
    have h3 : j < (allCells (List.replicate n zeroFr)).length := by rw [hl]; exact h1
    rw [List.getElem?_eq_getElem h3] at hg
    have h4 : j % 260 < zeroFr.cells.length := by rw [Fr.len zeroFr_ok]; omega
    rw [List.getElem?_eq_getElem h4] at hg
    simp only [madeCells, Array.getElem_map, Array.getElem_range, hz, List.getElem_toArray]
    rw [Option.some.inj hg]
    simp [h4]

theorem Tryd.infoFrame : (Tryd.prog.info? 115).map (fun i => (i.zero, i.size, i.bytes)) = some (some (.agg zeroFr.cells.toArray), 260, 288) := by kernel_rfl

theorem make_frames (n : Nat) (hn : n ≤ 256) (w : World) :
    (Instr.makeSlice 118 (.int .i64 (n : Int)) (.int .i64 (n : Int))).run Tryd.prog w = .ok (.slice (some ⟨w.heap.size, 0, none⟩) n n) (w.alloc (.cells (allCells (List.replicate n zeroFr)).toArray 115)) := by
  obtain ⟨i, hi, hz0, hz1, hz2⟩ := info_parts Tryd.infoFrame
  have hr := run_make (P := Tryd.prog) w 118 115 i _ Tryd.underlying118 hi hz0 .i64 .i64 n n (by omega) (by omega) (by rw [hz2]; omega) (by omega)
  rw [hz1] at hr
  simp only [Int.toNat_natCast, Value.cells] at hr
  rw [made_frames] at hr
  exact hr

theorem new_out (n : Int) (w : World) (h : n < 1 ∨ 256 < n) :
    Calls Tryd.prog 22 #[.int .i64 n] w fun e w' => e = .returned (.tuple #[.pointer none, .int .i64 1]) ∧ w = w' := by
  by_cases c : n < 1
  · have d1 : decide (n < 1) = true := decide_eq_true c
    go_enter Tryd.func22, Tryd.ntmps22
    go_wp2
    go_ret2
    exact ⟨rfl, rfl⟩
  · have d1 : decide (n < 1) = false := decide_eq_false c
    have d2 : decide (256 < n) = true := decide_eq_true (by omega)
    go_enter Tryd.func22, Tryd.ntmps22
    go_wp2
    go_ret2
    exact ⟨rfl, rfl⟩

/-- k frames free, the others as they were made. -/
def newS (n k : Nat) : List Fr := List.replicate k freeFr ++ List.replicate (n - k) zeroFr
theorem newS_len (n k : Nat) (h : k ≤ n) : (newS n k).length = n := by simp [newS]; omega
theorem newS_get (n k : Nat) (h : k < n) : (newS n k)[k]? = some zeroFr := by
  unfold newS
  rw [List.getElem?_append_right (by simp), List.length_replicate, Nat.sub_self, List.getElem?_replicate, if_pos (by omega)]
theorem newS_set (n k : Nat) (h : k < n) : (newS n k).set k freeFr = newS n (k + 1) := by
  unfold newS
  rw [List.set_append_right _ _ (by simp), List.length_replicate, Nat.sub_self]
  obtain ⟨m, hm⟩ : ∃ m, n - k = m + 1 := ⟨n - k - 1, by omega⟩
  rw [hm, show n - (k + 1) = m by omega, List.replicate_succ (n := m), List.replicate_succ' (n := k), List.set_cons_zero, List.append_assoc]
  rfl
theorem newS_ok (n k : Nat) : okS (newS n k) := by
  intro g hg
  simp only [newS, List.mem_append] at hg
  rcases hg with hg | hg
  · exact okS_replicate _ freeFr_ok g hg
  · exact okS_replicate _ zeroFr_ok g hg

set_option maxHeartbeats 800000 in
theorem new_in (n : Nat) (w : World) (h0 : 1 ≤ n) (h1 : n ≤ 256) :
    Calls Tryd.prog 22 #[.int .i64 (n : Int)] w fun e w' => ∃ B F, e = .returned (.tuple #[.pointer (some ⟨B, 0, none⟩), .int .i64 0]) ∧ w.heap.size ≤ B ∧ w.heap.size ≤ F ∧ Mod No w w' ∧ PhM w' B F (List.replicate n freeFr) := by
  have d1 : decide ((n : Int) < 1) = false := decide_eq_false (by omega)
  have d2 : decide ((256 : Int) < n) = false := decide_eq_false (by omega)
  have hmk := make_frames n h1
  go_enter Tryd.func22, Tryd.ntmps22
  go_wp2
  go_loopw [21] (fun v wr => ∃ k : Nat, k ≤ n ∧ v = .int .i64 k ∧ Mod No w wr ∧ PhM wr (w.heap.size + 1) w.heap.size (newS n k)) (fun v _ => n - (intOf v).toNat)
  case atStart =>
    refine ⟨0, Nat.zero_le _, rfl, ((Mod.refl No w).alloc _).alloc _, ⟨newS_ok n 0, by rw [newS_len n 0 (by omega)]; exact ⟨h0, h1⟩, ⟨n, by rw [newS_len n 0 (by omega)]; exact Nat.le_refl _, ?_⟩, ⟨[], ?_⟩⟩⟩
    · rw [newS_len n 0 (by omega), heap_alloc2_new]
    · rw [heap_alloc2_old]; simp [newS]
  case round =>
    obtain ⟨k, hk, rfl, hm, hP⟩ := hrel
    by_cases hlt : k < n
    · obtain ⟨c, hc, hfr⟩ := hP.frames
      rw [newS_len n k hk] at hfr
      have hfz := hP.free (k * 260)
      have hcl : wr.cell? ⟨w.heap.size, k * 260, none⟩ = some (.int .i64 0) := hP.cell (newS_get n k hlt) 0 (by omega)
      have hs := hP.set (newS_get n k hlt) freeFr_ok 0 (by omega) (v := .int .i64 (-1)) rfl
      rw [newS_set n k hlt] at hs
      have HS := Lib.hid hs; clear hs
      go_wp2
      go_roundw
      case rel => exact ⟨k + 1, by omega, by go_num, hm.setCell (p := ⟨w.heap.size, k * 260, none⟩) (fun h => absurd h (by simp)) _, HS.out⟩
      case measure => simp [intOf]; omega
    · obtain rfl : k = n := by omega
      go_wp2
      go_ret2
      refine ⟨w.heap.size + 1, w.heap.size, rfl, by omega, by omega, hm, ?_⟩
      simpa [newS] using hP

end Go.Proofs.YtmdeljacbekbpaaDoor
