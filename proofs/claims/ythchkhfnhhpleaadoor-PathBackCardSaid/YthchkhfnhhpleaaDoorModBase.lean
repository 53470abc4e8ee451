/- What a step of the program may change in memory. -/
import Derived.WalkKit
import Derived.Laws.CopyOwn
import Derived.Lib.Hide
import Derived.Deep.Draws
import Derived.Test.YthchkhfnhhpleaaDoorProg
import Derived.Deep.OwnRows
import Derived.Deep.QuietTactic
import Derived.BigQuiet
import Derived.Deep.MidRow
/- What a step of the program may change in memory, block by block; small laws on blocks. -/
namespace Go.Proofs.YthchkhfnhhpleaaDoor
open Go.RowKit

/-- Of the blocks that were there only those of which P holds may have changed. -/
structure Mod (P : Nat → Prop) (w w' : World) : Prop where
  os : w'.os = w.os
  tape : w'.tape = w.tape
  output : w'.output = w.output
  size : w.heap.size ≤ w'.heap.size
  block : ∀ k, k < w.heap.size → ¬ P k → w'.heap[k]? = w.heap[k]?

def No : Nat → Prop := fun _ => False
def One (b : Nat) : Nat → Prop := fun k => k = b

theorem Mod.refl (P : Nat → Prop) (w : World) : Mod P w w := ⟨rfl, rfl, rfl, Nat.le_refl _, fun _ _ _ => rfl⟩

/-- A second step: what it changes was let go, or is new. -/
theorem Mod.step {P Q : Nat → Prop} {a b c : World} (h : Mod P a b) (k : Mod Q b c) (hq : ∀ i, i < a.heap.size → Q i → P i) : Mod P a c :=
  ⟨k.os.trans h.os, k.tape.trans h.tape, k.output.trans h.output, Nat.le_trans h.size k.size,
    fun i hi hn => (k.block i (Nat.lt_of_lt_of_le hi h.size) (fun q => hn (hq i hi q))).trans (h.block i hi hn)⟩

theorem Mod.trans {P : Nat → Prop} {a b c : World} (h : Mod P a b) (k : Mod P b c) : Mod P a c := h.step k (fun _ _ p => p)

theorem Mod.mono {P Q : Nat → Prop} {a b : World} (h : Mod P a b) (hq : ∀ i, i < a.heap.size → P i → Q i) : Mod Q a b :=
  ⟨h.os, h.tape, h.output, h.size, fun i hi hn => h.block i hi (fun p => hn (hq i hi p))⟩

theorem Mod.of_no {Q : Nat → Prop} {a b : World} (h : Mod No a b) : Mod Q a b := h.mono (fun _ _ p => p.elim)

theorem Mod.alloc {P : Nat → Prop} {a w : World} (h : Mod P a w) (o : Obj) : Mod P a (w.alloc o) :=
  h.step (Q := No) ⟨rfl, rfl, rfl, by simp, fun k hk _ => Below.heap_alloc w o k hk⟩ (fun _ _ q => q.elim)

theorem Mod.drew {P : Nat → Prop} {a w : World} (h : Mod P a w) : Mod P a w.drew := ⟨h.os, h.tape, h.output, h.size, h.block⟩

theorem Mod.drewN {P : Nat → Prop} {a w : World} (h : Mod P a w) (n : Nat) : Mod P a (w.drewN n) := ⟨h.os, h.tape, h.output, h.size, h.block⟩

theorem Mod.setCell {P : Nat → Prop} {a w : World} (h : Mod P a w) {p : Addr} (hp : p.block < a.heap.size → P p.block) (v : Value) : Mod P a (w.setCell p v) :=
  h.step (Q := One p.block) ⟨rfl, rfl, rfl, by simp [World.setCell], fun k _ hn => heap_setCell_other w p k v hn⟩ (fun _ hi q => q ▸ hp (q ▸ hi))

theorem Mod.set1 {F : Nat} {a w : World} (h : Mod (One F) a w) (o : Nat) (v : Value) : Mod (One F) a (w.setCell ⟨F, o, none⟩ v) := h.setCell (p := ⟨F, o, none⟩) (fun _ => rfl) v

theorem Mod.setRow {P : Nat → Prop} {a w : World} (h : Mod P a w) {g : Nat} (hp : g < a.heap.size → P g) (cs : Array Value) : Mod P a (w.setRow g cs) :=
  h.step (Q := One g) ⟨rfl, rfl, rfl, by simp [World.setRow], fun k _ hn => setRow_other w g k cs hn⟩ (fun _ hi q => q ▸ hp (q ▸ hi))

theorem Mod.grown {P : Nat → Prop} {a w w' : World} {row : Option Nat} (h : Mod P a w) (hg : w.grownBy w' row) (hp : ∀ k, row = some k → k < a.heap.size → P k) : Mod P a w' :=
  h.step (Q := fun k => some k = row) ⟨hg.os, hg.tape, hg.output, hg.size, fun k hk hn => hg.block k hk hn⟩ (fun i hi q => hp i q.symm hi)

theorem Mod.of_below {P : Nat → Prop} {w w' : World} (h : Below w.heap.size w w') : Mod P w w' := ⟨h.os, h.tape, h.output, h.size, fun k hk _ => h.block k hk⟩

theorem Mod.below {P : Nat → Prop} {w w' : World} {B : Nat} (h : Mod P w w') (hB : B ≤ w.heap.size) (hp : ∀ k, P k → B ≤ k) : Below B w w' :=
  ⟨h.os, h.tape, h.output, h.size, fun k hk => h.block k (Nat.lt_of_lt_of_le hk hB) (fun p => by have := hp k p; omega)⟩

theorem Mod.no_below {w w' : World} (h : Mod No w w') : Below w.heap.size w w' := h.below (Nat.le_refl _) (fun _ p => p.elim)

theorem lt_of_blk {w : World} {b : Nat} {o : Obj} (h : w.heap[b]? = some o) : b < w.heap.size := (Array.getElem?_eq_some_iff.1 h).1

theorem Mod.blk {P : Nat → Prop} {w w' : World} (h : Mod P w w') {b : Nat} {o : Obj} (hb : w.heap[b]? = some o) (hn : ¬ P b) : w'.heap[b]? = some o :=
  (h.block b (lt_of_blk hb) hn).trans hb

theorem blk_alloc {w : World} {b : Nat} {o : Obj} (h : w.heap[b]? = some o) (x : Obj) : (w.alloc x).heap[b]? = some o := (Below.heap_alloc w x b (lt_of_blk h)).trans h
theorem blk_setCell {w : World} {b : Nat} {o : Obj} (h : w.heap[b]? = some o) {p : Addr} (hp : b ≠ p.block) (v : Value) : (w.setCell p v).heap[b]? = some o := (heap_setCell_other w p b v hp).trans h

/-- A row's cell, and that it may be written. -/
theorem row_cell {w : World} {g : Nat} {l : List Value} {t : TypeId} (hg : w.heap[g]? = some (.cells l.toArray t (0, 0))) (j : Nat) : w.cell? ⟨g, j, none⟩ = l[j]? := by
  rw [cell_of_row w g j _ t (0, 0) hg]; simp
theorem row_free {w : World} {g : Nat} {l : List Value} {t : TypeId} (hg : w.heap[g]? = some (.cells l.toArray t (0, 0))) (j : Nat) : w.frozen? ⟨g, j, none⟩ = false := frozen_of_row w g j _ t hg
theorem row_set {w : World} {g : Nat} {l : List Value} {t : TypeId} (hg : w.heap[g]? = some (.cells l.toArray t (0, 0))) (j : Nat) (v : Value) :
    (w.setCell ⟨g, j, none⟩ v).heap[g]? = some (.cells (l.set j v).toArray t (0, 0)) := by
  rw [heap_setCell_same w g j _ t v hg]; simp

/-- copy into a row that is known whole: the place and the cells are given. -/
theorem wpList_copy_row {P : Program} {w : World} {ops : Array Oper} {rest : List Oper} {o : Oper} {a : Act} {Q : Exit → Act → World → Prop} (hgd : o.guard = none) (d s : Operand) (dT sT : TypeId)
    (ho : o.op = .call { callee := .builtin .copy, args := #[d, s], argTypes := #[dT, sT] }) (elem : TypeId) (hu : P.underlying dT = some (.slice elem)) (hsz : (P.info? elem).map (·.size) = some 1)
    (dp sp : Option Addr) (dLen dCap sLen sCap : Nat) (hd : a.eval d = .slice dp dLen dCap) (hs : a.eval s = .slice sp sLen sCap)
    (g off : Nat) (cur : List Value) (t : TypeId) (hg : w.heap[g]? = some (.cells cur.toArray t (0, 0))) (cs : List Value) (hn : cs.length = Nat.min sLen dLen)
    (hpos : 0 < cs.length → dp = some ⟨g, off, none⟩ ∧ ∃ ad, sp = some ad ∧ ∀ j v, cs[j]? = some v → w.cell? (ad.add j) = some v)
    (hfit : off + cs.length ≤ cur.length) (h1 : ∀ v ∈ cs, v.oneCell' = true)
    (h : ∀ w', Hid (w'.heap[g]? = some (.cells (splice cur off cs).toArray t (0, 0))) → Mod (One g) w w' → wpList P ops Q rest (a.put o.dst (goInt cs.length)) w') :
    wpList P ops Q (o :: rest) a w := by
  by_cases h0 : cs.length = 0
  · obtain rfl : cs = [] := List.eq_nil_of_length_eq_zero h0
    refine wpList_copy_nothing hgd d s dT sT ho elem hu hsz dp sp dLen dCap sLen sCap hd hs (by simpa using hn.symm) ?_
    exact h w (show _ = _ by simpa [splice] using hg) (Mod.refl _ _)
  · obtain ⟨rfl, ad, rfl, hsrc⟩ := hpos (by omega)
    refine wpList_copy_own hgd d s dT sT ho elem hu hsz g off dLen dCap ad sLen sCap hd hs cur.toArray t hg cs hn hsrc (by simpa using hfit) h1 ?_
    exact h _ (show _ = _ by simpa [splice] using setRow_heap w g _ _ t _ hg) ((Mod.refl (One g) w).setRow (fun _ => rfl) _)

theorem oneCell_u8 (l : List Int) : ∀ v ∈ l.map (Value.int .u8), v.oneCell' = true := by
  intro v hv; obtain ⟨n, _, rfl⟩ := List.mem_map.1 hv; rfl

end Go.Proofs.YthchkhfnhhpleaaDoor
