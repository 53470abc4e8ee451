/- A map of slices, by whole numbers, that the call has made: m[k] = append(m[k], v), whatever the elements are. A view in memory: the machine, rewrites by the read ahead of which they come, how many reads there were. view.View: the rewrites that are due; Read, Word, Write. view.View: Read's two ways, Word, Write. view.New. A machine with a view, and two of them side by side. -/
import Derived.Maps.OwnOps
import Derived.Maps.AppendAt
import Derived.Maps.RangeWalk
import Derived.Maps.Views
import Derived.WalkKit
import Derived.Test.YtmdeljacbekbpaaDoorPhysG
import Derived.Test.YtmdeljacbekbpaaDoorOpenPk
import Derived.Laws.EntriesVeiled
import Derived.Laws.BitsAllLaws
import Derived.Deep.QuietTactic
import Derived.BigQuiet
import Derived.Test.YtmdeljacbekbpaaDoorPhysH
import Derived.Carry
import Derived.Deep.RegionLaw
import Derived.Deep.DeepCutAuto
import Derived.Deep.CutRange
import Derived.Deep.CutBlock
import Derived.Outline
import Derived.Laws.AppendOwnNone
import Derived.Test.YtmdeljacbekbpaaDoorBothG
/- A map of slices, by whole numbers, that the call has made: m[k] = append(m[k], v), whatever the elements are. -/
namespace Go.Proofs.YtmdeljacbekbpaaDoor
open Go.RowKit Go.Maps

/-- How a slice reads, as an element: by its header alone. -/
def sliceElem (v : Value) : Option (DataW Unit × List MemPlace) :=
  match v with
  | .slice none 0 0 => some (.nil, [])
  | .slice (some ⟨g, 0, none⟩) n c => some (.slice [.lit (.int .i64 g), .lit (.int .i64 n), .lit (.int .i64 c)] [], [])
  | _ => none

theorem sliceElem_nil {v : Value} (h : sliceElem v = some (.nil, [])) : v = .slice none 0 0 := by
  unfold sliceElem at h
  split at h
  · rfl
  · simp at h
  · cases h
theorem sliceElem_inj {v v' : Value} {z : DataW Unit × List MemPlace} (h : sliceElem v = some z) (h' : sliceElem v' = some z) : v = v' := by
  unfold sliceElem at h h'
  split at h
  · cases h
    split at h'
    · rfl
    · simp at h'
    · cases h'
  · cases h
    split at h'
    · simp at h'
    · simp only [Option.some.injEq, Prod.mk.injEq, DataW.slice.injEq, List.cons.injEq, DataW.lit.injEq, Lit.int.injEq, true_and, and_true] at h'
      obtain ⟨a, b, c⟩ := h'
      have a := Int.ofNat.inj a
      have b := Int.ofNat.inj b
      have c := Int.ofNat.inj c
      subst a; subst b; subst c; rfl
    · cases h'
  · cases h
theorem sliceElem_shape {v : Value} {y : DataW Unit × List MemPlace} (h : sliceElem v = some y) : ∃ c : Option Addr × Nat × Nat, v = .slice c.1 c.2.1 c.2.2 := by
  unfold sliceElem at h
  split at h
  · exact ⟨(none, 0, 0), rfl⟩
  · exact ⟨(_, _, _), rfl⟩
  · cases h
theorem sliceElem_places {v : Value} {d : DataW Unit} {ps : List MemPlace} (h : sliceElem v = some (d, ps)) : ps = [] := by
  unfold sliceElem at h
  split at h
  · exact (Prod.mk.inj (Option.some.inj h)).2.symm
  · exact (Prod.mk.inj (Option.some.inj h)).2.symm
  · cases h
theorem sliceElem_own {w : World} {base : Nat} {e : TypeId} {size : Nat} {v : Value} {n : Nat} {xs : List Value} (h : w.ownsRow base e size v n xs) : ∃ d, sliceElem v = some (d, []) := by
  rcases h.2 with ⟨rfl, _⟩ | ⟨g, cap, cur, rfl, _⟩
  · exact ⟨_, rfl⟩
  · exact ⟨_, rfl⟩

structure Due (P : Program) (K : TypeId) (w : World) (b base : Nat) (e : TypeId) (n : Nat) (D : DataW Unit) (sl : Int → Value) (cl : Int → List Value) : Prop where
  map : w.ownsMap P K sliceElem b n D
  lt : b < base
  read : ∀ k, sliceElem (sl k) = some (D.atKey (.int .i64 k) .nil, [])
  row : ∀ k, w.ownsRow base e 1 (sl k) (cl k).length (cl k)
  apart : ∀ k k', k ≠ k' → (sl k).ownBlock = none ∨ (sl k).ownBlock ≠ (sl k').ownBlock
  isMap : IsMap D

variable {P : Program} {K e : TypeId} {w : World} {b base n : Nat} {D : DataW Unit} {sl : Int → Value} {cl : Int → List Value}

theorem atKey_empty (k : Lit) (z : DataW Unit) : (DataW.map [] : DataW Unit).atKey k z = z := atKey_of_not_has rfl z

theorem Due.made (P : Program) (K e : TypeId) (w : World) : Due P K (w.alloc (.map #[] 0)) w.heap.size (w.heap.size + 1) e 0 (.map []) (fun _ => .slice none 0 0) (fun _ => []) :=
  ⟨World.ownsMap_made _ _ _ _, Nat.lt_succ_self _, fun k => by rw [atKey_empty]; rfl, fun _ => World.ownsRow_nil _ _ _ _, fun _ _ _ => .inl rfl, ⟨[], rfl⟩⟩

theorem Due.not_has (h : Due P K w b base e n D sl cl) {k : Int} (hk : has D (.int .i64 k) = false) : sl k = .slice none 0 0 ∧ cl k = [] := by
  have h1 := h.read k
  rw [atKey_of_not_has hk] at h1
  have h2 := sliceElem_nil h1
  refine ⟨h2, ?_⟩
  rcases (h.row k).2 with ⟨_, h0⟩ | ⟨g, cap, cur, hv, _⟩
  · exact List.eq_nil_of_length_eq_zero h0
  · rw [h2] at hv; cases hv

/-- It stays where its blocks do. -/
theorem Due.kept {w' : World} {Q : Nat → Prop} (h : Due P K w b base e n D sl cl) (hm : Mod Q w w') (hb : ¬ Q b) (hq : ∀ k i, (sl k).ownBlock = some i → ¬ Q i) : Due P K w' b base e n D sl cl := by
  refine ⟨?_, h.lt, h.read, fun k => own_mod (h.row k) hm (fun i hi => hq k i hi), h.apart, h.isMap⟩
  have hlt := h.map.lt
  obtain ⟨es, clock, hb', F, hs, hD⟩ := h.map
  exact ⟨es, clock, (hm.block b hlt hb).trans hb', F, hs, hD⟩
theorem Due.keptNo {w' : World} (h : Due P K w b base e n D sl cl) (hm : Mod No w w') : Due P K w' b base e n D sl cl := h.kept hm (fun q => q) (fun _ _ _ q => q)

/-- The look-up. -/
theorem Due.look {T : TypeId} (h : Due P K w b base e n D sl cl) (L : Keyed P K) (hk : P.underlying K = some (.int .i64)) {E : TypeId} (ht : P.underlying T = some (.map K E)) (hz : (zeroValue E).run P w = .ok (.slice none 0 0) w) (k : Int) (hw : (Lit.int .i64 k).wf = true) :
    (Instr.lookup T (.map (some b)) (.int .i64 k) false).run P w = .ok (sl k) w := by
  obtain ⟨v, ps, hrun, hv⟩ := h.map.lookup L ht hz (zd := .nil) (zp := []) rfl (keyOf_int_mk hk hw)
  have hr := h.read k
  have : ps = [] := sliceElem_places hv
  subst this
  rw [sliceElem_inj hr hv]
  exact hrun

/-- Behind 'append(m[k], c)': the new slice; then the store. -/
theorem Due.stored {w1 : World} {T : TypeId} (h : Due P K w b base e n D sl cl) (L : Keyed P K) (hk : P.underlying K = some (.int .i64)) {E : TypeId} (ht : P.underlying T = some (.map K E)) (hn : n < maxLen) (k : Int) (hw : (Lit.int .i64 k).wf = true)
    {c v' : Value} (hown : w1.ownsRow base e 1 v' ((cl k).length + 1) (cl k ++ [c])) (hg : w.grownBy w1 (sl k).ownBlock) (hat : v'.ownBlock = (sl k).ownBlock ∨ ∃ i, v'.ownBlock = some i ∧ w.heap.size ≤ i) :
    ∃ w2 D', (Instr.mapUpdate T (.map (some b)) (.int .i64 k) v').run P w1 = .ok () w2 ∧ Due P K w2 b base e (n + 1) D' (fun j => if j = k then v' else sl j) (fun j => if j = k then cl k ++ [c] else cl j) ∧ w1.grownBy w2 (some b) := by
  obtain ⟨d, hd⟩ := sliceElem_own hown
  have hbk : ∀ j, some b ≠ (sl j).ownBlock := by
    intro j q
    have := ((h.row j).lt b q.symm).1
    have := h.lt
    omega
  obtain ⟨w2, hrun, hm2, hg2⟩ := (h.map.kept hg (hbk k)).update L ht hn (keyOf_int_mk hk hw) hd
  refine ⟨w2, _, hrun, ⟨hm2, h.lt, ?_, ?_, ?_, h.isMap.put _ _⟩, hg2⟩
  · intro j
    by_cases e : j = k
    · subst e
      rw [if_pos rfl]
      rw [atKey_put_same h.isMap (by trivial), hd]
    · rw [if_neg e, atKey_put_other (by simpa using e)]
      exact h.read j
  · intro j
    by_cases e : j = k
    · rw [if_pos e, if_pos e]
      have hb' : v'.ownBlock = none ∨ v'.ownBlock ≠ some b := by
        cases hv : v'.ownBlock with
        | none => exact .inl rfl
        | some i => right; intro q; have := (hown.lt i hv).1; have := h.lt; cases q; omega
      have := hown.kept hg2 hb'
      simpa using this
    · rw [if_neg e, if_neg e]
      exact ((h.row j).kept hg (h.apart j k e)).kept hg2 (.inr (fun q => hbk j q.symm))
  · intro j j' hne
    have hold : ∀ i, (sl i).ownBlock = none ∨ (∃ x, (sl i).ownBlock = some x ∧ x < w.heap.size) := by
      intro i
      cases hv : (sl i).ownBlock with
      | none => exact .inl rfl
      | some x => exact .inr ⟨x, rfl, ((h.row i).lt x hv).2⟩
    by_cases e : j = k
    · rw [if_pos e, if_neg (by rintro rfl; exact hne e)]
      rcases hat with q | ⟨i, q, hi⟩
      · rw [q]; exact h.apart k j' (by rintro rfl; exact hne e)
      · right
        rw [q]
        intro r
        rcases hold j' with r2 | ⟨x, r2, hx⟩
        · rw [r2] at r; cases r
        · rw [r2] at r; cases r; omega
    · rw [if_neg e]
      by_cases e' : j' = k
      · rw [if_pos e']
        rcases hat with q | ⟨i, q, hi⟩
        · rw [q]; exact h.apart j k e
        · rcases hold j with r2 | ⟨x, r2, hx⟩
          · exact .inl r2
          · right; rw [r2, q]; intro r; cases r; omega
      · rw [if_neg e']; exact h.apart j j' hne

end Go.Proofs.YtmdeljacbekbpaaDoor

/- A view in memory: the machine, rewrites by the read ahead of which they come, how many reads there were. -/
namespace Go.Proofs.YtmdeljacbekbpaaDoor
open Go.RowKit Go.Maps
set_option maxRecDepth 100000

/-- What a rewrite does to the frames. -/
def pokeS (S : List Fr) (mfn off : Int) (bs : List Int) : List Fr :=
  if 0 ≤ mfn then match S[mfn.toNat]? with
    | some f => if (0 ≤ f.owner ∧ f.type ≠ 2 ∧ f.type ≠ 3) ∧ 0 ≤ off ∧ off + bs.length ≤ 256 then S.set mfn.toNat { f with bytes := splice f.bytes off.toNat bs } else S
    | none => S
  else S
theorem pokeS_len (S : List Fr) (mfn off : Int) (bs : List Int) : (pokeS S mfn off bs).length = S.length := by
  unfold pokeS
  split
  · split
    · split
      · simp
      · rfl
    · rfl
  · rfl

def Pk.poke (p : Pk) (S : List Fr) : List Fr := pokeS S p.mfn p.off p.bs
/-- All rewrites of a list. -/
def pokes (l : List Pk) (S : List Fr) : List Fr := l.foldl (fun S p => p.poke S) S
theorem pokes_len : ∀ (l : List Pk) (S : List Fr), (pokes l S).length = S.length
  | [], _ => rfl
  | p :: l, S => (pokes_len l (p.poke S)).trans (pokeS_len S p.mfn p.off p.bs)
/-- Those that are due ahead of read number N. -/
def dueAt (l : List Pk) (N : Int) : List Pk := l.filter fun p => p.at_ == N

def cloVal (vb pb bb : Nat) : Value := .func (.func 36) #[] #[.pointer (some ⟨vb, 0, none⟩), .pointer (some ⟨pb, 0, none⟩), .pointer (some ⟨bb, 0, none⟩)]

/-- A rewrite as a function value; its blocks lie from base on, below top. -/
structure Clo (w : World) (base top vb : Nat) (p : Pk) (v : Value) (pb bb : Nat) (q : Option Addr) (n c : Nat) : Prop where
  val : v = cloVal vb pb bb
  pbR : base ≤ pb ∧ pb < top
  bbR : base ≤ bb ∧ bb < top
  poke : w.heap[pb]? = some (.cells p.cells.toArray 99 (0, 0))
  box : w.heap[bb]? = some (.cells #[.slice q n c] 22 (0, 0))
  own : w.ownsRow base 5 1 (.slice q n c) p.bs.length (p.bs.map (Value.int .u8))
  top : ∀ i, (Value.slice q n c).ownBlock = some i → i < top
  range : ∀ x ∈ p.bs, 0 ≤ x ∧ x ≤ 255
def IsClo (w : World) (base top vb : Nat) (p : Pk) (v : Value) : Prop := ∃ pb bb q n c, Clo w base top vb p v pb bb q n c

/-- No view's own cells. -/
def NotV (o : Obj) : Prop := ∀ cs fz, o ≠ .cells cs 97 fz
theorem notV_cells {cs : Array Value} {t : TypeId} {fz : Nat × Nat} (h : t ≠ 97) : NotV (.cells cs t fz) := by
  intro cs' fz' e
  simp only [Obj.cells.injEq] at e
  exact h e.2.1
theorem own_some {w : World} {n₀ : Nat} {e : TypeId} {size : Nat} {v : Value} {k i : Nat} {xs : List Value} (h : w.ownsRow n₀ e size v k xs) (hi : v.ownBlock = some i) : ∃ cur, w.heap[i]? = some (.cells cur e (0, 0)) := by
  rcases h.2 with ⟨rfl, _⟩ | ⟨g, cap, cur, rfl, _, hr, _⟩
  · cases hi
  · cases hi; exact ⟨cur, hr⟩

/-- What may have changed: none of these blocks. -/
def Keeps (Q : Nat → Prop) (w : World) (base top : Nat) : Prop := ∀ i o, base ≤ i → i < top → w.heap[i]? = some o → NotV o → ¬ Q i

/-- Cells that are neither a view's own nor function values. -/
def Soft (o : Obj) : Prop := ∃ cs t fz, o = .cells cs t fz ∧ t ≠ 97 ∧ t ≠ 1
theorem soft_cells {cs : Array Value} {t : TypeId} {fz : Nat × Nat} (h : t ≠ 97) (h2 : t ≠ 1) : Soft (.cells cs t fz) := ⟨cs, t, fz, rfl, h, h2⟩
def KeepsS (Q : Nat → Prop) (w : World) (base top : Nat) : Prop := ∀ i o, base ≤ i → i < top → w.heap[i]? = some o → Soft o → ¬ Q i
theorem Keeps.soft {Q : Nat → Prop} {w : World} {base top : Nat} (h : Keeps Q w base top) : KeepsS Q w base top := by
  rintro i o h1 h2 h3 ⟨cs, t, fz, rfl, h4, _⟩
  exact h i _ h1 h2 h3 (notV_cells h4)

theorem Clo.kept {Q : Nat → Prop} {w w' : World} {base top vb : Nat} {p : Pk} {v : Value} {pb bb : Nat} {q : Option Addr} {n c : Nat} (h : Clo w base top vb p v pb bb q n c) (hm : Mod Q w w') (hq : KeepsS Q w base top) : Clo w' base top vb p v pb bb q n c :=
  ⟨h.val, h.pbR, h.bbR, hm.blk h.poke (hq _ _ h.pbR.1 h.pbR.2 h.poke (soft_cells (by decide) (by decide))), hm.blk h.box (hq _ _ h.bbR.1 h.bbR.2 h.box (soft_cells (by decide) (by decide))),
    own_mod h.own hm (fun i hi => by obtain ⟨cur, hc⟩ := own_some h.own hi; exact hq i _ (h.own.lt i hi).1 (h.top i hi) hc (soft_cells (by decide) (by decide))), h.top, h.range⟩
theorem IsClo.kept {Q : Nat → Prop} {w w' : World} {base top vb : Nat} {p : Pk} {v : Value} (h : IsClo w base top vb p v) (hm : Mod Q w w') (hq : KeepsS Q w base top) : IsClo w' base top vb p v := by
  obtain ⟨pb, bb, q, n, c, h⟩ := h; exact ⟨pb, bb, q, n, c, h.kept hm hq⟩
theorem IsClo.more {w : World} {base top top' vb : Nat} {p : Pk} {v : Value} (h : IsClo w base top vb p v) (ht : top ≤ top') : IsClo w base top' vb p v := by
  obtain ⟨pb, bb, q, n, c, h⟩ := h
  exact ⟨pb, bb, q, n, c, ⟨h.val, ⟨h.pbR.1, by have := h.pbR.2; omega⟩, ⟨h.bbR.1, by have := h.bbR.2; omega⟩, h.poke, h.box, h.own, fun i hi => by have := h.top i hi; omega, h.range⟩⟩

structure ViK where
  V : Nat
  vb : Nat
  D : Nat

/-- The rewrites, by the read ahead of which they come. -/
structure ViD (w : World) (base top : Nat) (k : ViK) (l : List Pk) : Prop where
  box : w.heap[k.vb]? = some (.cells #[.pointer (some ⟨k.V, 0, none⟩)] 37 (0, 0))
  rng : base ≤ k.V ∧ k.V < top ∧ base ≤ k.vb ∧ k.vb < top ∧ base ≤ k.D ∧ k.D < top
  ne : k.V ≠ k.vb
  range : ∀ p ∈ l, ∀ x ∈ p.bs, 0 ≤ x ∧ x ≤ 255
  due : ∃ n D sl cl, Due Tryd.prog 3 w k.D (k.D + 1) 1 n D sl cl ∧ n ≤ l.length ∧ (∀ t i, (sl t).ownBlock = some i → i < top) ∧ ∀ t, (cl t).length = (dueAt l t).length ∧ ∀ (i : Nat) p v, (dueAt l t)[i]? = some p → (cl t)[i]? = some v → IsClo w base top k.vb p v

/-- A view that view.New made. -/
structure ViM (w : World) (base top : Nat) (k : ViK) (B : Nat) (N : Int) (l : List Pk) : Prop where
  head : w.heap[k.V]? = some (.cells #[.pointer (some ⟨B, 0, none⟩), .map (some k.D), .int .i64 N] 97 (0, 0))
  d : ViD w base top k l

theorem ViD.kept {Q : Nat → Prop} {w w' : World} {base top : Nat} {k : ViK} {l : List Pk} (h : ViD w base top k l) (hm : Mod Q w w') (hq : Keeps Q w base top) : ViD w' base top k l := by
  obtain ⟨n, D, sl, cl, hd, hn, ht, hc⟩ := h.due
  refine ⟨hm.blk h.box (hq _ _ h.rng.2.2.1 h.rng.2.2.2.1 h.box (notV_cells (by decide))), h.rng, h.ne, h.range, n, D, sl, cl, hd.kept hm ?_ ?_, hn, ht, fun t => ⟨(hc t).1, fun i p v hp hv => ((hc t).2 i p v hp hv).kept hm hq.soft⟩⟩
  · obtain ⟨es, clock, hb, _⟩ := hd.map
    exact hq _ _ h.rng.2.2.2.2.1 h.rng.2.2.2.2.2 hb (by intro cs fz e; cases e)
  · intro t i hi
    obtain ⟨cur, hcur⟩ := own_some (hd.row t) hi
    have := ((hd.row t).lt i hi).1
    have := h.rng.2.2.2.2.1
    exact hq i _ (by omega) (ht t i hi) hcur (notV_cells (by decide))

theorem ViM.kept {Q : Nat → Prop} {w w' : World} {base top : Nat} {k : ViK} {B : Nat} {N : Int} {l : List Pk} (h : ViM w base top k B N l) (hm : Mod Q w w') (hq : ∀ i, base ≤ i → i < top → ¬ Q i) : ViM w' base top k B N l :=
  ⟨hm.blk h.head (hq _ h.d.rng.1 h.d.rng.2.1), h.d.kept hm (fun i _ a b _ _ => hq i a b)⟩
theorem ViM.no {w w' : World} {base top : Nat} {k : ViK} {B : Nat} {N : Int} {l : List Pk} (h : ViM w base top k B N l) (hm : Mod No w w') : ViM w' base top k B N l := h.kept hm (fun _ _ _ q => q)

/-- One more read. -/
theorem ViM.read {w : World} {base top : Nat} {k : ViK} {B : Nat} {N : Int} {l : List Pk} (h : ViM w base top k B N l) (N' : Int) : ViM (w.setCell ⟨k.V, 2, none⟩ (.int .i64 N')) base top k B N' l := by
  refine ⟨?_, h.d.kept ((Mod.refl (One k.V) w).set1 2 _) ?_⟩
  · have := row_set (l := [.pointer (some ⟨B, 0, none⟩), .map (some k.D), .int .i64 N]) h.head 2 (.int .i64 N')
    simpa using this
  · intro i o _ _ ho hn e
    have e : i = k.V := e
    subst e
    rw [h.head] at ho
    exact hn _ _ (Option.some.inj ho).symm

theorem ViM.c0 {w : World} {base top : Nat} {k : ViK} {B : Nat} {N : Int} {l : List Pk} (h : ViM w base top k B N l) : w.cell? ⟨k.V, 0, none⟩ = some (.pointer (some ⟨B, 0, none⟩)) ∧ w.cell? ⟨k.V, 1, none⟩ = some (.map (some k.D)) ∧ w.cell? ⟨k.V, 2, none⟩ = some (.int .i64 N) ∧ w.frozen? ⟨k.V, 2, none⟩ = false :=
  ⟨row_cell (l := [.pointer (some ⟨B, 0, none⟩), .map (some k.D), .int .i64 N]) h.head 0, row_cell (l := [.pointer (some ⟨B, 0, none⟩), .map (some k.D), .int .i64 N]) h.head 1,
    row_cell (l := [.pointer (some ⟨B, 0, none⟩), .map (some k.D), .int .i64 N]) h.head 2, row_free (l := [.pointer (some ⟨B, 0, none⟩), .map (some k.D), .int .i64 N]) h.head 2⟩

theorem vnone_made (V B : Nat) (w : World) (h : w.cell? ⟨V, 0, none⟩ = some (.pointer (some ⟨B, 0, none⟩))) :
    Calls Tryd.prog 60 #[.pointer (some ⟨V, 0, none⟩)] w fun e w' => e = .returned (.bool false) ∧ w = w' := by
  go_enter Tryd.func60, Tryd.ntmps60
  go_wp2
  go_ret
  exact ⟨rfl, rfl⟩

theorem vmachine_made (V B : Nat) (w : World) (h : w.cell? ⟨V, 0, none⟩ = some (.pointer (some ⟨B, 0, none⟩))) :
    Calls Tryd.prog 39 #[.pointer (some ⟨V, 0, none⟩)] w fun e w' => e = .returned (.pointer (some ⟨B, 0, none⟩)) ∧ w = w' := by
  go_enter Tryd.func39, Tryd.ntmps39
  go_wp2_with (go_at_call 60; refine (vnone_made V B _ h).mono ?_; rintro e w' ⟨rfl, rfl⟩)
  go_ret
  exact ⟨rfl, rfl⟩

theorem vreads_made {w : World} {base top : Nat} {k : ViK} {B : Nat} {N : Int} {l : List Pk} (h : ViM w base top k B N l) :
    Calls Tryd.prog 49 #[.pointer (some ⟨k.V, 0, none⟩)] w fun e w' => e = .returned (.int .i64 N) ∧ w = w' := by
  obtain ⟨h0, h1, h2, h3⟩ := h.c0
  go_enter Tryd.func49, Tryd.ntmps49
  go_wp2_with (go_at_call 60; refine (vnone_made k.V B _ h0).mono ?_; rintro e w' ⟨rfl, rfl⟩)
  go_ret
  exact ⟨rfl, rfl⟩

theorem pokeS_out {S : List Fr} {mfn off : Int} {bs : List Int} (h : mfn < 0 ∨ (S.length : Int) ≤ mfn) : pokeS S mfn off bs = S := by
  unfold pokeS
  split
  · rw [List.getElem?_eq_none (by omega)]
  · rfl
theorem pokeS_no {S : List Fr} {mfn off : Int} {bs : List Int} {f : Fr} (hf : S[mfn.toNat]? = some f) (h : ¬ ((0 ≤ f.owner ∧ f.type ≠ 2 ∧ f.type ≠ 3) ∧ 0 ≤ off ∧ off + bs.length ≤ 256)) : pokeS S mfn off bs = S := by
  unfold pokeS
  split
  · rw [hf]; simp only; rw [if_neg h]
  · rfl
theorem pokeS_yes {S : List Fr} {mfn off : Int} {bs : List Int} {f : Fr} (h0 : 0 ≤ mfn) (hf : S[mfn.toNat]? = some f) (h : (0 ≤ f.owner ∧ f.type ≠ 2 ∧ f.type ≠ 3) ∧ 0 ≤ off ∧ off + bs.length ≤ 256) :
    pokeS S mfn off bs = S.set mfn.toNat { f with bytes := splice f.bytes off.toNat bs } := by
  unfold pokeS
  rw [if_pos h0, hf]; simp only; rw [if_pos h]

/-- A guest's rewrite. -/
theorem rewrite_in {B F V : Nat} {S : List Fr} (mfn off : Int) (q : Option Addr) (bs : List Int) (c : Nat) (w : World) (h : PhM w B F S) (h0 : w.cell? ⟨V, 0, none⟩ = some (.pointer (some ⟨B, 0, none⟩))) (hs : Src w q bs) :
    Calls Tryd.prog 37 #[.pointer (some ⟨V, 0, none⟩), .int .i64 mfn, .int .i64 off, .slice q bs.length c] w fun e w' => (∃ v, e = .returned v) ∧ Mod (One F) w w' ∧ PhM w' B F (pokeS S mfn off bs) := by
  by_cases hm : mfn < 0 ∨ (S.length : Int) ≤ mfn
  · rw [pokeS_out hm]
    have HF := Lib.hid (frame_out mfn w h hm)
    go_enter Tryd.func37, Tryd.ntmps37
    go_wp2_with fail
    refine HF.out.mono ?_
    rintro e w2 ⟨rfl, hm2⟩
    go_wp2
    go_end0
    exact ⟨⟨_, rfl⟩, (Mod.of_no hm2).alloc _, (h.kept hm2 (fun q => q) (fun q => q)).alloc _⟩
  · obtain ⟨f, hf⟩ : ∃ f, S[mfn.toNat]? = some f := ⟨_, List.getElem?_eq_getElem (by omega)⟩
    have HF := Lib.hid (frame_in mfn f w h (by omega) hf)
    have HV : Hid (∀ w', Mod No w w' → w'.cell? ⟨V, 0, none⟩ = some (.pointer (some ⟨B, 0, none⟩))) := fun w' hm => (World.cell?_of_block (w := w) (hm.block V (World.block_lt_of_cell? w _ h0) (fun q => q))).trans h0
    have HH := Lib.hid h
    have HSR := Lib.hid hs
    by_cases hc : 0 ≤ f.owner ∧ f.type ≠ 2 ∧ f.type ≠ 3
    · have d1 : decide (0 ≤ f.owner) = true := decide_eq_true hc.1
      have d2 : (f.type != 2) = true := bne_iff_ne.2 hc.2.1
      have d3 : (f.type != 3) = true := bne_iff_ne.2 hc.2.2
      by_cases hi : 0 ≤ off ∧ off + bs.length ≤ 256
      · rw [pokeS_yes (by omega) hf ⟨hc, hi⟩]
        have hin : InP S mfn off bs.length := ⟨by omega, hi.1, by omega, hi.2⟩
        have HW : Hid (∀ w', Mod No w w' → Calls Tryd.prog 17 #[.pointer (some ⟨B, 0, none⟩), .int .i64 mfn, .int .i64 off, .slice q bs.length c] w' fun e w2 => e = .returned (.int .i64 0) ∧ Mod (One F) w' w2 ∧ PhM w2 B F (S.set mfn.toNat { f with bytes := splice f.bytes off.toNat bs })) :=
          fun w' hm => write_in mfn off q bs.length c bs f w' (HH.out.kept hm (fun q => q) (fun q => q)) rfl hin hf (by omega) (HSR.out.kept hm (fun _ _ _ q => q))
        clear hm hi hin h hs
        go_enter Tryd.func37, Tryd.ntmps37
        go_wp2_with fail
        refine HF.out.mono ?_
        rintro e w2 ⟨rfl, hm2⟩
        have hm3 := hm2.alloc (.cells #[.int .i64 f.owner, .int .i64 f.type, .int .i64 f.count, .int .i64 f.total] 111)
        have h03 := HV.out _ hm3
        go_wp2_with fail
        refine (HW.out _ hm3).mono ?_
        rintro e w4 ⟨rfl, hm4, hP4⟩
        have HM := Lib.hid ((Mod.of_no (Q := One F) hm3).trans hm4)
        have HP := Lib.hid hP4
        clear hm2 hm3 hm4 hP4 h03
        go_wp2
        go_end0
        exact ⟨⟨_, rfl⟩, HM.out, HP.out⟩
      · rw [pokeS_no hf (fun q => hi q.2)]
        have hnin : ¬ InP S mfn off bs.length := fun q => hi ⟨q.2.1, q.2.2.2⟩
        have HW : Hid (∀ w', Mod No w w' → Calls Tryd.prog 17 #[.pointer (some ⟨B, 0, none⟩), .int .i64 mfn, .int .i64 off, .slice q bs.length c] w' fun e w2 => e = .returned (.int .i64 1) ∧ w' = w2) :=
          fun w' hm => write_out mfn off q bs.length c w' (HH.out.kept hm (fun q => q) (fun q => q)) hnin
        clear hm hi hnin h hs
        go_enter Tryd.func37, Tryd.ntmps37
        go_wp2_with fail
        refine HF.out.mono ?_
        rintro e w2 ⟨rfl, hm2⟩
        have hm3 := hm2.alloc (.cells #[.int .i64 f.owner, .int .i64 f.type, .int .i64 f.count, .int .i64 f.total] 111)
        have h03 := HV.out _ hm3
        go_wp2_with fail
        refine (HW.out _ hm3).mono ?_
        rintro e w4 ⟨rfl, rfl⟩
        have HM := Lib.hid hm3
        clear hm2 hm3 h03
        go_wp2
        go_end0
        exact ⟨⟨_, rfl⟩, Mod.of_no HM.out, HH.out.kept HM.out (fun q => q) (fun q => q)⟩
    · rw [pokeS_no hf (fun q => hc q.1)]
      by_cases e1 : 0 ≤ f.owner
      · have d1 : decide (0 ≤ f.owner) = true := decide_eq_true e1
        by_cases e2 : f.type = 2
        · have d2 : (f.type != 2) = false := by simp [e2]
          clear hm h hs hc e2
          go_enter Tryd.func37, Tryd.ntmps37
          go_wp2_with fail
          refine HF.out.mono ?_
          rintro e w2 ⟨rfl, hm2⟩
          have HM := Lib.hid (hm2.alloc (.cells #[.int .i64 f.owner, .int .i64 f.type, .int .i64 f.count, .int .i64 f.total] 111))
          clear hm2
          go_wp2
          go_end0
          exact ⟨⟨_, rfl⟩, Mod.of_no HM.out, HH.out.kept HM.out (fun q => q) (fun q => q)⟩
        · have d2 : (f.type != 2) = true := bne_iff_ne.2 e2
          have d3 : (f.type != 3) = false := by rw [bne_eq_false_iff_eq]; omega
          clear hm h hs hc e2
          go_enter Tryd.func37, Tryd.ntmps37
          go_wp2_with fail
          refine HF.out.mono ?_
          rintro e w2 ⟨rfl, hm2⟩
          have HM := Lib.hid (hm2.alloc (.cells #[.int .i64 f.owner, .int .i64 f.type, .int .i64 f.count, .int .i64 f.total] 111))
          clear hm2
          go_wp2
          go_end0
          exact ⟨⟨_, rfl⟩, Mod.of_no HM.out, HH.out.kept HM.out (fun q => q) (fun q => q)⟩
      · have d1 : decide (0 ≤ f.owner) = false := decide_eq_false e1
        clear hm h hs hc e1
        go_enter Tryd.func37, Tryd.ntmps37
        go_wp2_with fail
        refine HF.out.mono ?_
        rintro e w2 ⟨rfl, hm2⟩
        have HM := Lib.hid (hm2.alloc (.cells #[.int .i64 f.owner, .int .i64 f.type, .int .i64 f.count, .int .i64 f.total] 111))
        clear hm2
        go_wp2
        go_end0
        exact ⟨⟨_, rfl⟩, Mod.of_no HM.out, HH.out.kept HM.out (fun q => q) (fun q => q)⟩

end Go.Proofs.YtmdeljacbekbpaaDoor

/- view.View: the rewrites that are due; Read, Word, Write. -/
namespace Go.Proofs.YtmdeljacbekbpaaDoor
open Go.RowKit Go.Maps
set_option maxRecDepth 100000

theorem clo_in {base top B F V vb pb bb : Nat} {S : List Fr} {p : Pk} {v : Value} {q : Option Addr} {n c : Nat} (w : World) (h : PhM w B F S) (h0 : w.cell? ⟨V, 0, none⟩ = some (.pointer (some ⟨B, 0, none⟩)))
    (hvb : w.heap[vb]? = some (.cells #[.pointer (some ⟨V, 0, none⟩)] 37 (0, 0))) (hc : Clo w base top vb p v pb bb q n c) :
    Calls Tryd.prog 36 #[.pointer (some ⟨vb, 0, none⟩), .pointer (some ⟨pb, 0, none⟩), .pointer (some ⟨bb, 0, none⟩)] w fun e w' => (∃ v, e = .returned v) ∧ Mod (One F) w w' ∧ PhM w' B F (p.poke S) := by
  have x0 := row_cell (l := [Value.pointer (some ⟨V, 0, none⟩)]) hvb 0
  have y1 := row_cell hc.poke 1
  have y2 := row_cell hc.poke 2
  have z0 := row_cell (l := [Value.slice q n c]) hc.box 0
  simp only [Pk.cells, List.getElem?_cons_zero, List.getElem?_cons_succ] at x0 y1 y2 z0
  have hs : Src w q p.bs := by
    refine ⟨hc.range, fun hpos => ?_⟩
    rcases hc.own.2 with ⟨e, h0⟩ | ⟨g, cap, cur, e, _, hr, _, _, _, ht⟩
    · omega
    · cases e
      refine ⟨⟨g, 0, none⟩, rfl, fun j b hj => ?_⟩
      have := hc.own.cells (g := g) rfl j (.int .u8 b) (by rw [List.getElem?_map, hj]; rfl)
      exact this
  obtain rfl : n = p.bs.length := by
    rcases hc.own.2 with ⟨e, h0⟩ | ⟨g, cap, cur, e, _⟩
    · cases e; exact h0.symm
    · cases e; rfl
  have HRW := Lib.hid (rewrite_in p.mfn p.off q p.bs c w h h0 hs)
  clear hs hc hvb
  go_enter Tryd.func36, Tryd.ntmps36
  go_wp2_with fail
  refine HRW.out.mono ?_
  rintro e w2 ⟨⟨u, rfl⟩, hm2, hP2⟩
  go_wp2
  go_end0
  exact ⟨⟨_, rfl⟩, hm2, hP2⟩

theorem lawInt : Keyed Tryd.prog 3 := int_keyed Tryd.underlying3
theorem zeroDue (w : World) : (zeroValue 100).run Tryd.prog w = .ok (.slice none 0 0) w := by kernel_rfl

/-- A row's cell, by its header. -/
theorem due_slice {w : World} {base : Nat} {e : TypeId} {v : Value} {xs : List Value} (h : w.ownsRow base e 1 v xs.length xs) : ∃ q c, v = .slice q xs.length c ∧ (0 < xs.length → ∃ g, q = some ⟨g, 0, none⟩ ∧ xs.length ≤ c ∧ base ≤ g ∧ ∀ (j : Nat) u, xs[j]? = some u → w.cell? ⟨g, j, none⟩ = some u) := by
  rcases h.2 with ⟨rfl, h0⟩ | ⟨g, cap, cur, rfl, hgb, hr, hc, _, _, ht⟩
  · exact ⟨none, 0, by rw [h0], fun q => by omega⟩
  · refine ⟨some ⟨g, 0, none⟩, cap, rfl, fun _ => ⟨g, rfl, hc, hgb, fun j u hj => ?_⟩⟩
    have := h.cells (g := g) rfl j u hj
    simpa [Addr.add_lit] using this

theorem pokes_snoc (l : List Pk) (i : Nat) (p : Pk) (S : List Fr) (h : l[i]? = some p) : pokes (l.take (i + 1)) S = p.poke (pokes (l.take i) S) := by
  unfold pokes
  rw [List.take_add_one, h, List.foldl_append]; rfl

theorem PhM.neV {w : World} {B F V : Nat} {S : List Fr} (h : PhM w B F S) {cs : Array Value} {fz : Nat × Nat} (hv : w.heap[V]? = some (.cells cs 97 fz)) : B ≠ V := by
  rintro rfl
  obtain ⟨c, _, h1⟩ := h.head
  rw [hv] at h1
  simp at h1

theorem okS_poke {S : List Fr} (h : okS S) (p : Pk) (hp : ∀ x ∈ p.bs, 0 ≤ x ∧ x ≤ 255) : okS (p.poke S) := by
  unfold Pk.poke pokeS
  split
  · split
    · rename_i f hf
      split
      · rename_i hc
        refine okS_set h _ ⟨?_, ?_⟩
        · have := (h f (List.mem_of_getElem? hf)).1
          simp only [splice, List.length_append, List.length_take, List.length_drop, this]; omega
        · intro b hb
          simp only [splice, List.mem_append] at hb
          rcases hb with q | q | q
          · exact (h f (List.mem_of_getElem? hf)).2 b (List.mem_of_mem_take q)
          · exact hp b q
          · exact (h f (List.mem_of_getElem? hf)).2 b (List.mem_of_mem_drop q)
      · exact h
    · exact h
  · exact h

theorem okS_pokes : ∀ (l : List Pk) {S : List Fr}, okS S → (∀ p ∈ l, ∀ x ∈ p.bs, 0 ≤ x ∧ x ≤ 255) → okS (pokes l S)
  | [], _, h, _ => h
  | p :: l, _, h, hp => okS_pokes l (okS_poke h p (hp p (by simp))) (fun q hq => hp q (by simp [hq]))
theorem ViM.okS {w : World} {base top : Nat} {k : ViK} {B : Nat} {N : Int} {l : List Pk} (h : ViM w base top k B N l) {S : List Fr} (hS : okS S) (M : Int) : Proofs.YtmdeljacbekbpaaDoor.okS (pokes (dueAt l M) S) :=
  okS_pokes _ hS (fun p hp => h.d.range p ((List.mem_filter.1 hp).1))

set_option maxHeartbeats 4000000 in
/-- All that happens ahead of the read itself. -/
theorem vread_any {base top B F : Nat} {k : ViK} {S : List Fr} {N : Int} {l : List Pk} (mfn off n : Int) (w : World) (h : PhM w B F S) (hv : ViM w base top k B N l) (hF : F < base) (hN : 0 ≤ N ∧ N < 4611686018427387904) (hl : l.length ≤ 140737488355328)
    (Q : Ending → World → Prop) (hQ : ∀ w', Mod (fun i => i = F ∨ i = k.V) w w' → PhM w' B F (pokes (dueAt l N) S) → ViM w' base top k B (N + 1) l →
      Calls Tryd.prog 16 #[.pointer (some ⟨B, 0, none⟩), .int .i64 mfn, .int .i64 off, .int .i64 n] w' fun e w2 => ∃ a b, e = .returned (.tuple #[a, b]) ∧ Q (.returned (.tuple #[a, b])) w2) :
    Calls Tryd.prog 45 #[.pointer (some ⟨k.V, 0, none⟩), .int .i64 mfn, .int .i64 off, .int .i64 n] w Q := by
  obtain ⟨h0, h1, h2, h3⟩ := hv.c0
  obtain ⟨nd, D, sl, cl, hd, hnl, _, hcl⟩ := hv.d.due
  have hlk : ∀ q, (Instr.lookup 95 (.map (some k.D)) (.int .i64 N) false).run Tryd.prog (w.drewN q) = .ok (sl N) (w.drewN q) :=
    fun q => (hd.keptNo ((Mod.refl No w).drewN q)).look lawInt Tryd.underlying3 Tryd.underlying95 (zeroDue _) N (WalkArith.wf_i64 (by omega))
  obtain ⟨qs, cs, hsl, hcell⟩ := due_slice (hd.row N)
  obtain ⟨L, hL⟩ : ∃ L, L = (dueAt l N).length := ⟨_, rfl⟩
  have hbD := hv.d.rng.2.2.2.2.1
  have hlen : (cl N).length = L := by rw [hL]; exact (hcl N).1
  have hLl : L ≤ 140737488355328 := by rw [hL]; exact Nat.le_trans (List.length_filter_le _ _) hl
  rw [hlen] at hsl hcell
  rw [hsl] at hlk
  have HC := Lib.hid hcell
  have HCL := Lib.hid (hcl N)
  have HL := Lib.hid hL
  have HLEN := Lib.hid hlen
  have HV := Lib.hid hv
  have HH := Lib.hid h
  have HQ := Lib.hid hQ
  clear hcell hcl hL hlen hsl hd hnl hQ
  go_enter Tryd.func45, Tryd.ntmps45
  go_wp2_with (go_at_call 60; refine (vnone_made k.V B _ h0).mono ?_; rintro e w' ⟨rfl, rfl⟩)
  go_quiet (fail)
  have HM0 : Hid (Mod (One F) w (w.drewN nq)) := (Mod.refl (One F) w).drewN nq
  have HV0 : Hid (ViM (w.drewN nq) base top k B N l) := hv.no ((Mod.refl No w).drewN nq)
  have HP0 : Hid (PhM (w.drewN nq) B F S) := h.kept ((Mod.refl No w).drewN nq) (fun q => q) (fun q => q)
  clear hlk h0 h1 h2 h3 h hv
  generalize w.drewN nq = w0 at HM0 HV0 HP0 ⊢
  go_wp2_with fail
  go_loopw [24] (fun v wr => ∃ i : Nat, i ≤ L ∧ v = .int .i64 i ∧ Mod (One F) w wr ∧ ViM wr base top k B N l ∧ PhM wr B F (pokes ((dueAt l N).take i) S)) (fun v _ => L - (intOf v).toNat)
  case atStart => exact ⟨0, Nat.zero_le _, rfl, HM0.out, HV0.out, HP0.out⟩
  case round =>
    obtain ⟨i, hi, rfl, hm, hv, hP⟩ := hrel
    by_cases hlt : i < L
    · obtain ⟨g, rfl, hgc, hgD, hx⟩ := HC.out (by omega)
      obtain ⟨p, hp⟩ : ∃ p, (dueAt l N)[i]? = some p := ⟨_, List.getElem?_eq_getElem (by rw [← HL.out]; exact hlt)⟩
      obtain ⟨v, hvl⟩ : ∃ v, (cl N)[i]? = some v := ⟨_, List.getElem?_eq_getElem (by rw [HLEN.out]; exact hlt)⟩
      obtain ⟨pb, bb, q, n2, c2, hclo⟩ := HCL.out.2 i p v hp hvl
      have hxi := hx i v hvl
      have hxr := (World.cell?_of_block (w := w) (hm.block g (World.block_lt_of_cell? w _ hxi) (fun (e : g = F) => by omega))).trans hxi
      rw [hclo.val] at hxr
      unfold cloVal at hxr
      have hclo' := hclo.kept hm (fun i _ hi _ _ _ (e : i = F) => by omega)
      obtain ⟨h0, _, _, _⟩ := hv.c0
      have HCI := Lib.hid (clo_in wr hP h0 hv.d.box hclo')
      rw [← pokes_snoc (dueAt l N) i p S hp] at HCI
      have HVR := Lib.hid hv
      have HMR := Lib.hid hm
      clear hx hp hvl hclo hclo' hv hm hP hxi h0
      go_wp2_with fail
      refine HCI.out.mono ?_
      rintro e w2 ⟨⟨u, rfl⟩, hm2, hP2⟩
      have HV2 := Lib.hid (HVR.out.kept hm2 (fun i hi _ (e : i = F) => by omega))
      have HM2 := Lib.hid (HMR.out.trans hm2)
      have HP2 := Lib.hid hP2
      clear hm2 hP2
      go_wp2
      go_roundw
      case rel => exact ⟨i + 1, by omega, by go_num, HM2.out, HV2.out, HP2.out⟩
      case measure => simp [intOf]; omega
    · obtain rfl : i = L := by omega
      rw [HL.out, List.take_length] at hP
      obtain ⟨h0, h1, h2, h3⟩ := hv.c0
      have hv1 := hv.read (N + 1)
      have HM1 : Hid (Mod (fun i => i = F ∨ i = k.V) w (wr.setCell ⟨k.V, 2, none⟩ (.int .i64 (N + 1)))) := (hm.mono (fun _ _ q => .inl q)).setCell (p := ⟨k.V, 2, none⟩) (fun _ => .inr rfl) _
      have hP1 : PhM (wr.setCell ⟨k.V, 2, none⟩ (.int .i64 (N + 1))) B F (pokes (dueAt l N) S) := hP.kept ((Mod.refl (One k.V) wr).set1 2 _) (fun e => hP.neV hv.head e) (fun (e : F = k.V) => by have := hv.d.rng.1; omega)
      have HR := Lib.hid (HQ.out _ HM1.out hP1 hv1)
      clear hv1 hP1 hP hv hm HQ
      go_wp2_with fail
      refine HR.out.mono ?_
      rintro e w2 ⟨a, b, rfl, hq⟩
      have HQ2 := Lib.hid hq
      clear hq
      go_wp2
      exact HQ2.out

end Go.Proofs.YtmdeljacbekbpaaDoor

/- view.View: Read's two ways, Word, Write. -/
namespace Go.Proofs.YtmdeljacbekbpaaDoor
open Go.RowKit Go.Maps
set_option maxRecDepth 100000

/-- What a read of the code's view leaves. -/
structure VOut (base top B F : Nat) (k : ViK) (N : Int) (l : List Pk) (S : List Fr) (w w' : World) : Prop where
  mod : Mod (fun i => i = F ∨ i = k.V) w w'
  p : PhM w' B F S
  v : ViM w' base top k B N l

theorem inP_len {S T : List Fr} (h : T.length = S.length) {i off n : Int} (hp : InP S i off n) : InP T i off n := ⟨by rw [h]; exact hp.1, hp.2⟩

theorem vread_ok {base top B F : Nat} {k : ViK} {S : List Fr} {N : Int} {l : List Pk} (mfn off n : Int) (f : Fr) (w : World) (h : PhM w B F S) (hv : ViM w base top k B N l) (hF : F < base) (hN : 0 ≤ N ∧ N < 4611686018427387904) (hl : l.length ≤ 140737488355328)
    (hp : InP S mfn off n) (hf : (pokes (dueAt l N) S)[mfn.toNat]? = some f) :
    Calls Tryd.prog 45 #[.pointer (some ⟨k.V, 0, none⟩), .int .i64 mfn, .int .i64 off, .int .i64 n] w fun e w' => ∃ g, e = .returned (.tuple #[.slice (some ⟨g, 0, none⟩) n.toNat n.toNat, .int .i64 0]) ∧ w.heap.size ≤ g ∧ g < w'.heap.size ∧
      w'.heap[g]? = some (.cells (((f.bytes.drop off.toNat).take n.toNat).map (Value.int .u8)).toArray 5 (0, 0)) ∧ VOut base top B F k (N + 1) l (pokes (dueAt l N) S) w w' := by
  refine vread_any mfn off n w h hv hF hN hl _ (fun w1 hm hP hV => ?_)
  refine (read_in mfn off n f w1 hP (inP_len (pokes_len _ _) hp) hf).mono ?_
  rintro e w2 ⟨rfl, hm2, hs2, hg⟩
  exact ⟨_, _, rfl, w1.heap.size, rfl, hm.size, hs2, hg, hm.trans (Mod.of_no hm2), hP.kept hm2 (fun q => q) (fun q => q), hV.no hm2⟩

theorem vread_bad {base top B F : Nat} {k : ViK} {S : List Fr} {N : Int} {l : List Pk} (mfn off n : Int) (w : World) (h : PhM w B F S) (hv : ViM w base top k B N l) (hF : F < base) (hN : 0 ≤ N ∧ N < 4611686018427387904) (hl : l.length ≤ 140737488355328)
    (hp : ¬ InP S mfn off n) :
    Calls Tryd.prog 45 #[.pointer (some ⟨k.V, 0, none⟩), .int .i64 mfn, .int .i64 off, .int .i64 n] w fun e w' => e = .returned (.tuple #[.slice none 0 0, .int .i64 1]) ∧ VOut base top B F k (N + 1) l (pokes (dueAt l N) S) w w' := by
  refine vread_any mfn off n w h hv hF hN hl _ (fun w1 hm hP hV => ?_)
  refine (read_out mfn off n w1 hP (fun q => hp (inP_len (pokes_len _ _).symm q))).mono ?_
  rintro e w2 ⟨rfl, rfl⟩
  exact ⟨_, _, rfl, rfl, hm, hP, hV⟩

theorem or16 {b0 b1 : Int} (h0 : 0 ≤ b0 ∧ b0 ≤ 255) (h1 : 0 ≤ b1 ∧ b1 ≤ 255) : Go.bits .or .u16 b0 (b1 * 256) = b0 + 256 * b1 := by
  rw [Go.u16_or b0 (b1 * 256) h0.1 (by omega) (by omega) (by omega), Nat.or_comm, Go.nat_join 8 (b1 * 256).toNat b0.toNat (by omega) (by omega)]
  omega

def word2 (l : List Int) : Int := l.getD 0 0 + 256 * l.getD 1 0

theorem vword_ok {base top B F : Nat} {k : ViK} {S : List Fr} {N : Int} {l : List Pk} (mfn off : Int) (f : Fr) (w : World) (h : PhM w B F S) (hv : ViM w base top k B N l) (hF : F < base) (hN : 0 ≤ N ∧ N < 4611686018427387904) (hl : l.length ≤ 140737488355328)
    (hp : InP S mfn off 2) (hf : (pokes (dueAt l N) S)[mfn.toNat]? = some f) :
    Calls Tryd.prog 40 #[.pointer (some ⟨k.V, 0, none⟩), .int .i64 mfn, .int .i64 off] w fun e w' => e = .returned (.tuple #[.int .u16 (word2 ((f.bytes.drop off.toNat).take 2)), .int .i64 0]) ∧ VOut base top B F k (N + 1) l (pokes (dueAt l N) S) w w' := by
  have hfo : f.ok := hv.okS h.ok N f (List.mem_of_getElem? hf)
  obtain ⟨b0, b1, hb, r0, r1⟩ : ∃ b0 b1 : Int, (f.bytes.drop off.toNat).take 2 = [b0, b1] ∧ (0 ≤ b0 ∧ b0 ≤ 255) ∧ (0 ≤ b1 ∧ b1 ≤ 255) := by
    have hp4 := hp.2
    have hln : ((f.bytes.drop off.toNat).take 2).length = 2 := by rw [List.length_take, List.length_drop, hfo.1]; omega
    have hm : ∀ x ∈ (f.bytes.drop off.toNat).take 2, 0 ≤ x ∧ x ≤ 255 := fun x hx => hfo.2 x (List.mem_of_mem_drop (List.mem_of_mem_take hx))
    match hq : (f.bytes.drop off.toNat).take 2, hln with
    | [b0, b1], _ =>
      rw [hq] at hm
      exact ⟨b0, b1, rfl, hm b0 (by simp), hm b1 (by simp)⟩
  have HR := Lib.hid (vread_ok mfn off 2 f w h hv hF hN hl hp hf)
  rw [show (2 : Int).toNat = 2 from rfl, hb] at HR
  rw [hb]
  clear hb hfo
  go_enter Tryd.func40, Tryd.ntmps40
  go_wp2_with fail
  refine HR.out.mono ?_
  rintro e w2 ⟨g, rfl, _, hg2, hgc, ho⟩
  have x0 := row_cell (l := [Value.int .u8 b0, .int .u8 b1]) hgc 0
  have x1 := row_cell (l := [Value.int .u8 b0, .int .u8 b1]) hgc 1
  simp only [List.getElem?_cons_zero, List.getElem?_cons_succ] at x0 x1
  have HO := Lib.hid ho
  have HE := Lib.hid (or16 r0 r1)
  clear hgc ho hf hp h hv HR
  go_wp2_with fail
  go_quiet (fail)
  go_wp2
  go_ret2
  refine ⟨by rw [show word2 [b0, b1] = b0 + 256 * b1 from rfl, ← HE.out]; rfl, HO.out.mod.drewN _, HO.out.p.kept ((Mod.refl No _).drewN _) (fun q => q) (fun q => q), HO.out.v.no ((Mod.refl No _).drewN _)⟩

theorem vword_bad {base top B F : Nat} {k : ViK} {S : List Fr} {N : Int} {l : List Pk} (mfn off : Int) (w : World) (h : PhM w B F S) (hv : ViM w base top k B N l) (hF : F < base) (hN : 0 ≤ N ∧ N < 4611686018427387904) (hl : l.length ≤ 140737488355328)
    (hp : ¬ InP S mfn off 2) :
    Calls Tryd.prog 40 #[.pointer (some ⟨k.V, 0, none⟩), .int .i64 mfn, .int .i64 off] w fun e w' => e = .returned (.tuple #[.int .u16 0, .int .i64 1]) ∧ VOut base top B F k (N + 1) l (pokes (dueAt l N) S) w w' := by
  have HR := Lib.hid (vread_bad mfn off 2 w h hv hF hN hl hp)
  clear hp h hv
  go_enter Tryd.func40, Tryd.ntmps40
  go_wp2_with fail
  refine HR.out.mono ?_
  rintro e w2 ⟨rfl, ho⟩
  have HO := Lib.hid ho
  clear ho
  go_wp2
  go_ret2
  exact ⟨rfl, HO.out⟩

/-- A write through a view is the machine's. -/
theorem vwrite_any {V B : Nat} (mfn off : Int) (q : Option Addr) (n c : Nat) (w : World) (h0 : w.cell? ⟨V, 0, none⟩ = some (.pointer (some ⟨B, 0, none⟩))) {x : Int} {Q : World → Prop}
    (h : Calls Tryd.prog 17 #[.pointer (some ⟨B, 0, none⟩), .int .i64 mfn, .int .i64 off, .slice q n c] w fun e w' => e = .returned (.int .i64 x) ∧ Q w') :
    Calls Tryd.prog 41 #[.pointer (some ⟨V, 0, none⟩), .int .i64 mfn, .int .i64 off, .slice q n c] w fun e w' => e = .returned (.int .i64 x) ∧ Q w' := by
  have HW := Lib.hid h
  clear h
  go_enter Tryd.func41, Tryd.ntmps41
  go_wp2_with (go_at_call 60; refine (vnone_made V B _ h0).mono ?_; rintro e w' ⟨rfl, rfl⟩)
  refine HW.out.mono ?_
  rintro e w2 ⟨rfl, hq⟩
  have HQ := Lib.hid hq
  clear hq
  go_wp2
  go_ret
  exact ⟨rfl, HQ.out⟩

end Go.Proofs.YtmdeljacbekbpaaDoor

/- view.New. -/
namespace Go.Proofs.YtmdeljacbekbpaaDoor
open Go.RowKit Go.Maps
set_option maxRecDepth 100000

theorem vnew_none {p : Option Addr} (q : Option Addr) (n c : Nat) (w : World) (h : NoM w p) :
    Calls Tryd.prog 14 #[.pointer p, .slice q n c] w fun e w' => e = .returned (.tuple #[.pointer none, .int .i64 7]) ∧ w = w' := by
  go_enter Tryd.func14, Tryd.ntmps14
  go_wp2_with (go_at_call 35; refine (size_none _ h).mono ?_; rintro e w' ⟨rfl, rfl⟩)
  go_ret2
  exact ⟨rfl, rfl⟩

theorem vnew_long {B F : Nat} {S : List Fr} (q : Option Addr) (n c : Nat) (w : World) (h : PhM w B F S) (hn : 64 < n) (hn2 : n ≤ 140737488355328) :
    Calls Tryd.prog 14 #[.pointer (some ⟨B, 0, none⟩), .slice q n c] w fun e w' => e = .returned (.tuple #[.pointer none, .int .i64 2]) ∧ w = w' := by
  have hlen := h.len
  have ds : ((S.length : Int) == 0) = false := beq_eq_false_iff_ne.2 (by omega)
  have d1 : decide ((64 : Int) < n) = true := decide_eq_true (by omega)
  have d2 : decide (64 < n) = true := decide_eq_true (by omega)
  go_enter Tryd.func14, Tryd.ntmps14
  go_wp2_with (go_at_call 35; refine (size_made _ h).mono ?_; rintro e w' ⟨rfl, rfl⟩)
  go_ret2
  exact ⟨rfl, rfl⟩

/-- append onto an own row, as a step of a region that draws its order; told: where the new row lies. -/
theorem step_append_at {P : Program} {ops : Array Oper} {o : Oper} {a : Act} {w : World} {K : Act → World → Prop} {Q : Exit → Act → World → Prop} {E : Prop}
    (hg : o.guard = none) (s x : Operand) (t : TypeId) (hop : o.op = Op.call { callee := Callee.builtin Builtin.append, args := #[s, x], argTypes := #[t, t] })
    (base : Nat) (e : TypeId) (i : TypeInfo) (z : Value) (size bytes : Nat) (h1 : P.underlying t = some (.slice e)) (h2 : P.info? e = some i) (h3 : i.zero = some z) (h4 : i.size = size) (h5 : i.bytes = bytes) (h6 : z.cells.size = size) (h7 : 0 < size)
    (v : Value) (n : Nat) (xs : List Value) (hs : a.eval s = v) (hown : w.ownsRow base e size v n xs)
    (ad : Addr) (m c : Nat) (news : List Value) (hx : a.eval x = .slice (some ad) m c) (hn : news.length = m * size) (hc : ∀ j u, news[j]? = some u → w.cell? (ad.add j) = some u) (h1c : ∀ u ∈ news, u.oneCell' = true)
    (b1 : n + m ≤ maxLen) (b2 : (n + m) * bytes ≤ 140737488355328) (hbase : base ≤ w.heap.size)
    (hK : ∀ v' w', w'.ownsRow base e size v' (n + m) (xs ++ news) → w.grownBy w' v.ownBlock → (v'.ownBlock = v.ownBlock ∨ v'.ownBlock = some w.heap.size) → K (a.put o.dst v') w') :
    if Region.wanted o (yielded ops a.tmps) = true then Oper.wp P o a w K Q else E := by
  have hw : Region.wanted o (yielded ops a.tmps) = true := by simp [Region.wanted, hg]
  rw [if_pos hw]
  obtain ⟨v', w', hrun, r1, r2, _, r3⟩ := run_append_own_at (P := P) w base t o.type e i z size bytes h1 h2 h3 h4 h5 h6 h7 v n xs hown ad m c news hn hc h1c b1 b2 hbase
  unfold Oper.wp
  simp [execOp, hop, resolve, invoke, builtin, hs, hx, hrun, Result.andThen]
  exact hK v' w' r1 r2 r3

theorem Tryd.infoFunc : (Tryd.prog.info? 1).map (fun i => (i.zero, i.size, i.bytes)) = some (some .nilFunc, 1, 8) := by kernel_rfl

theorem dueAt_snoc (l : List Pk) (i : Nat) (p : Pk) (t : Int) (h : l[i]? = some p) : dueAt (l.take (i + 1)) t = if t = p.at_ then dueAt (l.take i) t ++ [p] else dueAt (l.take i) t := by
  unfold dueAt
  rw [List.take_add_one, h, List.filter_append]
  split
  · rename_i e; subst e; simp
  · rename_i e
    have : (p.at_ == t) = false := beq_eq_false_iff_ne.2 (fun q => e q.symm)
    simp [this]

/-- One rewrite more. -/
theorem ViM.more {w w3 w5 w6 : World} {base top i : Nat} {k : ViK} {B : Nat} {l : List Pk} {p : Pk} {nd : Nat} {D D' : DataW Unit} {sl : Int → Value} {cl : Int → List Value} {v' c : Value} (h : ViM w base top k B 0 (l.take i)) (hp : l[i]? = some p)
    (hd : Due Tryd.prog 3 w k.D (k.D + 1) 1 nd D sl cl) (hnd : nd ≤ (l.take i).length) (htop : ∀ t j, (sl t).ownBlock = some j → j < top) (hcl : ∀ t, (cl t).length = (dueAt (l.take i) t).length ∧ ∀ (j : Nat) p v, (dueAt (l.take i) t)[j]? = some p → (cl t)[j]? = some v → IsClo w base top k.vb p v)
    (ht : top = w.heap.size) (hm3 : Mod No w w3) (hg5 : w3.grownBy w5 (sl p.at_).ownBlock) (hv5 : ∀ j, v'.ownBlock = some j → j < w5.heap.size)
    (hd6 : Due Tryd.prog 3 w6 k.D (k.D + 1) 1 (nd + 1) D' (fun j => if j = p.at_ then v' else sl j) (fun j => if j = p.at_ then cl p.at_ ++ [c] else cl j)) (hg6 : w5.grownBy w6 (some k.D))
    (hc : IsClo w3 base w3.heap.size k.vb p c) (hr : ∀ x ∈ p.bs, 0 ≤ x ∧ x ≤ 255) : ViM w6 base w6.heap.size k B 0 (l.take (i + 1)) := by
  have hs3 := hm3.size
  have hs5 := hg5.size
  have hs6 := hg6.size
  have hbD := h.d.rng.2.2.2.2.1
  have hrow : ∀ j, (sl p.at_).ownBlock = some j → ∃ cur, w.heap[j]? = some (.cells cur 1 (0, 0)) := fun j hj => own_some (hd.row p.at_) hj
  have hm35 : Mod (fun j => some j = (sl p.at_).ownBlock) w3 w5 := (Mod.refl _ w3).grown hg5 (fun j ej _ => ej.symm)
  have hm56 : Mod (fun j => j = k.D) w5 w6 := (Mod.refl _ w5).grown hg6 (fun j ej _ => (Option.some.inj ej).symm)
  have hm : Mod (fun j => some j = (sl p.at_).ownBlock ∨ j = k.D) w w6 := ((Mod.of_no hm3).trans (hm35.mono (fun _ _ q => .inl q))).trans (hm56.mono (fun _ _ q => .inr q))
  have hmap : ∃ es ck, w.heap[k.D]? = some (.map es ck) := by obtain ⟨es, ck, hb, _⟩ := hd.map; exact ⟨es, ck, hb⟩
  have hks : KeepsS (fun j => some j = (sl p.at_).ownBlock ∨ j = k.D) w base top := by
    rintro j o h1 h2 h3 ⟨cs, t, fz, rfl, _, h5⟩ (q | q)
    · obtain ⟨cur, hcur⟩ := hrow j q.symm
      rw [hcur] at h3
      simp only [Option.some.injEq, Obj.cells.injEq] at h3
      exact h5 h3.2.1.symm
    · obtain ⟨es, ck, hb⟩ := hmap
      rw [q, hb] at h3; cases h3
  have hks3 : KeepsS (fun j => some j = (sl p.at_).ownBlock ∨ j = k.D) w3 base w3.heap.size := by
    rintro j o h1 h2 h3 ⟨cs, t, fz, rfl, _, h5⟩ (q | q)
    · obtain ⟨cur, hcur⟩ := hrow j q.symm
      have hcur := hm3.blk hcur (fun q => q)
      rw [hcur] at h3
      simp only [Option.some.injEq, Obj.cells.injEq] at h3
      exact h5 h3.2.1.symm
    · obtain ⟨es, ck, hb⟩ := hmap
      have hb := hm3.blk hb (fun q => q)
      rw [q, hb] at h3; cases h3
  have hm36 : Mod (fun j => some j = (sl p.at_).ownBlock ∨ j = k.D) w3 w6 := (hm35.mono (fun _ _ q => .inl q)).trans (hm56.mono (fun _ _ q => .inr q))
  have hc6 : IsClo w6 base w6.heap.size k.vb p c := (hc.kept hm36 hks3).more (by omega)
  have hrng := h.d.rng
  refine ⟨hm.blk h.head ?_, ⟨hm.blk h.d.box (hks _ _ hrng.2.2.1 hrng.2.2.2.1 h.d.box (soft_cells (by decide) (by decide))), ⟨hrng.1, by omega, hrng.2.2.1, by omega, hrng.2.2.2.2.1, by omega⟩, h.d.ne, ?_, nd + 1, D', _, _, hd6, ?_, ?_, ?_⟩⟩
  · rintro (q | q)
    · obtain ⟨cur, hcur⟩ := hrow _ q.symm
      have := h.head
      rw [hcur] at this
      simp at this
    · obtain ⟨es, ck, hb⟩ := hmap
      have := h.head
      rw [q, hb] at this; cases this
  · intro p' hp'
    rw [List.take_add_one, hp] at hp'
    rcases List.mem_append.1 hp' with q | q
    · exact h.d.range p' q
    · simp at q; rw [q]; exact hr
  · rw [List.take_add_one, hp]; simp; simp at hnd; omega
  · intro t j hj
    split at hj
    · have := hv5 j hj; omega
    · have := htop t j hj; omega
  · intro t
    have hsn := dueAt_snoc l i p t hp
    by_cases e : t = p.at_
    · subst e
      rw [if_pos rfl] at hsn
      rw [hsn]
      simp only [if_true]
      refine ⟨by simp [(hcl p.at_).1], ?_⟩
      intro j q v hq hv
      by_cases hj : j < (dueAt (l.take i) p.at_).length
      · rw [List.getElem?_append_left hj] at hq
        rw [List.getElem?_append_left (by rw [(hcl p.at_).1]; exact hj)] at hv
        exact (((hcl p.at_).2 j q v hq hv).kept hm hks).more (by omega)
      · rw [List.getElem?_append_right (by omega)] at hq
        rw [List.getElem?_append_right (by rw [(hcl p.at_).1]; omega), (hcl p.at_).1] at hv
        have hj0 : j - (dueAt (l.take i) p.at_).length = 0 := by
          have := (List.getElem?_eq_some_iff.1 hq).1
          simp at this; omega
        rw [hj0] at hq hv
        simp at hq hv
        rw [← hq, ← hv]; exact hc6
    · rw [if_neg e] at hsn
      rw [hsn, if_neg e]
      exact ⟨(hcl t).1, fun j q v hq hv => (((hcl t).2 j q v hq hv).kept hm hks).more (by omega)⟩

theorem ViM.begun (B : Nat) (w : World) : ViM (((w.alloc (.map #[] 0)).alloc (.cells #[.pointer (some ⟨B, 0, none⟩), .map (some w.heap.size), .int .i64 0] 97)).alloc (.cells #[.pointer (some ⟨w.heap.size + 1, 0, none⟩)] 37))
    w.heap.size (w.heap.size + 3) ⟨w.heap.size + 1, w.heap.size + 1 + 1, w.heap.size⟩ B 0 [] := by
  have e1 := heap_alloc_new (w.alloc (.map #[] 0)) (.cells #[.pointer (some ⟨B, 0, none⟩), .map (some w.heap.size), .int .i64 0] 97)
  have e2 := heap_alloc_new ((w.alloc (.map #[] 0)).alloc (.cells #[.pointer (some ⟨B, 0, none⟩), .map (some w.heap.size), .int .i64 0] 97)) (.cells #[.pointer (some ⟨w.heap.size + 1, 0, none⟩)] 37)
  rw [World.size_alloc] at e1
  rw [World.size_alloc, World.size_alloc] at e2
  refine ⟨blk_alloc e1 _, ⟨e2, ⟨by simp only; omega, by simp only; omega, by simp only; omega, by simp only; omega, by simp only; omega, by simp only; omega⟩, by simp only; omega, by simp, 0, .map [], fun _ => .slice none 0 0, fun _ => [], ?_, Nat.le_refl _, ?_, fun t => ⟨rfl, fun i p v hp => by simp [dueAt] at hp⟩⟩⟩
  · exact ((Due.made Tryd.prog 3 1 w).keptNo ((Mod.refl No _).alloc _)).keptNo ((Mod.refl No _).alloc _)
  · intro t i hi
    simp [Value.ownBlock] at hi

set_option maxHeartbeats 8000000 in
theorem vnew_in {B F : Nat} {S : List Fr} (q : Option Addr) (l : List Pk) (cap : Nat) (w : World) (h : PhM w B F S) (hs : PkS w q l) (hn : l.length ≤ 64) :
    Calls Tryd.prog 14 #[.pointer (some ⟨B, 0, none⟩), .slice q l.length cap] w fun e w' => ∃ k : ViK, e = .returned (.tuple #[.pointer (some ⟨k.V, 0, none⟩), .int .i64 0]) ∧ Mod No w w' ∧ ViM w' w.heap.size w'.heap.size k B 0 l := by
  have hlen := h.len
  have ds : ((S.length : Int) == 0) = false := beq_eq_false_iff_ne.2 (by omega)
  have d1 : decide ((64 : Int) < l.length) = false := decide_eq_false (by omega)
  have d2 : decide (64 < l.length) = false := decide_eq_false (by omega)
  have hmm := @run_makeMap Tryd.prog
  obtain ⟨i0, hi, hz0, hz1, hz2⟩ := info_parts Tryd.infoFunc
  obtain ⟨u0, hu, hu0, hu1, hu2⟩ := info_parts Tryd.infoU8
  have HS := Lib.hid hs
  have HSZ := Lib.hid (size_made w h)
  clear hs h
  go_enter Tryd.func14, Tryd.ntmps14
  go_wp2_with (go_at_call 35; refine HSZ.out.mono ?_; rintro e w' ⟨rfl, rfl⟩)
  have HV0 : Hid (ViM (((w.alloc (.map #[] 0)).alloc (.cells #[.pointer (some ⟨B, 0, none⟩), .map (some w.heap.size), .int .i64 0] 97)).alloc (.cells #[.pointer (some ⟨w.heap.size + 1, 0, none⟩)] 37)) w.heap.size _ ⟨w.heap.size + 1, w.heap.size + 1 + 1, w.heap.size⟩ B 0 []) := ViM.begun B w
  have HM0 : Hid (Mod No w (((w.alloc (.map #[] 0)).alloc (.cells #[.pointer (some ⟨B, 0, none⟩), .map (some w.heap.size), .int .i64 0] 97)).alloc (.cells #[.pointer (some ⟨w.heap.size + 1, 0, none⟩)] 37))) := (((Mod.refl No w).alloc _).alloc _).alloc _
  go_loopw [24] (fun v wr => ∃ i : Nat, i ≤ l.length ∧ v = .int .i64 i ∧ Mod No w wr ∧ ViM wr w.heap.size wr.heap.size ⟨w.heap.size + 1, w.heap.size + 1 + 1, w.heap.size⟩ B 0 (l.take i)) (fun v _ => l.length - (intOf v).toNat)
  case atStart => exact ⟨0, Nat.zero_le _, rfl, HM0.out, by simpa using HV0.out⟩
  case round =>
    clear HV0 HM0
    obtain ⟨i, hil, rfl, hm, hv⟩ := hrel
    by_cases hlt : i < l.length
    · obtain ⟨p, hp⟩ : ∃ p, l[i]? = some p := ⟨_, List.getElem?_eq_getElem hlt⟩
      obtain ⟨sb, so, rfl, _, c0, c1, c2, c3⟩ := (HS.out.kept hm).cellsAt hp
      have hok := HS.out.ok p (List.mem_of_getElem? hp)
      have hpw := hok.w_at_
      have hby := hok.b.kept hm
      obtain ⟨nd, D, sl, cl, hd, hnd, htop, hcl⟩ := hv.d.due
      obtain ⟨h0, h1, h2, h3⟩ := hv.c0
      have x0 := row_cell (l := [Value.pointer (some ⟨w.heap.size + 1, 0, none⟩)]) hv.d.box 0
      simp only [List.getElem?_cons_zero] at x0
      have hpb : (wr.alloc (.cells #[.int .i64 p.at_, .int .i64 p.mfn, .int .i64 p.off, .slice p.bq p.bs.length p.bc] 99)).heap[wr.heap.size]? = some (.cells p.cells.toArray 99 (0, 0)) := heap_alloc_new wr _
      have hby1 := hby.kept ((Mod.refl No wr).alloc (.cells #[.int .i64 p.at_, .int .i64 p.mfn, .int .i64 p.off, .slice p.bq p.bs.length p.bc] 99))
      have hbl := hby.len
      have hsz := hm.size
      have HV := Lib.hid hv
      have HM := Lib.hid hm
      have HD := Lib.hid hd
      have HCL := Lib.hid hcl
      have HTOP := Lib.hid htop
      have HND := Lib.hid hnd
      have HP := Lib.hid hp
      have HPB := Lib.hid hpb
      have HBY := Lib.hid hby1
      have HR := Lib.hid hby.range
      have HX := Lib.hid x0
      have HH1 := Lib.hid h1
      clear hv hm hd hcl htop hnd hp hpb hby hby1 hok x0 h0 h1 h2 h3
      go_upto_block 2 with (fail)
      go_cut [8, 9] from 26 to 47 (fun _ _ wx => Mod No w wx ∧ ViM wx w.heap.size wx.heap.size ⟨w.heap.size + 1, w.heap.size + 1 + 1, w.heap.size⟩ B 0 (l.take (i + 1)))
      case first =>
        go_upto_region 10 with (at_builtin; refine wpList_append_byt rfl _ _ rfl (w.heap.size) (.slice none 0 0) [] rfl (World.ownsRow_nil _ _ _ _) p.bq p.bs p.bc rfl HBY.out (by simpa using hbl) (by simp; omega) ?_; intro v' w2 hown2 hgrow2; rw [List.nil_append] at hown2; obtain ⟨g2, cap2, rfl⟩ := owns_slice hown2)
        obtain ⟨O2, hO2⟩ : ∃ O2 : Obj, O2 = .cells #[.slice g2 p.bs.length cap2] 22 := ⟨_, rfl⟩
        have hm2 : Mod No wr w2 := ((Mod.refl No wr).alloc _).grown hgrow2 (fun k e => by cases e)
        have hs2 := hgrow2.size
        rw [World.size_alloc] at hs2
        have hmW : Mod No wr (w2.alloc (.cells #[.slice g2 p.bs.length cap2] 22)) := hm2.alloc _
        have hvbW := hmW.blk HV.out.d.box (fun q => q)
        have hVW := hmW.blk HV.out.head (fun q => q)
        have hpW := (((Mod.refl No (wr.alloc (.cells #[.int .i64 p.at_, .int .i64 p.mfn, .int .i64 p.off, .slice p.bq p.bs.length p.bc] 99))).grown hgrow2 (fun k e => by cases e)).alloc (.cells #[.slice g2 p.bs.length cap2] 22)).blk HPB.out (fun q => q)
        have hbW : (w2.alloc (.cells #[.slice g2 p.bs.length cap2] 22)).heap[w2.heap.size]? = some (.cells #[.slice g2 p.bs.length cap2] 22 (0, 0)) := heap_alloc_new w2 _
        have y0 := row_cell (l := [Value.pointer (some ⟨w.heap.size + 1, 0, none⟩)]) hvbW 0
        have y1 := row_cell (l := [.pointer (some ⟨B, 0, none⟩), .map (some w.heap.size), .int .i64 0]) hVW 1
        have y2 := row_cell hpW 0
        simp only [Pk.cells, List.getElem?_cons_zero, List.getElem?_cons_succ] at y0 y1 y2
        have hdW := HD.out.keptNo hmW
        have hownW : (w2.alloc (.cells #[.slice g2 p.bs.length cap2] 22)).ownsRow w.heap.size 5 1 (.slice g2 p.bs.length cap2) p.bs.length (p.bs.map (Value.int .u8)) := hown2.alloc _
        have htopW : ∀ j, (Value.slice g2 p.bs.length cap2).ownBlock = some j → j < w2.heap.size := fun j hj => (hown2.lt j hj).2
        generalize hW : (w2.alloc (.cells #[.slice g2 p.bs.length cap2] 22)) = W at hmW hvbW hVW hpW hbW y0 y1 y2 hdW hownW ⊢
        have hWs : W.heap.size = w2.heap.size + 1 := by rw [← hW]; simp
        have hclo : IsClo W w.heap.size W.heap.size (w.heap.size + 1 + 1) p (cloVal (w.heap.size + 1 + 1) wr.heap.size w2.heap.size) :=
          ⟨wr.heap.size, w2.heap.size, g2, p.bs.length, cap2, rfl, by omega, by omega, hpW, hbW, hownW, fun j hj => by have := htopW j hj; omega, HR.out⟩
        have hmW2 : Mod No W (W.alloc (.cells #[cloVal (w.heap.size + 1 + 1) wr.heap.size w2.heap.size] 1)).drew := ((Mod.refl No W).alloc _).drew
        have hd2 := hdW.keptNo hmW2
        have hlk1 := (hdW.keptNo (Mod.refl No W).drew).look lawInt Tryd.underlying3 Tryd.underlying95 (zeroDue _) p.at_ hpw
        have hlk2 := hd2.look lawInt Tryd.underlying3 Tryd.underlying95 (zeroDue _) p.at_ hpw
        unfold cloVal at hlk2 hclo
        have hS1 : (fun w' : World => w'.cell? ⟨w.heap.size + 1 + 1, 0, none⟩ = some (.pointer (some ⟨w.heap.size + 1, 0, none⟩)) ∧ w'.cell? ⟨w.heap.size + 1, 1, none⟩ = some (.map (some w.heap.size)) ∧ w'.cell? ⟨wr.heap.size, 0, none⟩ = some (.int .i64 p.at_)) W := ⟨y0, y1, y2⟩
        have hcl0 : (cl p.at_).length ≤ 64 := by
          have h1 := (HCL.out p.at_).1
          have h2 : (dueAt (l.take i) p.at_).length ≤ (l.take i).length := List.length_filter_le _ _
          rw [List.length_take] at h2
          omega
        have hnd64 : nd ≤ 64 := by have := HND.out; rw [List.length_take] at this; omega
        have HD2 := Lib.hid hd2
        have HROW := Lib.hid (hd2.row p.at_)
        have HKLO := Lib.hid hclo
        have HMW := Lib.hid hmW
        have HMW2 := Lib.hid hmW2
        have hvr : w.heap.size + 1 + 1 < wr.heap.size := HV.out.d.rng.2.2.2.1
        have hvb4 := hmW2.blk hvbW (fun q => q)
        have hV4 := hmW2.blk hVW (fun q => q)
        have hp4 := hmW2.blk hpW (fun q => q)
        have hSA : (fun w' : World => w'.cell? ⟨w.heap.size + 1 + 1, 0, none⟩ = some (.pointer (some ⟨w.heap.size + 1, 0, none⟩)) ∧ w'.cell? ⟨w.heap.size + 1, 1, none⟩ = some (.map (some w.heap.size)) ∧ w'.cell? ⟨wr.heap.size, 0, none⟩ = some (.int .i64 p.at_)) (W.alloc (.cells #[(.func (.func 36) #[] #[.pointer (some ⟨w.heap.size + 1 + 1, 0, none⟩), .pointer (some ⟨wr.heap.size, 0, none⟩), .pointer (some ⟨w2.heap.size, 0, none⟩)])] 1)).drew :=
          ⟨(World.cell?_of_block (w := W) (hmW2.block _ (lt_of_blk hvbW) (fun q => q))).trans y0, (World.cell?_of_block (w := W) (hmW2.block _ (lt_of_blk hVW) (fun q => q))).trans y1, (World.cell?_of_block (w := W) (hmW2.block _ (lt_of_blk hpW) (fun q => q))).trans y2⟩
        have hb1 := blk_ne (hd2.row p.at_) hvb4 (by decide)
        have hb2 := blk_ne (hd2.row p.at_) hV4 (by decide)
        have hb3 := blk_ne (hd2.row p.at_) hp4 (by decide)
        have hl1 := lt_of_blk hvb4
        have hl2 := lt_of_blk hV4
        have hl3 := lt_of_blk hp4
        have HSA := Lib.hid hSA
        clear hvb4 hV4 hp4 hd2 hclo hmW hmW2 hdW hvbW hVW hpW hbW hm2 hgrow2 hown2 htopW hO2 hownW hW
        go_region_held3 (fun w' : World => w'.cell? ⟨w.heap.size + 1 + 1, 0, none⟩ = some (.pointer (some ⟨w.heap.size + 1, 0, none⟩)) ∧ w'.cell? ⟨w.heap.size + 1, 1, none⟩ = some (.map (some w.heap.size)) ∧ w'.cell? ⟨wr.heap.size, 0, none⟩ = some (.int .i64 p.at_)) (first | exact hS1 | exact HSA.out | assumption) ((refine step_append_at rfl (.tmp 43) (.tmp 45) 100 rfl (w.heap.size + 1) 1 i0 .nilFunc 1 8 Tryd.underlying100 hi hz0 hz1 hz2 rfl (by decide) (sl p.at_) (cl p.at_).length (cl p.at_) (by simp [Act.eval]) HROW.out ⟨W.heap.size, 0, none⟩ 1 1 [(.func (.func 36) #[] #[.pointer (some ⟨w.heap.size + 1 + 1, 0, none⟩), .pointer (some ⟨wr.heap.size, 0, none⟩), .pointer (some ⟨w2.heap.size, 0, none⟩)])] (by simp [Act.eval]) rfl (fun j u hj => by rw [Addr.add_lit, Nat.zero_add]; exact (row_cell (heap_alloc_new W (.cells #[(.func (.func 36) #[] #[.pointer (some ⟨w.heap.size + 1 + 1, 0, none⟩), .pointer (some ⟨wr.heap.size, 0, none⟩), .pointer (some ⟨w2.heap.size, 0, none⟩)])] 1)) j).trans hj) (by simp [Value.oneCell']) (by unfold maxLen; omega) (by omega) (by simp; omega) ?_; intro v5 w5 hown5 hgrow5 hat5; obtain ⟨w6, D6, hrun6, hd6, hg6⟩ := HD2.out.stored lawInt Tryd.underlying3 Tryd.underlying95 (by unfold maxLen; omega) p.at_ hpw hown5 hgrow5 (hat5.imp id (fun q => ⟨_, q, Nat.le_refl _⟩)); have hS5 : (fun w' : World => w'.cell? ⟨w.heap.size + 1 + 1, 0, none⟩ = some (.pointer (some ⟨w.heap.size + 1, 0, none⟩)) ∧ w'.cell? ⟨w.heap.size + 1, 1, none⟩ = some (.map (some w.heap.size)) ∧ w'.cell? ⟨wr.heap.size, 0, none⟩ = some (.int .i64 p.at_)) w5 := ⟨(World.cell?_of_block (hgrow5.block _ hl1 hb1)).trans HSA.out.1, (World.cell?_of_block (hgrow5.block _ hl2 hb2)).trans HSA.out.2.1, (World.cell?_of_block (hgrow5.block _ hl3 hb3)).trans HSA.out.2.2⟩; have hS6 : (fun w' : World => w'.cell? ⟨w.heap.size + 1 + 1, 0, none⟩ = some (.pointer (some ⟨w.heap.size + 1, 0, none⟩)) ∧ w'.cell? ⟨w.heap.size + 1, 1, none⟩ = some (.map (some w.heap.size)) ∧ w'.cell? ⟨wr.heap.size, 0, none⟩ = some (.int .i64 p.at_)) w6 := ⟨(World.cell?_of_block (hg6.block _ (World.block_lt_of_cell? w5 _ hS5.1) (by simp only [ne_eq, Option.some.injEq]; omega))).trans hS5.1, (World.cell?_of_block (hg6.block _ (World.block_lt_of_cell? w5 _ hS5.2.1) (by simp only [ne_eq, Option.some.injEq]; omega))).trans hS5.2.1, (World.cell?_of_block (hg6.block _ (World.block_lt_of_cell? w5 _ hS5.2.2) (by simp only [ne_eq, Option.some.injEq]; omega))).trans hS5.2.2⟩; have HV6 := Lib.hid (ViM.more HV.out HP.out HD.out HND.out HTOP.out HCL.out rfl (HMW.out.trans HMW2.out) hgrow5 (fun j hj => (hown5.lt j hj).2) hd6 hg6 ((HKLO.out.kept HMW2.out (fun _ _ _ _ _ _ q => q)).more HMW2.out.size) HR.out); have HM6 : Hid (Mod No w w6) := ((HM.out.trans (HMW.out.trans HMW2.out)).step ((Mod.refl _ _).grown hgrow5 (fun j ej _ => ej.symm) : Mod (fun j => some j = (sl p.at_).ownBlock) _ w5) (fun j hj q => by have := ((HD.out.row p.at_).lt j q.symm).1; simp only at this; omega)).step ((Mod.refl _ _).grown hg6 (fun j ej _ => (Option.some.inj ej).symm) : Mod (fun j => j = w.heap.size) w5 w6) (fun j hj q => by omega); clear hown5 hgrow5 hat5 hd6 hg6))
        all_goals (go_wp2_with fail; go_meet; exact ⟨HM6.out, HV6.out⟩)
      case rest =>
        obtain ⟨hm', hv'⟩ := hcut
        have HV' := Lib.hid hv'
        have HM' := Lib.hid hm'
        clear hv' hm'
        go_wp2
        go_roundw
        case rel => exact ⟨i + 1, by omega, by go_num, HM'.out, HV'.out⟩
        case measure => simp [intOf]; omega
    · obtain rfl : i = l.length := by omega
      rw [List.take_length] at hv
      have x0 := row_cell (l := [Value.pointer (some ⟨w.heap.size + 1, 0, none⟩)]) hv.d.box 0
      simp only [List.getElem?_cons_zero] at x0
      have HV := Lib.hid hv
      have HM := Lib.hid hm
      clear hv hm
      go_wp2
      go_ret2
      exact ⟨⟨w.heap.size + 1, w.heap.size + 1 + 1, w.heap.size⟩, rfl, HM.out, HV.out⟩

end Go.Proofs.YtmdeljacbekbpaaDoor

/- A machine with a view, and two of them side by side. -/
namespace Go.Proofs.YtmdeljacbekbpaaDoor
open Go.RowKit
set_option maxRecDepth 100000

/-- The code's machine with its view, behind a beginning. -/
structure VwS (w0 : World) (B F base top : Nat) (k : ViK) (N : Int) (l : List Pk) (S : List Fr) (w : World) : Prop where
  p : PhM w B F S
  v : ViM w base top k B N l
  mod : Mod No w0 w
  F : w0.heap.size ≤ F ∧ F < base

theorem VwS.no {w0 w w' : World} {B F base top : Nat} {k : ViK} {N : Int} {l : List Pk} {S : List Fr} (h : VwS w0 B F base top k N l S w) (hm : Mod No w w') : VwS w0 B F base top k N l S w' :=
  ⟨h.p.kept hm (fun q => q) (fun q => q), h.v.no hm, h.mod.trans hm, h.F⟩
theorem VwS.step {w0 w w' : World} {B F base top : Nat} {k : ViK} {N N' : Int} {l : List Pk} {S S' : List Fr} (h : VwS w0 B F base top k N l S w) (o : VOut base top B F k N' l S' w w') : VwS w0 B F base top k N' l S' w' := by
  refine ⟨o.p, o.v, h.mod.step o.mod ?_, h.F⟩
  intro i hi q
  have hf := h.F
  have hk := h.v.d.rng.1
  rcases q with rfl | rfl <;> omega

theorem PhM.neF {w : World} {B F B2 F2 : Nat} {S S2 : List Fr} (h : PhM w B F S) (h2 : PhM w B2 F2 S2) : B2 ≠ F := by
  rintro rfl
  obtain ⟨c, _, h1⟩ := h2.head
  obtain ⟨r, h2⟩ := h.row
  rw [h1] at h2
  simp at h2
theorem PhM.neVw {w : World} {B F base top B2 : Nat} {k : ViK} {N : Int} {l : List Pk} {S : List Fr} (h : PhM w B F S) (v : ViM w base top k B2 N l) : B ≠ k.V := by
  intro e
  obtain ⟨c, _, h1⟩ := h.head
  have h2 := v.head
  rw [← e, h1] at h2
  simp at h2

structure TwoV (w0 : World) (B F base top : Nat) (k : ViK) (N : Int) (l : List Pk) (S : List Fr) (B2 F2 base2 top2 : Nat) (k2 : ViK) (N2 : Int) (l2 : List Pk) (S2 : List Fr) (w : World) : Prop where
  a : VwS w0 B F base top k N l S w
  b : VwS w0 B2 F2 base2 top2 k2 N2 l2 S2 w
  ff : F < F2
  fb : F2 < base
  tt : top ≤ base2

theorem TwoV.no {w0 w w' : World} {B F base top : Nat} {k : ViK} {N : Int} {l : List Pk} {S : List Fr} {B2 F2 base2 top2 : Nat} {k2 : ViK} {N2 : Int} {l2 : List Pk} {S2 : List Fr}
    (h : TwoV w0 B F base top k N l S B2 F2 base2 top2 k2 N2 l2 S2 w) (hm : Mod No w w') : TwoV w0 B F base top k N l S B2 F2 base2 top2 k2 N2 l2 S2 w' :=
  ⟨h.a.no hm, h.b.no hm, h.ff, h.fb, h.tt⟩
theorem TwoV.stepA {w0 w w' : World} {B F base top : Nat} {k : ViK} {N N' : Int} {l : List Pk} {S S' : List Fr} {B2 F2 base2 top2 : Nat} {k2 : ViK} {N2 : Int} {l2 : List Pk} {S2 : List Fr}
    (h : TwoV w0 B F base top k N l S B2 F2 base2 top2 k2 N2 l2 S2 w) (o : VOut base top B F k N' l S' w w') : TwoV w0 B F base top k N' l S' B2 F2 base2 top2 k2 N2 l2 S2 w' := by
  have h1 := h.ff
  have h2 := h.fb
  have h3 := h.tt
  have r1 := h.a.v.d.rng
  have r2 := h.b.v.d.rng
  have f1 := h.a.F
  have n1 := h.a.p.neF h.b.p
  have n2 := h.b.p.neVw h.a.v
  have ha := h.a.step o
  refine ⟨ha, ⟨h.b.p.kept o.mod ?_ ?_, h.b.v.kept o.mod ?_, ha.mod, h.b.F⟩, h1, h2, h3⟩
  · rintro (q | q)
    · exact n1 q
    · exact n2 q
  · rintro (q | q) <;> omega
  · rintro i hi1 hi2 (q | q) <;> omega
theorem TwoV.stepB {w0 w w' : World} {B F base top : Nat} {k : ViK} {N N2' : Int} {l : List Pk} {S S2' : List Fr} {B2 F2 base2 top2 : Nat} {k2 : ViK} {N2 : Int} {l2 : List Pk} {S2 : List Fr}
    (h : TwoV w0 B F base top k N l S B2 F2 base2 top2 k2 N2 l2 S2 w) (o : VOut base2 top2 B2 F2 k2 N2' l2 S2' w w') : TwoV w0 B F base top k N l S B2 F2 base2 top2 k2 N2' l2 S2' w' := by
  have h1 := h.ff
  have h2 := h.fb
  have h3 := h.tt
  have r1 := h.a.v.d.rng
  have r2 := h.b.v.d.rng
  have f1 := h.a.F
  have n1 := h.b.p.neF h.a.p
  have n2 := h.a.p.neVw h.b.v
  have hb := h.b.step o
  refine ⟨⟨h.a.p.kept o.mod ?_ ?_, h.a.v.kept o.mod ?_, hb.mod, h.a.F⟩, hb, h1, h2, h3⟩
  · rintro (q | q)
    · exact n1 q
    · exact n2 q
  · rintro (q | q) <;> omega
  · rintro i hi1 hi2 (q | q) <;> omega

theorem VOut.drew {base top B F : Nat} {k : ViK} {N : Int} {l : List Pk} {S : List Fr} {w w' : World} (h : VOut base top B F k N l S w w') (n : Nat) : VOut base top B F k N l S w (w'.drewN n) :=
  ⟨h.mod.trans (Mod.of_no ((Mod.refl No w').drewN n)), h.p.kept ((Mod.refl No w').drewN n) (fun q => q) (fun q => q), h.v.no ((Mod.refl No w').drewN n)⟩

end Go.Proofs.YtmdeljacbekbpaaDoor
