/- A map of slices, by whole numbers, that the call has made: m[k] = append(m[k], v), whatever the elements are. -/
import Derived.Maps.OwnOps
import Derived.Maps.AppendAt
import Derived.Maps.RangeWalk
import Derived.Maps.Views
import Derived.WalkKit
import Derived.Test.YthfkpbfapkpnfabBase
namespace Go.Proofs.Ythfkpbfapkpnfab
open Go.RowKit Go.Maps

/-- How a slice reads, as an element: by its header alone. -/
def sliceElem (v : Value) : Option (DataW Unit × List MemPlace) :=
  match v with
  | .slice none 0 0 => some (.nil, [])
  | .slice (some ⟨g, 0, none⟩) n c => some (.slice [.lit (.int .i64 g), .lit (.int .i64 n), .lit (.int .i64 c)] [], [])
  | _ => none

theorem sliceElem_nil {v : Value} (h : sliceElem v = some (.nil, [])) : v = .slice none 0 0 := by
  unfold sliceElem at h
  split at h
  · rfl
  · simp at h
  · cases h
theorem sliceElem_inj {v v' : Value} {z : DataW Unit × List MemPlace} (h : sliceElem v = some z) (h' : sliceElem v' = some z) : v = v' := by
  unfold sliceElem at h h'
  split at h
  · cases h
    split at h'
    · rfl
    · simp at h'
    · cases h'
  · cases h
    split at h'
    · simp at h'
    · simp only [Option.some.injEq, Prod.mk.injEq, DataW.slice.injEq, List.cons.injEq, DataW.lit.injEq, Lit.int.injEq, true_and, and_true] at h'
      obtain ⟨a, b, c⟩ := h'
      have a := Int.ofNat.inj a
      have b := Int.ofNat.inj b
      have c := Int.ofNat.inj c
      subst a; subst b; subst c; rfl
    · cases h'
  · cases h
theorem sliceElem_shape {v : Value} {y : DataW Unit × List MemPlace} (h : sliceElem v = some y) : ∃ c : Option Addr × Nat × Nat, v = .slice c.1 c.2.1 c.2.2 := by
  unfold sliceElem at h
  split at h
  · exact ⟨(none, 0, 0), rfl⟩
  · exact ⟨(_, _, _), rfl⟩
  · cases h
theorem sliceElem_places {v : Value} {d : DataW Unit} {ps : List MemPlace} (h : sliceElem v = some (d, ps)) : ps = [] := by
  unfold sliceElem at h
  split at h
  · exact (Prod.mk.inj (Option.some.inj h)).2.symm
  · exact (Prod.mk.inj (Option.some.inj h)).2.symm
  · cases h
theorem sliceElem_own {w : World} {base : Nat} {e : TypeId} {size : Nat} {v : Value} {n : Nat} {xs : List Value} (h : w.ownsRow base e size v n xs) : ∃ d, sliceElem v = some (d, []) := by
  rcases h.2 with ⟨rfl, _⟩ | ⟨g, cap, cur, rfl, _⟩
  · exact ⟨_, rfl⟩
  · exact ⟨_, rfl⟩

structure Due (P : Program) (K : TypeId) (w : World) (b base : Nat) (e : TypeId) (n : Nat) (D : DataW Unit) (sl : Int → Value) (cl : Int → List Value) : Prop where
  map : w.ownsMap P K sliceElem b n D
  lt : b < base
  read : ∀ k, sliceElem (sl k) = some (D.atKey (.int .i64 k) .nil, [])
  row : ∀ k, w.ownsRow base e 1 (sl k) (cl k).length (cl k)
  apart : ∀ k k', k ≠ k' → (sl k).ownBlock = none ∨ (sl k).ownBlock ≠ (sl k').ownBlock
  isMap : IsMap D

variable {P : Program} {K e : TypeId} {w : World} {b base n : Nat} {D : DataW Unit} {sl : Int → Value} {cl : Int → List Value}

theorem atKey_empty (k : Lit) (z : DataW Unit) : (DataW.map [] : DataW Unit).atKey k z = z := atKey_of_not_has rfl z

theorem Due.made (P : Program) (K e : TypeId) (w : World) : Due P K (w.alloc (.map #[] 0)) w.heap.size (w.heap.size + 1) e 0 (.map []) (fun _ => .slice none 0 0) (fun _ => []) :=
  ⟨World.ownsMap_made _ _ _ _, Nat.lt_succ_self _, fun k => by rw [atKey_empty]; rfl, fun _ => World.ownsRow_nil _ _ _ _, fun _ _ _ => .inl rfl, ⟨[], rfl⟩⟩

theorem Due.not_has (h : Due P K w b base e n D sl cl) {k : Int} (hk : has D (.int .i64 k) = false) : sl k = .slice none 0 0 ∧ cl k = [] := by
  have h1 := h.read k
  rw [atKey_of_not_has hk] at h1
  have h2 := sliceElem_nil h1
  refine ⟨h2, ?_⟩
  rcases (h.row k).2 with ⟨_, h0⟩ | ⟨g, cap, cur, hv, _⟩
  · exact List.eq_nil_of_length_eq_zero h0
  · rw [h2] at hv; cases hv

/-- It stays where its blocks do. -/
theorem own_mod {w w' : World} {Q : Nat → Prop} {n₀ : Nat} {e : TypeId} {size : Nat} {v : Value} {k : Nat} {xs : List Value} (h : w.ownsRow n₀ e size v k xs) (hm : Mod Q w w') (hq : ∀ i, v.ownBlock = some i → ¬ Q i) : w'.ownsRow n₀ e size v k xs := by
  refine ⟨h.1, ?_⟩
  rcases h.2 with h2 | ⟨g, cap, cur, hv, hg, hr, r⟩
  · exact .inl h2
  · exact .inr ⟨g, cap, cur, hv, hg, hm.blk hr (hq g (by rw [hv]; rfl)), r⟩
theorem Due.kept {w' : World} {Q : Nat → Prop} (h : Due P K w b base e n D sl cl) (hm : Mod Q w w') (hb : ¬ Q b) (hq : ∀ k i, (sl k).ownBlock = some i → ¬ Q i) : Due P K w' b base e n D sl cl := by
  refine ⟨?_, h.lt, h.read, fun k => own_mod (h.row k) hm (fun i hi => hq k i hi), h.apart, h.isMap⟩
  have hlt := h.map.lt
  obtain ⟨es, clock, hb', F, hs, hD⟩ := h.map
  exact ⟨es, clock, (hm.block b hlt hb).trans hb', F, hs, hD⟩
theorem Due.keptNo {w' : World} (h : Due P K w b base e n D sl cl) (hm : Mod No w w') : Due P K w' b base e n D sl cl := h.kept hm (fun q => q) (fun _ _ _ q => q)

/-- The look-up. -/
theorem Due.look {T : TypeId} (h : Due P K w b base e n D sl cl) (L : Keyed P K) (hk : P.underlying K = some (.int .i64)) {E : TypeId} (ht : P.underlying T = some (.map K E)) (hz : (zeroValue E).run P w = .ok (.slice none 0 0) w) (k : Int) (hw : (Lit.int .i64 k).wf = true) :
    (Instr.lookup T (.map (some b)) (.int .i64 k) false).run P w = .ok (sl k) w := by
  obtain ⟨v, ps, hrun, hv⟩ := h.map.lookup L ht hz (zd := .nil) (zp := []) rfl (keyOf_int_mk hk hw)
  have hr := h.read k
  have : ps = [] := sliceElem_places hv
  subst this
  rw [sliceElem_inj hr hv]
  exact hrun

/-- Behind 'append(m[k], c)': the new slice; then the store. -/
theorem Due.stored {w1 : World} {T : TypeId} (h : Due P K w b base e n D sl cl) (L : Keyed P K) (hk : P.underlying K = some (.int .i64)) {E : TypeId} (ht : P.underlying T = some (.map K E)) (hn : n < maxLen) (k : Int) (hw : (Lit.int .i64 k).wf = true)
    {c v' : Value} (hown : w1.ownsRow base e 1 v' ((cl k).length + 1) (cl k ++ [c])) (hg : w.grownBy w1 (sl k).ownBlock) (hat : v'.ownBlock = (sl k).ownBlock ∨ ∃ i, v'.ownBlock = some i ∧ w.heap.size ≤ i) :
    ∃ w2 D', (Instr.mapUpdate T (.map (some b)) (.int .i64 k) v').run P w1 = .ok () w2 ∧ Due P K w2 b base e (n + 1) D' (fun j => if j = k then v' else sl j) (fun j => if j = k then cl k ++ [c] else cl j) ∧ w1.grownBy w2 (some b) := by
  obtain ⟨d, hd⟩ := sliceElem_own hown
  have hbk : ∀ j, some b ≠ (sl j).ownBlock := by
    intro j q
    have := ((h.row j).lt b q.symm).1
    have := h.lt
    omega
  obtain ⟨w2, hrun, hm2, hg2⟩ := (h.map.kept hg (hbk k)).update L ht hn (keyOf_int_mk hk hw) hd
  refine ⟨w2, _, hrun, ⟨hm2, h.lt, ?_, ?_, ?_, h.isMap.put _ _⟩, hg2⟩
  · intro j
    by_cases e : j = k
    · subst e
      rw [if_pos rfl]
      rw [atKey_put_same h.isMap (by trivial), hd]
    · rw [if_neg e, atKey_put_other (by simpa using e)]
      exact h.read j
  · intro j
    by_cases e : j = k
    · rw [if_pos e, if_pos e]
      have hb' : v'.ownBlock = none ∨ v'.ownBlock ≠ some b := by
        cases hv : v'.ownBlock with
        | none => exact .inl rfl
        | some i => right; intro q; have := (hown.lt i hv).1; have := h.lt; cases q; omega
      have := hown.kept hg2 hb'
      simpa using this
    · rw [if_neg e, if_neg e]
      exact ((h.row j).kept hg (h.apart j k e)).kept hg2 (.inr (fun q => hbk j q.symm))
  · intro j j' hne
    have hold : ∀ i, (sl i).ownBlock = none ∨ (∃ x, (sl i).ownBlock = some x ∧ x < w.heap.size) := by
      intro i
      cases hv : (sl i).ownBlock with
      | none => exact .inl rfl
      | some x => exact .inr ⟨x, rfl, ((h.row i).lt x hv).2⟩
    by_cases e : j = k
    · rw [if_pos e, if_neg (by rintro rfl; exact hne e)]
      rcases hat with q | ⟨i, q, hi⟩
      · rw [q]; exact h.apart k j' (by rintro rfl; exact hne e)
      · right
        rw [q]
        intro r
        rcases hold j' with r2 | ⟨x, r2, hx⟩
        · rw [r2] at r; cases r
        · rw [r2] at r; cases r; omega
    · rw [if_neg e]
      by_cases e' : j' = k
      · rw [if_pos e']
        rcases hat with q | ⟨i, q, hi⟩
        · rw [q]; exact h.apart j k e
        · rcases hold j with r2 | ⟨x, r2, hx⟩
          · exact .inl r2
          · right; rw [r2, q]; intro r; cases r; omega
      · rw [if_neg e']; exact h.apart j j' hne

end Go.Proofs.Ythfkpbfapkpnfab
