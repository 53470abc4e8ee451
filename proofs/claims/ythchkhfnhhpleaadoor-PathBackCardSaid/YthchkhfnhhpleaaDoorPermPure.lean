/- Permissions of a text, plainly: what is read at a place, what comes back. -/
import Derived.Test.YthchkhfnhhpleaaDoorPmRow
import Derived.Test.YthchkhfnhhpleaaDoorPathName2
import Derived.Lib.Bytealg
namespace Go.Proofs.YthchkhfnhhpleaaDoor
open Go.RowKit
set_option maxRecDepth 100000

/-- What stands ahead of the next permission. -/
def preP (acc : List Pm) : List UInt8 := if acc = [] then [] else joinWith 44 (acc.map Pm.text) ++ [44]

theorem preP_snoc (acc : List Pm) (p : Pm) : joinWith 44 ((acc ++ [p]).map Pm.text) = preP acc ++ p.text := by
  unfold preP
  rw [List.map_append, List.map_singleton]
  by_cases h0 : acc = []
  · subst h0; simp [joinWith]
  · rw [if_neg h0, joinWith_snoc _ _ _ (fun e => h0 (List.map_eq_nil_iff.1 e))]
    simp
theorem preP_next {acc : List Pm} (h : acc ≠ []) : preP acc = joinWith 44 (acc.map Pm.text) ++ [44] := by unfold preP; rw [if_neg h]
theorem textR_good {acc : List Pm} (h0 : acc ≠ []) (h8 : acc.length ≤ 8) (hg : goodP [] acc = true) : textR acc = (joinWith 44 (acc.map Pm.text), 0) := by
  unfold textR
  rw [if_neg (by rintro (e | e); exact h0 e; omega), if_pos hg]

/-- The place of a letter among the four. -/
def idxP (c : UInt8) : Int := Lib.indexByte [110, 114, 119, 98] c
theorem idxP_cases (c : UInt8) : (idxP c = -1) ∨ (c = 110 ∧ idxP c = 0) ∨ (c = 114 ∧ idxP c = 1) ∨ (c = 119 ∧ idxP c = 2) ∨ (c = 98 ∧ idxP c = 3) := by
  by_cases h1 : c = 110
  · subst h1; exact .inr (.inl ⟨rfl, by decide⟩)
  by_cases h2 : c = 114
  · subst h2; exact .inr (.inr (.inl ⟨rfl, by decide⟩))
  by_cases h3 : c = 119
  · subst h3; exact .inr (.inr (.inr (.inl ⟨rfl, by decide⟩)))
  by_cases h4 : c = 98
  · subst h4; exact .inr (.inr (.inr (.inr ⟨rfl, by decide⟩)))
  left
  have n1 : ((110 : UInt8) == c) = false := beq_eq_false_iff_ne.2 (Ne.symm h1)
  have n2 : ((114 : UInt8) == c) = false := beq_eq_false_iff_ne.2 (Ne.symm h2)
  have n3 : ((119 : UInt8) == c) = false := beq_eq_false_iff_ne.2 (Ne.symm h3)
  have n4 : ((98 : UInt8) == c) = false := beq_eq_false_iff_ne.2 (Ne.symm h4)
  simp [idxP, Lib.indexByte, n1, n2, n3, n4]

theorem own_modQ {Q : Nat → Prop} {w w' : World} {n₀ : Nat} {e : TypeId} {size : Nat} {v : Value} {k : Nat} {xs : List Value} (h : w.ownsRow n₀ e size v k xs) (hm : Mod Q w w') (hq : ∀ j, n₀ ≤ j → ¬ Q j) : w'.ownsRow n₀ e size v k xs := by
  refine ⟨h.1, ?_⟩
  rcases h.2 with h2 | ⟨g, cap, cur, hv, hg, hr, r⟩
  · exact .inl h2
  · exact .inr ⟨g, cap, cur, hv, hg, hm.blk hr (hq g hg), r⟩

theorem decode_big (s : ByteArray) (i : Nat) (h : i < s.size) (hb : 128 ≤ (s[i]'h).toNat) : 128 ≤ (Utf8.decode s i).1 := by
  rw [Lib.decode_at]
  exact decodeN_big _ _ _ _ _ (by rw [byte_get s i h]; exact hb)

end Go.Proofs.YthchkhfnhhpleaaDoor
