/- The numbers of an owner's frames: they rise; all owners' together are the machine. -/
import Derived.Test.YthfkpbfapkpnfabBoth
namespace Go.Proofs.Ythfkpbfapkpnfab
open Go.RowKit
set_option maxRecDepth 100000

theorem idxs_rise (S : List Fr) (o : Int) (n : Nat) : (idxs S o n).Pairwise (· < ·) := by
  unfold idxs
  refine List.Pairwise.map (R := fun a b : Nat => a < b) _ (fun a b h => by omega) ?_
  exact List.Pairwise.filter _ List.pairwise_lt_range

theorem idxs_lt {S : List Fr} {o : Int} {n j : Nat} {x y : Int} (hx : (idxs S o n)[j]? = some x) (hy : (idxs S o n)[j + 1]? = some y) : x < y := by
  obtain ⟨h1, rfl⟩ := List.getElem?_eq_some_iff.1 hx
  obtain ⟨h2, rfl⟩ := List.getElem?_eq_some_iff.1 hy
  exact List.pairwise_iff_getElem.1 (idxs_rise S o n) j (j + 1) h1 h2 (by omega)

/-- How many of the first n frames have an owner below t. -/
def below (S : List Fr) (t : Int) : Nat → Nat
  | 0 => 0
  | n + 1 => below S t n + (match S[n]? with | some f => if f.owner < t then 1 else 0 | none => 0)

theorem below_step (S : List Fr) (t : Int) : ∀ n, below S (t + 1) n = below S t n + (idxs S t n).length
  | 0 => rfl
  | n + 1 => by
    have ih := below_step S t n
    have hl : (idxs S t (n + 1)).length = (idxs S t n).length + (if ownsAt S t n = true then 1 else 0) := by
      cases h : ownsAt S t n
      · rw [idxs_miss h]; simp
      · rw [idxs_hit h]; simp
    rw [hl]
    unfold below
    rw [ih]
    cases hf : S[n]? with
    | none => simp [ownsAt, hf]
    | some f =>
      simp only [ownsAt, hf, beq_iff_eq]
      split <;> split <;> split <;> omega

theorem below_low (S : List Fr) (h : ∀ f ∈ S, -2 ≤ f.owner) : ∀ n, below S (-2) n = 0
  | 0 => rfl
  | n + 1 => by
    unfold below
    rw [below_low S h n]
    cases hf : S[n]? with
    | none => rfl
    | some f =>
      have := h f (List.mem_of_getElem? hf)
      simp only
      rw [if_neg (by omega)]

theorem below_high (S : List Fr) (h : ∀ f ∈ S, f.owner < 8) : ∀ n, n ≤ S.length → below S 8 n = n
  | 0, _ => rfl
  | n + 1, hn => by
    unfold below
    rw [below_high S h n (by omega), List.getElem?_eq_getElem (show n < S.length by omega)]
    simp only
    rw [if_pos (h _ (List.getElem_mem (by omega)))]

theorem below_le (S : List Fr) (t : Int) : ∀ n, below S t n ≤ n
  | 0 => Nat.le_refl _
  | n + 1 => by
    have ih := below_le S t n
    unfold below
    cases S[n]? with
    | none => simp only; omega
    | some f => simp only; split <;> omega

end Go.Proofs.Ythfkpbfapkpnfab
