/- A script's rounds, in both machines. -/
import Derived.Test.YthfkpbfapkpnfabPlay
namespace Go.Proofs.Ythfkpbfapkpnfab
open Go.RowKit
set_option maxRecDepth 100000

/-- What holds ahead of each round of a script. -/
structure RoundS (w0 : World) (B F n i : Nat) (K : RfK) (S : List Fr) (w : World) : Prop where
  two : Two w B F K i S
  len : S.length = n
  mod : Mod No w0 w
  F : w0.heap.size ≤ F
  K : ∀ k, K.has k → w0.heap.size ≤ k

theorem RoundS.play {w0 w w' : World} {B F n i : Nat} {K : RfK} {S : List Fr} (h : RoundS w0 B F n i K S w) (ht : TOut B F K (i + 1) S.length w w') : ∃ K' S', RoundS w0 B F n (i + 1) K' S' w' ∧ K'.R = K.R := by
  obtain ⟨K', S', hl, h2, hg, hm⟩ := ht
  have hs := h.mod.size
  refine ⟨K', S', ⟨h2, hl.trans h.len, h.mod.step hm ?_, h.F, ?_⟩, hg.1⟩
  · intro k hk q
    rcases q with rfl | q
    · have := h.F; omega
    · have := h.K k (RfK.inn_has q); omega
  · intro k hk
    rcases hg.2 k hk with q | q
    · exact h.K k q
    · omega

end Go.Proofs.Ythfkpbfapkpnfab
