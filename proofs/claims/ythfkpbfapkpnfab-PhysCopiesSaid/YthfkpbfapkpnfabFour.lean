/- Two of the code's machines and two of the document's, all apart. -/
import Derived.Test.YthfkpbfapkpnfabLaw01Told
namespace Go.Proofs.Ythfkpbfapkpnfab
open Go.RowKit
set_option maxRecDepth 100000

theorem PhM.ne_rows {w : World} {B F C G : Nat} {S T : List Fr} (h : PhM w B F S) (h' : PhM w C G T) : C ≠ F := by
  rintro rfl
  obtain ⟨c, _, h1⟩ := h'.head
  obtain ⟨r, h2⟩ := h.row
  rw [h1] at h2
  simp at h2

structure Four (w0 w : World) (B F C G n m : Nat) (K L : RfK) (S T : List Fr) : Prop where
  a : RoundS w0 B F n m K S w
  c : RoundS w0 C G n m L T w
  ne : F ≠ G
  kl : ∀ k, K.has k → ¬ L.has k

theorem Four.swap {w0 w : World} {B F C G n m : Nat} {K L : RfK} {S T : List Fr} (h : Four w0 w B F C G n m K L S T) : Four w0 w C G B F n m L K T S :=
  ⟨h.c, h.a, fun e => h.ne e.symm, fun k hk hl => h.kl k hl hk⟩

theorem Four.play {w0 w w' : World} {B F C G n m : Nat} {K L : RfK} {S T : List Fr} (h : Four w0 w B F C G n m K L S T) (ht : TOut B F K (m + 1) S.length w w') :
    ∃ K' S', Four w0 w' B F C G n (m + 1) K' L S' T ∧ K'.R = K.R := by
  have hnP := h.a.two.r.ne_phys h.c.two.p
  have hnP2 := h.c.two.r.ne_phys h.a.two.p
  have hCF := h.a.two.p.ne_rows h.c.two.p
  obtain ⟨K', S', hl, h2, hg, hm⟩ := ht
  have hs := h.a.mod.size
  have hmod : Mod No w0 w' := h.a.mod.step hm (by
    intro k hk q
    rcases q with rfl | q
    · have := h.a.F; omega
    · have := h.a.K k (RfK.inn_has q); omega)
  have hKb : ∀ k, K'.has k → w0.heap.size ≤ k := by
    intro k hk
    rcases hg.2 k hk with q | q
    · exact h.a.K k q
    · omega
  refine ⟨K', S', ⟨⟨h2, hl.trans h.a.len, hmod, h.a.F, hKb⟩, ⟨⟨?_, ?_, h.c.two.inv.mono (Nat.le_succ m)⟩, h.c.len, hmod, h.c.F, h.c.K⟩, h.ne, ?_⟩, hg.1⟩
  · refine h.c.two.p.kept hm ?_ ?_
    · rintro (q | q)
      · exact hCF q
      · exact hnP.1 (RfK.inn_has q)
    · rintro (q | q)
      · exact h.ne q.symm
      · exact hnP.2 (RfK.inn_has q)
  · refine h.c.two.r.kept hm ?_
    rintro k hk (q | q)
    · exact hnP2.2 (q ▸ hk)
    · exact h.kl k (RfK.inn_has q) hk
  · intro k hk hl2
    rcases hg.2 k hk with q | q
    · exact h.kl k q hl2
    · have := h.c.two.r.lt k hl2
      omega

theorem Four.mod {w0 w w' : World} {B F C G n m : Nat} {K L : RfK} {S T : List Fr} (h : Four w0 w B F C G n m K L S T) (hm : Mod No w w') : Four w0 w' B F C G n m K L S T :=
  ⟨⟨⟨h.a.two.p.kept hm (fun q => q) (fun q => q), h.a.two.r.keptNo hm, h.a.two.inv⟩, h.a.len, h.a.mod.trans hm, h.a.F, h.a.K⟩,
    ⟨⟨h.c.two.p.kept hm (fun q => q) (fun q => q), h.c.two.r.keptNo hm, h.c.two.inv⟩, h.c.len, h.c.mod.trans hm, h.c.F, h.c.K⟩, h.ne, h.kl⟩

end Go.Proofs.Ythfkpbfapkpnfab
