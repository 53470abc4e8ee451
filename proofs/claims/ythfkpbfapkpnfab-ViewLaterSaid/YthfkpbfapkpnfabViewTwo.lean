/- A machine with a view, and two of them side by side. -/
import Derived.Test.YthfkpbfapkpnfabViewOps
import Derived.Test.YthfkpbfapkpnfabViewNew
import Derived.Test.YthfkpbfapkpnfabRoundMore
namespace Go.Proofs.Ythfkpbfapkpnfab
open Go.RowKit
set_option maxRecDepth 100000

/-- The code's machine with its view, behind a beginning. -/
structure VwS (w0 : World) (B F base top : Nat) (k : ViK) (N : Int) (l : List Pk) (S : List Fr) (w : World) : Prop where
  p : PhM w B F S
  v : ViM w base top k B N l
  mod : Mod No w0 w
  F : w0.heap.size ≤ F ∧ F < base

theorem VwS.no {w0 w w' : World} {B F base top : Nat} {k : ViK} {N : Int} {l : List Pk} {S : List Fr} (h : VwS w0 B F base top k N l S w) (hm : Mod No w w') : VwS w0 B F base top k N l S w' :=
  ⟨h.p.kept hm (fun q => q) (fun q => q), h.v.no hm, h.mod.trans hm, h.F⟩
theorem VwS.step {w0 w w' : World} {B F base top : Nat} {k : ViK} {N N' : Int} {l : List Pk} {S S' : List Fr} (h : VwS w0 B F base top k N l S w) (o : VOut base top B F k N' l S' w w') : VwS w0 B F base top k N' l S' w' := by
  refine ⟨o.p, o.v, h.mod.step o.mod ?_, h.F⟩
  intro i hi q
  have hf := h.F
  have hk := h.v.d.rng.1
  rcases q with rfl | rfl <;> omega

theorem PhM.neF {w : World} {B F B2 F2 : Nat} {S S2 : List Fr} (h : PhM w B F S) (h2 : PhM w B2 F2 S2) : B2 ≠ F := by
  rintro rfl
  obtain ⟨c, _, h1⟩ := h2.head
  obtain ⟨r, h2⟩ := h.row
  rw [h1] at h2
  simp at h2
theorem PhM.neVw {w : World} {B F base top B2 : Nat} {k : ViK} {N : Int} {l : List Pk} {S : List Fr} (h : PhM w B F S) (v : ViM w base top k B2 N l) : B ≠ k.V := by
  intro e
  obtain ⟨c, _, h1⟩ := h.head
  have h2 := v.head
  rw [← e, h1] at h2
  simp at h2

structure TwoV (w0 : World) (B F base top : Nat) (k : ViK) (N : Int) (l : List Pk) (S : List Fr) (B2 F2 base2 top2 : Nat) (k2 : ViK) (N2 : Int) (l2 : List Pk) (S2 : List Fr) (w : World) : Prop where
  a : VwS w0 B F base top k N l S w
  b : VwS w0 B2 F2 base2 top2 k2 N2 l2 S2 w
  ff : F < F2
  fb : F2 < base
  tt : top ≤ base2

theorem TwoV.no {w0 w w' : World} {B F base top : Nat} {k : ViK} {N : Int} {l : List Pk} {S : List Fr} {B2 F2 base2 top2 : Nat} {k2 : ViK} {N2 : Int} {l2 : List Pk} {S2 : List Fr}
    (h : TwoV w0 B F base top k N l S B2 F2 base2 top2 k2 N2 l2 S2 w) (hm : Mod No w w') : TwoV w0 B F base top k N l S B2 F2 base2 top2 k2 N2 l2 S2 w' :=
  ⟨h.a.no hm, h.b.no hm, h.ff, h.fb, h.tt⟩
theorem TwoV.stepA {w0 w w' : World} {B F base top : Nat} {k : ViK} {N N' : Int} {l : List Pk} {S S' : List Fr} {B2 F2 base2 top2 : Nat} {k2 : ViK} {N2 : Int} {l2 : List Pk} {S2 : List Fr}
    (h : TwoV w0 B F base top k N l S B2 F2 base2 top2 k2 N2 l2 S2 w) (o : VOut base top B F k N' l S' w w') : TwoV w0 B F base top k N' l S' B2 F2 base2 top2 k2 N2 l2 S2 w' := by
  have h1 := h.ff
  have h2 := h.fb
  have h3 := h.tt
  have r1 := h.a.v.d.rng
  have r2 := h.b.v.d.rng
  have f1 := h.a.F
  have n1 := h.a.p.neF h.b.p
  have n2 := h.b.p.neVw h.a.v
  have ha := h.a.step o
  refine ⟨ha, ⟨h.b.p.kept o.mod ?_ ?_, h.b.v.kept o.mod ?_, ha.mod, h.b.F⟩, h1, h2, h3⟩
  · rintro (q | q)
    · exact n1 q
    · exact n2 q
  · rintro (q | q) <;> omega
  · rintro i hi1 hi2 (q | q) <;> omega
theorem TwoV.stepB {w0 w w' : World} {B F base top : Nat} {k : ViK} {N N2' : Int} {l : List Pk} {S S2' : List Fr} {B2 F2 base2 top2 : Nat} {k2 : ViK} {N2 : Int} {l2 : List Pk} {S2 : List Fr}
    (h : TwoV w0 B F base top k N l S B2 F2 base2 top2 k2 N2 l2 S2 w) (o : VOut base2 top2 B2 F2 k2 N2' l2 S2' w w') : TwoV w0 B F base top k N l S B2 F2 base2 top2 k2 N2' l2 S2' w' := by
  have h1 := h.ff
  have h2 := h.fb
  have h3 := h.tt
  have r1 := h.a.v.d.rng
  have r2 := h.b.v.d.rng
  have f1 := h.a.F
  have n1 := h.b.p.neF h.a.p
  have n2 := h.a.p.neVw h.b.v
  have hb := h.b.step o
  refine ⟨⟨h.a.p.kept o.mod ?_ ?_, h.a.v.kept o.mod ?_, hb.mod, h.a.F⟩, hb, h1, h2, h3⟩
  · rintro (q | q)
    · exact n1 q
    · exact n2 q
  · rintro (q | q) <;> omega
  · rintro i hi1 hi2 (q | q) <;> omega

theorem VOut.drew {base top B F : Nat} {k : ViK} {N : Int} {l : List Pk} {S : List Fr} {w w' : World} (h : VOut base top B F k N l S w w') (n : Nat) : VOut base top B F k N l S w (w'.drewN n) :=
  ⟨h.mod.trans (Mod.of_no ((Mod.refl No w').drewN n)), h.p.kept ((Mod.refl No w').drewN n) (fun q => q) (fun q => q), h.v.no ((Mod.refl No w').drewN n)⟩

end Go.Proofs.Ythfkpbfapkpnfab
