/- Two beginnings and their views. -/
import Derived.Test.YthfkpbfapkpnfabViewTwo
import Derived.Test.YthfkpbfapkpnfabLaw02Begin
namespace Go.Proofs.Ythfkpbfapkpnfab
open Go.RowKit
set_option maxRecDepth 100000

theorem StDS.ranges {w : World} {p : Option Addr} {l : List StD} (h : StDS w p l) : ∀ o ∈ l, ∀ x ∈ o.bs, 0 ≤ x ∧ x ≤ 255 := fun o ho => (h.ok o ho).b.range
theorem PkS.lenOf {w : World} {p : Option Addr} {l : List Pk} (_ : PkS w p l) (h : l.length * 48 ≤ 140737488355328) : l.length ≤ 140737488355328 := by omega

/-- The two machines, before their views. -/
structure TwoB (w0 : World) (B F B2 F2 : Nat) (S : List Fr) (w : World) : Prop where
  a : PhM w B F S
  b : PhM w B2 F2 S
  mod : Mod No w0 w
  F : w0.heap.size ≤ F ∧ F < F2 ∧ F2 < w.heap.size

theorem TwoB.of {w0 w1 w2 : World} {B F B2 F2 n i j : Nat} {K K2 : RfK} {S : List Fr} (h : RoundS w0 B F n i K S w1) (h2 : RoundS w1 B2 F2 n j K2 S w2) : TwoB w0 B F B2 F2 S w2 :=
  ⟨h.two.p.kept h2.mod (fun q => q) (fun q => q), h2.two.p, h.mod.trans h2.mod, h.F, by have := h.two.p.ltF; have := h2.F; omega, h2.two.p.ltF⟩
theorem TwoB.no {w0 w w' : World} {B F B2 F2 : Nat} {S : List Fr} (h : TwoB w0 B F B2 F2 S w) (hm : Mod No w w') : TwoB w0 B F B2 F2 S w' :=
  ⟨h.a.kept hm (fun q => q) (fun q => q), h.b.kept hm (fun q => q) (fun q => q), h.mod.trans hm, h.F.1, h.F.2.1, Nat.lt_of_lt_of_le h.F.2.2 hm.size⟩
theorem TwoB.views {w0 w w1 w2 : World} {B F B2 F2 : Nat} {S : List Fr} {k k2 : ViK} {l l2 : List Pk} (h : TwoB w0 B F B2 F2 S w) (hm : Mod No w w1) (v : ViM w1 w.heap.size w1.heap.size k B 0 l) (hm2 : Mod No w1 w2) (v2 : ViM w2 w1.heap.size w2.heap.size k2 B2 0 l2) :
    TwoV w0 B F w.heap.size w1.heap.size k 0 l S B2 F2 w1.heap.size w2.heap.size k2 0 l2 S w2 := by
  have h2 := (h.no hm).no hm2
  have s := hm.size
  have := h.F
  exact ⟨⟨h2.a, v.no hm2, h2.mod, by omega, by omega⟩, ⟨h2.b, v2, h2.mod, by omega, by omega⟩, by omega, by omega, Nat.le_refl _⟩

end Go.Proofs.Ythfkpbfapkpnfab
