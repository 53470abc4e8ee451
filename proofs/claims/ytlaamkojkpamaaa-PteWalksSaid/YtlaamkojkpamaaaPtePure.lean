/- Page tables over frames, plainly: entries, walks, places. -/
import Derived.Test.YtlaamkojkpamaaaPhys
namespace Go.Proofs.Ytlaamkojkpamaaa

def word4 (l : List Int) : Int := l.getD 0 0 + 256 * l.getD 1 0 + 65536 * l.getD 2 0 + 16777216 * l.getD 3 0

/-- A table's entry's bits: the value, the error. -/
def atR (S : List Fr) (t i : Int) : Int × Int :=
  if (0 ≤ i ∧ i < 64) ∧ 0 ≤ t ∧ t < S.length then (match S[t.toNat]? with | some f => word4 ((f.bytes.drop (4 * i).toNat).take 4) | none => 0, 0) else (0, 1)

structure Ent where
  present : Bool
  write : Bool
  mfn : Int

def noEnt : Ent := ⟨false, false, 0⟩
def unpackR (n : Int) : Ent × Int := if n % 2 = 0 then (noEnt, 0) else if 3 < n % 256 then (noEnt, 4) else (⟨true, n % 4 == 3, n / 256⟩, 0)

/-- An entry that is present, of a table. -/
def entR (S : List Fr) (t i : Int) : Ent × Int :=
  if (atR S t i).2 ≠ 0 then (noEnt, (atR S t i).2) else if (unpackR (atR S t i).1).2 ≠ 0 then (noEnt, (unpackR (atR S t i).1).2) else if (unpackR (atR S t i).1).1.present = true then ((unpackR (atR S t i).1).1, 0) else (noEnt, 40)

/-- Where an address leads: frame, place, error. -/
def walkR (S : List Fr) (root va : Int) (write : Bool) : Int × Int × Int :=
  if 1048576 ≤ va then (0, 0, 1)
  else if (entR S root (va / 16384)).2 ≠ 0 then (0, 0, (entR S root (va / 16384)).2)
  else if (entR S (entR S root (va / 16384)).1.mfn (va / 256 % 64)).2 ≠ 0 then (0, 0, (entR S (entR S root (va / 16384)).1.mfn (va / 256 % 64)).2)
  else if write = true ∧ (entR S (entR S root (va / 16384)).1.mfn (va / 256 % 64)).1.write = false then (0, 0, 41)
  else if (S.length : Int) ≤ (entR S (entR S root (va / 16384)).1.mfn (va / 256 % 64)).1.mfn then (0, 0, 1)
  else ((entR S (entR S root (va / 16384)).1.mfn (va / 256 % 64)).1.mfn, va % 256, 0)

end Go.Proofs.Ytlaamkojkpamaaa
