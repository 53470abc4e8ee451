/-
  No cell of these rows narrows 'for every input' (looked for: loops, veiled, ifaces, maps, wideKeys, modest, calm, conditions, laid).
  DERIVED. THE GIVEN ROWS OF THIS SEAT. 7 by the template 'for every input the law returns true; each argument reads behind the call as it read before'; 0 by the template 'total and deterministic' (their statements: YtlaamkojkpamaaaTotals.lean).
  GIVEN WITH THE SEED: the statements are not yours to turn. If you find one false, say at which input.
  Laid BY PROGRAM, IN A SANDBOX (cutbox-rows.mjs): the forced cells as the released guide's own fill.sh prints them over the translation c8ebe4e386bd5560… (all of the seat's roots in one cut). By AI agents, Wed Nov 11 2026. No macro, syntax, notation, axiom, sorry.
-/
import Derived.Test.YtlaamkojkpamaaaChecked
import GoSem.Claim
import GoSem.ClaimJoined
import GoSem.ClaimMapViews
import Derived.JoinedTies
import Derived.KernelRfl
namespace Go.Proofs.Ytlaamkojkpamaaa
/- THE CELL 'sum', in the pinned program and in every row, IS THE sha256 OF THE DUMP (.gsa) THAT YtlaamkojkpamaaaProg.lean LOADS. Nothing in Lean hashes anything: it is a label: what it is worth is what the hold of that sum in a sandbox is worth. -/
noncomputable def Try.pinned : Pinned := { name := "ytlaamkojkpamaaa", sum := "c8ebe4e386bd5560bf34957a20ba98b0cbdc7205fee6a31d916762a595f19df6", checked := Try.checked }
namespace Rows
def none {H : Type} : Left H := { results := [], args := [] }

/-- 'tenementlaw01.PhysPlays': WHATEVER THE INPUT: true; the input reads as it did. -/
def physPlaysSpec : ChangeSpec := { name := "physPlays", fn := fun _ => fun
  | [d1, d2] => { results := [.lit (.bool true)], args := [d1, d2] }
  | _ => none }
def physPlaysRow : OpenClaim := { program := "ytlaamkojkpamaaa", sum := "c8ebe4e386bd5560bf34957a20ba98b0cbdc7205fee6a31d916762a595f19df6", func := "tenement/tenementlaw01.PhysPlays", spec := "physPlays", unfollowed := true, recurses := true, apart := false }
def PhysPlaysSaid : Prop := physPlaysRow.holds Try.pinned (OpenSpec.ofChange physPlaysSpec)

/-- ITS FALSE NEIGHBOUR: 'it returns false'. Refute it at one input. -/
def physPlaysWrong : ChangeSpec := { name := "physPlays", fn := fun _ => fun
  | [d1, d2] => { results := [.lit (.bool false)], args := [d1, d2] }
  | _ => none }
def PhysPlaysWrongFalsely : Prop := physPlaysRow.holds Try.pinned (OpenSpec.ofChange physPlaysWrong)

/-- 'tenementlaw02.ViewOrder': WHATEVER THE INPUT: true; the input reads as it did. -/
def viewOrderSpec : ChangeSpec := { name := "viewOrder", fn := fun _ => fun
  | [d1, d2, d3] => { results := [.lit (.bool true)], args := [d1, d2, d3] }
  | _ => none }
def viewOrderRow : OpenClaim := { program := "ytlaamkojkpamaaa", sum := "c8ebe4e386bd5560bf34957a20ba98b0cbdc7205fee6a31d916762a595f19df6", func := "tenement/tenementlaw02.ViewOrder", spec := "viewOrder", unfollowed := true, recurses := true, apart := false }
def ViewOrderSaid : Prop := viewOrderRow.holds Try.pinned (OpenSpec.ofChange viewOrderSpec)

/-- ITS FALSE NEIGHBOUR: 'it returns false'. Refute it at one input. -/
def viewOrderWrong : ChangeSpec := { name := "viewOrder", fn := fun _ => fun
  | [d1, d2, d3] => { results := [.lit (.bool false)], args := [d1, d2, d3] }
  | _ => none }
def ViewOrderWrongFalsely : Prop := viewOrderRow.holds Try.pinned (OpenSpec.ofChange viewOrderWrong)

/-- 'tenementlaw04.PteWalks': WHATEVER THE INPUT: true; the input reads as it did. -/
def pteWalksSpec : ChangeSpec := { name := "pteWalks", fn := fun _ => fun
  | [d1, d2, d3, d4, d5, d6] => { results := [.lit (.bool true)], args := [d1, d2, d3, d4, d5, d6] }
  | _ => none }
def pteWalksRow : OpenClaim := { program := "ytlaamkojkpamaaa", sum := "c8ebe4e386bd5560bf34957a20ba98b0cbdc7205fee6a31d916762a595f19df6", func := "tenement/tenementlaw04.PteWalks", spec := "pteWalks", unfollowed := true, recurses := true, apart := false }
def PteWalksSaid : Prop := pteWalksRow.holds Try.pinned (OpenSpec.ofChange pteWalksSpec)

/-- ITS FALSE NEIGHBOUR: 'it returns false'. Refute it at one input. -/
def pteWalksWrong : ChangeSpec := { name := "pteWalks", fn := fun _ => fun
  | [d1, d2, d3, d4, d5, d6] => { results := [.lit (.bool false)], args := [d1, d2, d3, d4, d5, d6] }
  | _ => none }
def PteWalksWrongFalsely : Prop := pteWalksRow.holds Try.pinned (OpenSpec.ofChange pteWalksWrong)

/-- 'tenementlaw08.RingClamps': WHATEVER THE INPUT: true; the input reads as it did. -/
def ringClampsSpec : ChangeSpec := { name := "ringClamps", fn := fun _ => fun
  | [d1, d2] => { results := [.lit (.bool true)], args := [d1, d2] }
  | _ => none }
def ringClampsRow : OpenClaim := { program := "ytlaamkojkpamaaa", sum := "c8ebe4e386bd5560bf34957a20ba98b0cbdc7205fee6a31d916762a595f19df6", func := "tenement/tenementlaw08.RingClamps", spec := "ringClamps", unfollowed := true, recurses := true, apart := false }
def RingClampsSaid : Prop := ringClampsRow.holds Try.pinned (OpenSpec.ofChange ringClampsSpec)

/-- ITS FALSE NEIGHBOUR: 'it returns false'. Refute it at one input. -/
def ringClampsWrong : ChangeSpec := { name := "ringClamps", fn := fun _ => fun
  | [d1, d2] => { results := [.lit (.bool false)], args := [d1, d2] }
  | _ => none }
def RingClampsWrongFalsely : Prop := ringClampsRow.holds Try.pinned (OpenSpec.ofChange ringClampsWrong)

/-- 'tenementlaw08.RingPlays': WHATEVER THE INPUT: true; the input reads as it did. -/
def ringPlaysSpec : ChangeSpec := { name := "ringPlays", fn := fun _ => fun
  | [d1, d2, d3] => { results := [.lit (.bool true)], args := [d1, d2, d3] }
  | _ => none }
def ringPlaysRow : OpenClaim := { program := "ytlaamkojkpamaaa", sum := "c8ebe4e386bd5560bf34957a20ba98b0cbdc7205fee6a31d916762a595f19df6", func := "tenement/tenementlaw08.RingPlays", spec := "ringPlays", unfollowed := true, recurses := true, apart := false }
def RingPlaysSaid : Prop := ringPlaysRow.holds Try.pinned (OpenSpec.ofChange ringPlaysSpec)

/-- ITS FALSE NEIGHBOUR: 'it returns false'. Refute it at one input. -/
def ringPlaysWrong : ChangeSpec := { name := "ringPlays", fn := fun _ => fun
  | [d1, d2, d3] => { results := [.lit (.bool false)], args := [d1, d2, d3] }
  | _ => none }
def RingPlaysWrongFalsely : Prop := ringPlaysRow.holds Try.pinned (OpenSpec.ofChange ringPlaysWrong)

/-- 'tenementlaw08.RingZero': WHATEVER THE INPUT: true; the input reads as it did. -/
def ringZeroSpec : ChangeSpec := { name := "ringZero", fn := fun _ => fun
  | [d1, d2] => { results := [.lit (.bool true)], args := [d1, d2] }
  | _ => none }
def ringZeroRow : OpenClaim := { program := "ytlaamkojkpamaaa", sum := "c8ebe4e386bd5560bf34957a20ba98b0cbdc7205fee6a31d916762a595f19df6", func := "tenement/tenementlaw08.RingZero", spec := "ringZero", unfollowed := true, recurses := true, apart := false }
def RingZeroSaid : Prop := ringZeroRow.holds Try.pinned (OpenSpec.ofChange ringZeroSpec)

/-- ITS FALSE NEIGHBOUR: 'it returns false'. Refute it at one input. -/
def ringZeroWrong : ChangeSpec := { name := "ringZero", fn := fun _ => fun
  | [d1, d2] => { results := [.lit (.bool false)], args := [d1, d2] }
  | _ => none }
def RingZeroWrongFalsely : Prop := ringZeroRow.holds Try.pinned (OpenSpec.ofChange ringZeroWrong)

/-- 'tenementlaw08.RingTurns': WHATEVER THE INPUT: true; the input reads as it did. -/
def ringTurnsSpec : ChangeSpec := { name := "ringTurns", fn := fun _ => fun
  | [d] => { results := [.lit (.bool true)], args := [d] }
  | _ => none }
def ringTurnsRow : OpenClaim := { program := "ytlaamkojkpamaaa", sum := "c8ebe4e386bd5560bf34957a20ba98b0cbdc7205fee6a31d916762a595f19df6", func := "tenement/tenementlaw08.RingTurns", spec := "ringTurns", unfollowed := true, recurses := true, apart := false }
def RingTurnsSaid : Prop := ringTurnsRow.holds Try.pinned (OpenSpec.ofChange ringTurnsSpec)

/-- ITS FALSE NEIGHBOUR: 'it returns false'. Refute it at one input. -/
def ringTurnsWrong : ChangeSpec := { name := "ringTurns", fn := fun _ => fun
  | [d] => { results := [.lit (.bool false)], args := [d] }
  | _ => none }
def RingTurnsWrongFalsely : Prop := ringTurnsRow.holds Try.pinned (OpenSpec.ofChange ringTurnsWrong)

/- THE SECOND FORM. 'bulk': how many values and letters a reading holds, each counted each time it is reached (what is shared counts as often as it is met; a slice's spare places count too). A statement '..UptoSaid' is the law's where the arguments, and the package variables that the reading takes, are together of bulk at most 1048576: NARROWER than '..Said'. Prove '..Said' where nothing that the law and all that it calls make is longer than what came in: it says more and counts as full. Else prove '..UptoSaid'. A law counts once. -/
mutual
def uptoBulk {H : Type} : DataW H → Nat
  | .lit (.string bytes) => bytes.length + 1
  | .lit _ => 1
  | .nil => 1
  | .ptr d => uptoBulk d + 1
  | .slice elems spare => uptoBulkAll elems + uptoBulkAll spare + 1
  | .agg parts => uptoBulkAll parts + 1
  | .iface _ d => uptoBulk d + 1
  | .map entries => uptoBulkEntries entries + 1
  | .held _ => 1
def uptoBulkAll {H : Type} : List (DataW H) → Nat
  | [] => 0
  | d :: r => uptoBulk d + uptoBulkAll r
def uptoBulkEntries {H : Type} : List (Lit × DataW H) → Nat
  | [] => 0
  | x :: r => uptoBulkEntry x + uptoBulkEntries r
def uptoBulkEntry {H : Type} : Lit × DataW H → Nat
  | (.string bytes, d) => bytes.length + uptoBulk d + 1
  | (_, d) => uptoBulk d + 1
 end
def uptoSmall : (H : Type) → List (DataW H) → Bool := fun _ ds => decide (uptoBulkAll ds ≤ 1048576)
def OpenSpec.upto (s : _root_.Go.ChangeSpec) : _root_.Go.OpenSpec := { _root_.Go.OpenSpec.ofChange s with cond := some uptoSmall }

/-- 'tenementlaw01.PhysPlays', WHERE WHAT IT READS IS OF BULK AT MOST 1048576: true; the input reads as it did. -/
def physPlaysUptoRow : OpenClaim := { program := "ytlaamkojkpamaaa", sum := "c8ebe4e386bd5560bf34957a20ba98b0cbdc7205fee6a31d916762a595f19df6", func := "tenement/tenementlaw01.PhysPlays", spec := "physPlays", unfollowed := true, recurses := true, apart := false, narrowed := true }
def PhysPlaysUptoSaid : Prop := physPlaysUptoRow.holds Try.pinned (OpenSpec.upto physPlaysSpec)

/-- 'tenementlaw02.ViewOrder', WHERE WHAT IT READS IS OF BULK AT MOST 1048576: true; the input reads as it did. -/
def viewOrderUptoRow : OpenClaim := { program := "ytlaamkojkpamaaa", sum := "c8ebe4e386bd5560bf34957a20ba98b0cbdc7205fee6a31d916762a595f19df6", func := "tenement/tenementlaw02.ViewOrder", spec := "viewOrder", unfollowed := true, recurses := true, apart := false, narrowed := true }
def ViewOrderUptoSaid : Prop := viewOrderUptoRow.holds Try.pinned (OpenSpec.upto viewOrderSpec)

/-- 'tenementlaw04.PteWalks', WHERE WHAT IT READS IS OF BULK AT MOST 1048576: true; the input reads as it did. -/
def pteWalksUptoRow : OpenClaim := { program := "ytlaamkojkpamaaa", sum := "c8ebe4e386bd5560bf34957a20ba98b0cbdc7205fee6a31d916762a595f19df6", func := "tenement/tenementlaw04.PteWalks", spec := "pteWalks", unfollowed := true, recurses := true, apart := false, narrowed := true }
def PteWalksUptoSaid : Prop := pteWalksUptoRow.holds Try.pinned (OpenSpec.upto pteWalksSpec)

/-- 'tenementlaw08.RingClamps', WHERE WHAT IT READS IS OF BULK AT MOST 1048576: true; the input reads as it did. -/
def ringClampsUptoRow : OpenClaim := { program := "ytlaamkojkpamaaa", sum := "c8ebe4e386bd5560bf34957a20ba98b0cbdc7205fee6a31d916762a595f19df6", func := "tenement/tenementlaw08.RingClamps", spec := "ringClamps", unfollowed := true, recurses := true, apart := false, narrowed := true }
def RingClampsUptoSaid : Prop := ringClampsUptoRow.holds Try.pinned (OpenSpec.upto ringClampsSpec)

/-- 'tenementlaw08.RingPlays', WHERE WHAT IT READS IS OF BULK AT MOST 1048576: true; the input reads as it did. -/
def ringPlaysUptoRow : OpenClaim := { program := "ytlaamkojkpamaaa", sum := "c8ebe4e386bd5560bf34957a20ba98b0cbdc7205fee6a31d916762a595f19df6", func := "tenement/tenementlaw08.RingPlays", spec := "ringPlays", unfollowed := true, recurses := true, apart := false, narrowed := true }
def RingPlaysUptoSaid : Prop := ringPlaysUptoRow.holds Try.pinned (OpenSpec.upto ringPlaysSpec)

/-- 'tenementlaw08.RingZero', WHERE WHAT IT READS IS OF BULK AT MOST 1048576: true; the input reads as it did. -/
def ringZeroUptoRow : OpenClaim := { program := "ytlaamkojkpamaaa", sum := "c8ebe4e386bd5560bf34957a20ba98b0cbdc7205fee6a31d916762a595f19df6", func := "tenement/tenementlaw08.RingZero", spec := "ringZero", unfollowed := true, recurses := true, apart := false, narrowed := true }
def RingZeroUptoSaid : Prop := ringZeroUptoRow.holds Try.pinned (OpenSpec.upto ringZeroSpec)

/-- 'tenementlaw08.RingTurns', WHERE WHAT IT READS IS OF BULK AT MOST 1048576: true; the input reads as it did. -/
def ringTurnsUptoRow : OpenClaim := { program := "ytlaamkojkpamaaa", sum := "c8ebe4e386bd5560bf34957a20ba98b0cbdc7205fee6a31d916762a595f19df6", func := "tenement/tenementlaw08.RingTurns", spec := "ringTurns", unfollowed := true, recurses := true, apart := false, narrowed := true }
def RingTurnsUptoSaid : Prop := ringTurnsUptoRow.holds Try.pinned (OpenSpec.upto ringTurnsSpec)

end Rows
end Go.Proofs.Ytlaamkojkpamaaa
