/-
  No cell of these rows narrows 'for every input' (looked for: loops, veiled, ifaces, maps, wideKeys, modest, calm, conditions, laid).
  DERIVED. THE GIVEN ROWS OF THIS SEAT. 11 by the template 'for every input the law returns true; each argument reads behind the call as it read before'; 0 by the template 'total and deterministic' (their statements: YtpfjpfepbhfmeaaTotals.lean).
  GIVEN WITH THE SEED: the statements are not yours to turn. If you find one false, say at which input.
  Laid BY PROGRAM, IN A SANDBOX (cutbox-rows.mjs): the forced cells as the released guide's own fill.sh prints them over the translation eb1fe3520967d814… (all of the seat's roots in one cut). By AI agents, Wed Nov 11 2026. No macro, syntax, notation, axiom, sorry.
-/
import Derived.Test.YtpfjpfepbhfmeaaChecked
import GoSem.Claim
import GoSem.ClaimJoined
import GoSem.ClaimMapViews
import Derived.JoinedTies
import Derived.KernelRfl
namespace Go.Proofs.Ytpfjpfepbhfmeaa
/- THE CELL 'sum', in the pinned program and in every row, IS THE sha256 OF THE DUMP (.gsa) THAT YtpfjpfepbhfmeaaProg.lean LOADS. Nothing in Lean hashes anything: it is a label: what it is worth is what the hold of that sum in a sandbox is worth. -/
noncomputable def Try.pinned : Pinned := { name := "ytpfjpfepbhfmeaa", sum := "eb1fe3520967d814099b0748e844806e5d61dc9a787455a31689d8d9a738b410", checked := Try.checked }
namespace Rows
def none {H : Type} : Left H := { results := [], args := [] }

/-- 'tenementlaw01.PhysPlays': WHATEVER THE INPUT: true; the input reads as it did. -/
def physPlaysSpec : ChangeSpec := { name := "physPlays", fn := fun _ => fun
  | [d1, d2] => { results := [.lit (.bool true)], args := [d1, d2] }
  | _ => none }
def physPlaysRow : OpenClaim := { program := "ytpfjpfepbhfmeaa", sum := "eb1fe3520967d814099b0748e844806e5d61dc9a787455a31689d8d9a738b410", func := "tenement/tenementlaw01.PhysPlays", spec := "physPlays", unfollowed := true, recurses := true, apart := false }
def PhysPlaysSaid : Prop := physPlaysRow.holds Try.pinned (OpenSpec.ofChange physPlaysSpec)

/-- ITS FALSE NEIGHBOUR: 'it returns false'. Refute it at one input. -/
def physPlaysWrong : ChangeSpec := { name := "physPlays", fn := fun _ => fun
  | [d1, d2] => { results := [.lit (.bool false)], args := [d1, d2] }
  | _ => none }
def PhysPlaysWrongFalsely : Prop := physPlaysRow.holds Try.pinned (OpenSpec.ofChange physPlaysWrong)

/-- 'tenementlaw02.ViewPlays': WHATEVER THE INPUT: true; the input reads as it did. -/
def viewPlaysSpec : ChangeSpec := { name := "viewPlays", fn := fun _ => fun
  | [d1, d2, d3] => { results := [.lit (.bool true)], args := [d1, d2, d3] }
  | _ => none }
def viewPlaysRow : OpenClaim := { program := "ytpfjpfepbhfmeaa", sum := "eb1fe3520967d814099b0748e844806e5d61dc9a787455a31689d8d9a738b410", func := "tenement/tenementlaw02.ViewPlays", spec := "viewPlays", unfollowed := true, recurses := true, apart := false }
def ViewPlaysSaid : Prop := viewPlaysRow.holds Try.pinned (OpenSpec.ofChange viewPlaysSpec)

/-- ITS FALSE NEIGHBOUR: 'it returns false'. Refute it at one input. -/
def viewPlaysWrong : ChangeSpec := { name := "viewPlays", fn := fun _ => fun
  | [d1, d2, d3] => { results := [.lit (.bool false)], args := [d1, d2, d3] }
  | _ => none }
def ViewPlaysWrongFalsely : Prop := viewPlaysRow.holds Try.pinned (OpenSpec.ofChange viewPlaysWrong)

/-- 'tenementlaw02.ViewOrder': WHATEVER THE INPUT: true; the input reads as it did. -/
def viewOrderSpec : ChangeSpec := { name := "viewOrder", fn := fun _ => fun
  | [d1, d2, d3] => { results := [.lit (.bool true)], args := [d1, d2, d3] }
  | _ => none }
def viewOrderRow : OpenClaim := { program := "ytpfjpfepbhfmeaa", sum := "eb1fe3520967d814099b0748e844806e5d61dc9a787455a31689d8d9a738b410", func := "tenement/tenementlaw02.ViewOrder", spec := "viewOrder", unfollowed := true, recurses := true, apart := false }
def ViewOrderSaid : Prop := viewOrderRow.holds Try.pinned (OpenSpec.ofChange viewOrderSpec)

/-- ITS FALSE NEIGHBOUR: 'it returns false'. Refute it at one input. -/
def viewOrderWrong : ChangeSpec := { name := "viewOrder", fn := fun _ => fun
  | [d1, d2, d3] => { results := [.lit (.bool false)], args := [d1, d2, d3] }
  | _ => none }
def ViewOrderWrongFalsely : Prop := viewOrderRow.holds Try.pinned (OpenSpec.ofChange viewOrderWrong)

/-- 'tenementlaw04.PteWalks': WHATEVER THE INPUT: true; the input reads as it did. -/
def pteWalksSpec : ChangeSpec := { name := "pteWalks", fn := fun _ => fun
  | [d1, d2, d3, d4, d5, d6] => { results := [.lit (.bool true)], args := [d1, d2, d3, d4, d5, d6] }
  | _ => none }
def pteWalksRow : OpenClaim := { program := "ytpfjpfepbhfmeaa", sum := "eb1fe3520967d814099b0748e844806e5d61dc9a787455a31689d8d9a738b410", func := "tenement/tenementlaw04.PteWalks", spec := "pteWalks", unfollowed := true, recurses := true, apart := false }
def PteWalksSaid : Prop := pteWalksRow.holds Try.pinned (OpenSpec.ofChange pteWalksSpec)

/-- ITS FALSE NEIGHBOUR: 'it returns false'. Refute it at one input. -/
def pteWalksWrong : ChangeSpec := { name := "pteWalks", fn := fun _ => fun
  | [d1, d2, d3, d4, d5, d6] => { results := [.lit (.bool false)], args := [d1, d2, d3, d4, d5, d6] }
  | _ => none }
def PteWalksWrongFalsely : Prop := pteWalksRow.holds Try.pinned (OpenSpec.ofChange pteWalksWrong)

/-- 'tenementlaw04.PteBytes': WHATEVER THE INPUT: true; the input reads as it did. -/
def pteBytesSpec : ChangeSpec := { name := "pteBytes", fn := fun _ => fun
  | [d1, d2, d3, d4, d5, d6] => { results := [.lit (.bool true)], args := [d1, d2, d3, d4, d5, d6] }
  | _ => none }
def pteBytesRow : OpenClaim := { program := "ytpfjpfepbhfmeaa", sum := "eb1fe3520967d814099b0748e844806e5d61dc9a787455a31689d8d9a738b410", func := "tenement/tenementlaw04.PteBytes", spec := "pteBytes", unfollowed := true, recurses := true, apart := false }
def PteBytesSaid : Prop := pteBytesRow.holds Try.pinned (OpenSpec.ofChange pteBytesSpec)

/-- ITS FALSE NEIGHBOUR: 'it returns false'. Refute it at one input. -/
def pteBytesWrong : ChangeSpec := { name := "pteBytes", fn := fun _ => fun
  | [d1, d2, d3, d4, d5, d6] => { results := [.lit (.bool false)], args := [d1, d2, d3, d4, d5, d6] }
  | _ => none }
def PteBytesWrongFalsely : Prop := pteBytesRow.holds Try.pinned (OpenSpec.ofChange pteBytesWrong)

/-- 'tenementlaw04.PteKept': WHATEVER THE INPUT: true; the input reads as it did. -/
def pteKeptSpec : ChangeSpec := { name := "pteKept", fn := fun _ => fun
  | [d1, d2, d3] => { results := [.lit (.bool true)], args := [d1, d2, d3] }
  | _ => none }
def pteKeptRow : OpenClaim := { program := "ytpfjpfepbhfmeaa", sum := "eb1fe3520967d814099b0748e844806e5d61dc9a787455a31689d8d9a738b410", func := "tenement/tenementlaw04.PteKept", spec := "pteKept", unfollowed := true, recurses := true, apart := false }
def PteKeptSaid : Prop := pteKeptRow.holds Try.pinned (OpenSpec.ofChange pteKeptSpec)

/-- ITS FALSE NEIGHBOUR: 'it returns false'. Refute it at one input. -/
def pteKeptWrong : ChangeSpec := { name := "pteKept", fn := fun _ => fun
  | [d1, d2, d3] => { results := [.lit (.bool false)], args := [d1, d2, d3] }
  | _ => none }
def PteKeptWrongFalsely : Prop := pteKeptRow.holds Try.pinned (OpenSpec.ofChange pteKeptWrong)

/-- 'tenementlaw08.RingSlots': WHATEVER THE INPUT: true; the input reads as it did. -/
def ringSlotsSpec : ChangeSpec := { name := "ringSlots", fn := fun _ => fun
  | [d1, d2] => { results := [.lit (.bool true)], args := [d1, d2] }
  | _ => none }
def ringSlotsRow : OpenClaim := { program := "ytpfjpfepbhfmeaa", sum := "eb1fe3520967d814099b0748e844806e5d61dc9a787455a31689d8d9a738b410", func := "tenement/tenementlaw08.RingSlots", spec := "ringSlots", unfollowed := true, recurses := true, apart := false }
def RingSlotsSaid : Prop := ringSlotsRow.holds Try.pinned (OpenSpec.ofChange ringSlotsSpec)

/-- ITS FALSE NEIGHBOUR: 'it returns false'. Refute it at one input. -/
def ringSlotsWrong : ChangeSpec := { name := "ringSlots", fn := fun _ => fun
  | [d1, d2] => { results := [.lit (.bool false)], args := [d1, d2] }
  | _ => none }
def RingSlotsWrongFalsely : Prop := ringSlotsRow.holds Try.pinned (OpenSpec.ofChange ringSlotsWrong)

/-- 'tenementlaw08.RingClamps': WHATEVER THE INPUT: true; the input reads as it did. -/
def ringClampsSpec : ChangeSpec := { name := "ringClamps", fn := fun _ => fun
  | [d1, d2] => { results := [.lit (.bool true)], args := [d1, d2] }
  | _ => none }
def ringClampsRow : OpenClaim := { program := "ytpfjpfepbhfmeaa", sum := "eb1fe3520967d814099b0748e844806e5d61dc9a787455a31689d8d9a738b410", func := "tenement/tenementlaw08.RingClamps", spec := "ringClamps", unfollowed := true, recurses := true, apart := false }
def RingClampsSaid : Prop := ringClampsRow.holds Try.pinned (OpenSpec.ofChange ringClampsSpec)

/-- ITS FALSE NEIGHBOUR: 'it returns false'. Refute it at one input. -/
def ringClampsWrong : ChangeSpec := { name := "ringClamps", fn := fun _ => fun
  | [d1, d2] => { results := [.lit (.bool false)], args := [d1, d2] }
  | _ => none }
def RingClampsWrongFalsely : Prop := ringClampsRow.holds Try.pinned (OpenSpec.ofChange ringClampsWrong)

/-- 'tenementlaw08.RingPlays': WHATEVER THE INPUT: true; the input reads as it did. -/
def ringPlaysSpec : ChangeSpec := { name := "ringPlays", fn := fun _ => fun
  | [d1, d2, d3] => { results := [.lit (.bool true)], args := [d1, d2, d3] }
  | _ => none }
def ringPlaysRow : OpenClaim := { program := "ytpfjpfepbhfmeaa", sum := "eb1fe3520967d814099b0748e844806e5d61dc9a787455a31689d8d9a738b410", func := "tenement/tenementlaw08.RingPlays", spec := "ringPlays", unfollowed := true, recurses := true, apart := false }
def RingPlaysSaid : Prop := ringPlaysRow.holds Try.pinned (OpenSpec.ofChange ringPlaysSpec)

/-- ITS FALSE NEIGHBOUR: 'it returns false'. Refute it at one input. -/
def ringPlaysWrong : ChangeSpec := { name := "ringPlays", fn := fun _ => fun
  | [d1, d2, d3] => { results := [.lit (.bool false)], args := [d1, d2, d3] }
  | _ => none }
def RingPlaysWrongFalsely : Prop := ringPlaysRow.holds Try.pinned (OpenSpec.ofChange ringPlaysWrong)

/-- 'tenementlaw08.RingZero': WHATEVER THE INPUT: true; the input reads as it did. -/
def ringZeroSpec : ChangeSpec := { name := "ringZero", fn := fun _ => fun
  | [d1, d2] => { results := [.lit (.bool true)], args := [d1, d2] }
  | _ => none }
def ringZeroRow : OpenClaim := { program := "ytpfjpfepbhfmeaa", sum := "eb1fe3520967d814099b0748e844806e5d61dc9a787455a31689d8d9a738b410", func := "tenement/tenementlaw08.RingZero", spec := "ringZero", unfollowed := true, recurses := true, apart := false }
def RingZeroSaid : Prop := ringZeroRow.holds Try.pinned (OpenSpec.ofChange ringZeroSpec)

/-- ITS FALSE NEIGHBOUR: 'it returns false'. Refute it at one input. -/
def ringZeroWrong : ChangeSpec := { name := "ringZero", fn := fun _ => fun
  | [d1, d2] => { results := [.lit (.bool false)], args := [d1, d2] }
  | _ => none }
def RingZeroWrongFalsely : Prop := ringZeroRow.holds Try.pinned (OpenSpec.ofChange ringZeroWrong)

/-- 'tenementlaw08.RingTurns': WHATEVER THE INPUT: true; the input reads as it did. -/
def ringTurnsSpec : ChangeSpec := { name := "ringTurns", fn := fun _ => fun
  | [d] => { results := [.lit (.bool true)], args := [d] }
  | _ => none }
def ringTurnsRow : OpenClaim := { program := "ytpfjpfepbhfmeaa", sum := "eb1fe3520967d814099b0748e844806e5d61dc9a787455a31689d8d9a738b410", func := "tenement/tenementlaw08.RingTurns", spec := "ringTurns", unfollowed := true, recurses := true, apart := false }
def RingTurnsSaid : Prop := ringTurnsRow.holds Try.pinned (OpenSpec.ofChange ringTurnsSpec)

/-- ITS FALSE NEIGHBOUR: 'it returns false'. Refute it at one input. -/
def ringTurnsWrong : ChangeSpec := { name := "ringTurns", fn := fun _ => fun
  | [d] => { results := [.lit (.bool false)], args := [d] }
  | _ => none }
def RingTurnsWrongFalsely : Prop := ringTurnsRow.holds Try.pinned (OpenSpec.ofChange ringTurnsWrong)

/- THE SECOND FORM. 'bulk': how many values and letters a reading holds, each counted each time it is reached (what is shared counts as often as it is met; a slice's spare places count too). A statement '..UptoSaid' is the law's where the arguments, and the package variables that the reading takes, are together of bulk at most 1048576: NARROWER than '..Said'. Prove '..Said' where nothing that the law and all that it calls make is longer than what came in: it says more and counts as full. Else prove '..UptoSaid'. A law counts once. -/
mutual
def uptoBulk {H : Type} : DataW H → Nat
  | .lit (.string bytes) => bytes.length + 1
  | .lit _ => 1
  | .nil => 1
  | .ptr d => uptoBulk d + 1
  | .slice elems spare => uptoBulkAll elems + uptoBulkAll spare + 1
  | .agg parts => uptoBulkAll parts + 1
  | .iface _ d => uptoBulk d + 1
  | .map entries => uptoBulkEntries entries + 1
  | .held _ => 1
def uptoBulkAll {H : Type} : List (DataW H) → Nat
  | [] => 0
  | d :: r => uptoBulk d + uptoBulkAll r
def uptoBulkEntries {H : Type} : List (Lit × DataW H) → Nat
  | [] => 0
  | x :: r => uptoBulkEntry x + uptoBulkEntries r
def uptoBulkEntry {H : Type} : Lit × DataW H → Nat
  | (.string bytes, d) => bytes.length + uptoBulk d + 1
  | (_, d) => uptoBulk d + 1
 end
def uptoSmall : (H : Type) → List (DataW H) → Bool := fun _ ds => decide (uptoBulkAll ds ≤ 1048576)
def OpenSpec.upto (s : _root_.Go.ChangeSpec) : _root_.Go.OpenSpec := { _root_.Go.OpenSpec.ofChange s with cond := some uptoSmall }

/-- 'tenementlaw01.PhysPlays', WHERE WHAT IT READS IS OF BULK AT MOST 1048576: true; the input reads as it did. -/
def physPlaysUptoRow : OpenClaim := { program := "ytpfjpfepbhfmeaa", sum := "eb1fe3520967d814099b0748e844806e5d61dc9a787455a31689d8d9a738b410", func := "tenement/tenementlaw01.PhysPlays", spec := "physPlays", unfollowed := true, recurses := true, apart := false, narrowed := true }
def PhysPlaysUptoSaid : Prop := physPlaysUptoRow.holds Try.pinned (OpenSpec.upto physPlaysSpec)

/-- 'tenementlaw02.ViewPlays', WHERE WHAT IT READS IS OF BULK AT MOST 1048576: true; the input reads as it did. -/
def viewPlaysUptoRow : OpenClaim := { program := "ytpfjpfepbhfmeaa", sum := "eb1fe3520967d814099b0748e844806e5d61dc9a787455a31689d8d9a738b410", func := "tenement/tenementlaw02.ViewPlays", spec := "viewPlays", unfollowed := true, recurses := true, apart := false, narrowed := true }
def ViewPlaysUptoSaid : Prop := viewPlaysUptoRow.holds Try.pinned (OpenSpec.upto viewPlaysSpec)

/-- 'tenementlaw02.ViewOrder', WHERE WHAT IT READS IS OF BULK AT MOST 1048576: true; the input reads as it did. -/
def viewOrderUptoRow : OpenClaim := { program := "ytpfjpfepbhfmeaa", sum := "eb1fe3520967d814099b0748e844806e5d61dc9a787455a31689d8d9a738b410", func := "tenement/tenementlaw02.ViewOrder", spec := "viewOrder", unfollowed := true, recurses := true, apart := false, narrowed := true }
def ViewOrderUptoSaid : Prop := viewOrderUptoRow.holds Try.pinned (OpenSpec.upto viewOrderSpec)

/-- 'tenementlaw04.PteWalks', WHERE WHAT IT READS IS OF BULK AT MOST 1048576: true; the input reads as it did. -/
def pteWalksUptoRow : OpenClaim := { program := "ytpfjpfepbhfmeaa", sum := "eb1fe3520967d814099b0748e844806e5d61dc9a787455a31689d8d9a738b410", func := "tenement/tenementlaw04.PteWalks", spec := "pteWalks", unfollowed := true, recurses := true, apart := false, narrowed := true }
def PteWalksUptoSaid : Prop := pteWalksUptoRow.holds Try.pinned (OpenSpec.upto pteWalksSpec)

/-- 'tenementlaw04.PteBytes', WHERE WHAT IT READS IS OF BULK AT MOST 1048576: true; the input reads as it did. -/
def pteBytesUptoRow : OpenClaim := { program := "ytpfjpfepbhfmeaa", sum := "eb1fe3520967d814099b0748e844806e5d61dc9a787455a31689d8d9a738b410", func := "tenement/tenementlaw04.PteBytes", spec := "pteBytes", unfollowed := true, recurses := true, apart := false, narrowed := true }
def PteBytesUptoSaid : Prop := pteBytesUptoRow.holds Try.pinned (OpenSpec.upto pteBytesSpec)

/-- 'tenementlaw04.PteKept', WHERE WHAT IT READS IS OF BULK AT MOST 1048576: true; the input reads as it did. -/
def pteKeptUptoRow : OpenClaim := { program := "ytpfjpfepbhfmeaa", sum := "eb1fe3520967d814099b0748e844806e5d61dc9a787455a31689d8d9a738b410", func := "tenement/tenementlaw04.PteKept", spec := "pteKept", unfollowed := true, recurses := true, apart := false, narrowed := true }
def PteKeptUptoSaid : Prop := pteKeptUptoRow.holds Try.pinned (OpenSpec.upto pteKeptSpec)

/-- 'tenementlaw08.RingSlots', WHERE WHAT IT READS IS OF BULK AT MOST 1048576: true; the input reads as it did. -/
def ringSlotsUptoRow : OpenClaim := { program := "ytpfjpfepbhfmeaa", sum := "eb1fe3520967d814099b0748e844806e5d61dc9a787455a31689d8d9a738b410", func := "tenement/tenementlaw08.RingSlots", spec := "ringSlots", unfollowed := true, recurses := true, apart := false, narrowed := true }
def RingSlotsUptoSaid : Prop := ringSlotsUptoRow.holds Try.pinned (OpenSpec.upto ringSlotsSpec)

/-- 'tenementlaw08.RingClamps', WHERE WHAT IT READS IS OF BULK AT MOST 1048576: true; the input reads as it did. -/
def ringClampsUptoRow : OpenClaim := { program := "ytpfjpfepbhfmeaa", sum := "eb1fe3520967d814099b0748e844806e5d61dc9a787455a31689d8d9a738b410", func := "tenement/tenementlaw08.RingClamps", spec := "ringClamps", unfollowed := true, recurses := true, apart := false, narrowed := true }
def RingClampsUptoSaid : Prop := ringClampsUptoRow.holds Try.pinned (OpenSpec.upto ringClampsSpec)

/-- 'tenementlaw08.RingPlays', WHERE WHAT IT READS IS OF BULK AT MOST 1048576: true; the input reads as it did. -/
def ringPlaysUptoRow : OpenClaim := { program := "ytpfjpfepbhfmeaa", sum := "eb1fe3520967d814099b0748e844806e5d61dc9a787455a31689d8d9a738b410", func := "tenement/tenementlaw08.RingPlays", spec := "ringPlays", unfollowed := true, recurses := true, apart := false, narrowed := true }
def RingPlaysUptoSaid : Prop := ringPlaysUptoRow.holds Try.pinned (OpenSpec.upto ringPlaysSpec)

/-- 'tenementlaw08.RingZero', WHERE WHAT IT READS IS OF BULK AT MOST 1048576: true; the input reads as it did. -/
def ringZeroUptoRow : OpenClaim := { program := "ytpfjpfepbhfmeaa", sum := "eb1fe3520967d814099b0748e844806e5d61dc9a787455a31689d8d9a738b410", func := "tenement/tenementlaw08.RingZero", spec := "ringZero", unfollowed := true, recurses := true, apart := false, narrowed := true }
def RingZeroUptoSaid : Prop := ringZeroUptoRow.holds Try.pinned (OpenSpec.upto ringZeroSpec)

/-- 'tenementlaw08.RingTurns', WHERE WHAT IT READS IS OF BULK AT MOST 1048576: true; the input reads as it did. -/
def ringTurnsUptoRow : OpenClaim := { program := "ytpfjpfepbhfmeaa", sum := "eb1fe3520967d814099b0748e844806e5d61dc9a787455a31689d8d9a738b410", func := "tenement/tenementlaw08.RingTurns", spec := "ringTurns", unfollowed := true, recurses := true, apart := false, narrowed := true }
def RingTurnsUptoSaid : Prop := ringTurnsUptoRow.holds Try.pinned (OpenSpec.upto ringTurnsSpec)

end Rows
end Go.Proofs.Ytpfjpfepbhfmeaa
