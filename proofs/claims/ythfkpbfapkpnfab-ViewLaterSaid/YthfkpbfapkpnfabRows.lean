/-
  No cell of these rows narrows 'for every input' (looked for: loops, veiled, ifaces, maps, wideKeys, modest, calm, conditions, laid).
  DERIVED. THE GIVEN ROWS OF THIS SEAT. 12 by the template 'for every input the law returns true; each argument reads behind the call as it read before'; 0 by the template 'total and deterministic' (their statements: YthfkpbfapkpnfabTotals.lean).
  GIVEN WITH THE SEED: the statements are not yours to turn. If you find one false, say at which input.
  Laid BY PROGRAM, IN A SANDBOX (cutbox-rows.mjs): the forced cells as the released guide's own fill.sh prints them over the translation 77cdbe40f8c0f5c3… (all of the seat's roots in one cut). By AI agents, Wed Nov 11 2026. No macro, syntax, notation, axiom, sorry.
-/
import Derived.Test.YthfkpbfapkpnfabChecked
import GoSem.Claim
import GoSem.ClaimJoined
import GoSem.ClaimMapViews
import Derived.JoinedTies
import Derived.KernelRfl
namespace Go.Proofs.Ythfkpbfapkpnfab
/- THE CELL 'sum', in the pinned program and in every row, IS THE sha256 OF THE DUMP (.gsa) THAT YthfkpbfapkpnfabProg.lean LOADS. Nothing in Lean hashes anything: it is a label: what it is worth is what the hold of that sum in a sandbox is worth. -/
noncomputable def Try.pinned : Pinned := { name := "ythfkpbfapkpnfab", sum := "77cdbe40f8c0f5c3ea07050505a17a4d91127758dce8e913f04deb92005e97eb", checked := Try.checked }
namespace Rows
def none {H : Type} : Left H := { results := [], args := [] }

/-- 'tenementlaw01.PhysZero': WHATEVER THE INPUT: true; the input reads as it did. -/
def physZeroSpec : ChangeSpec := { name := "physZero", fn := fun _ => fun
  | [d1, d2, d3] => { results := [.lit (.bool true)], args := [d1, d2, d3] }
  | _ => none }
def physZeroRow : OpenClaim := { program := "ythfkpbfapkpnfab", sum := "77cdbe40f8c0f5c3ea07050505a17a4d91127758dce8e913f04deb92005e97eb", func := "tenement/tenementlaw01.PhysZero", spec := "physZero", unfollowed := true, recurses := true, apart := false }
def PhysZeroSaid : Prop := physZeroRow.holds Try.pinned (OpenSpec.ofChange physZeroSpec)

/-- ITS FALSE NEIGHBOUR: 'it returns false'. Refute it at one input. -/
def physZeroWrong : ChangeSpec := { name := "physZero", fn := fun _ => fun
  | [d1, d2, d3] => { results := [.lit (.bool false)], args := [d1, d2, d3] }
  | _ => none }
def PhysZeroWrongFalsely : Prop := physZeroRow.holds Try.pinned (OpenSpec.ofChange physZeroWrong)

/-- 'tenementlaw01.PhysParts': WHATEVER THE INPUT: true; the input reads as it did. -/
def physPartsSpec : ChangeSpec := { name := "physParts", fn := fun _ => fun
  | [d1, d2] => { results := [.lit (.bool true)], args := [d1, d2] }
  | _ => none }
def physPartsRow : OpenClaim := { program := "ythfkpbfapkpnfab", sum := "77cdbe40f8c0f5c3ea07050505a17a4d91127758dce8e913f04deb92005e97eb", func := "tenement/tenementlaw01.PhysParts", spec := "physParts", unfollowed := true, recurses := true, apart := false }
def PhysPartsSaid : Prop := physPartsRow.holds Try.pinned (OpenSpec.ofChange physPartsSpec)

/-- ITS FALSE NEIGHBOUR: 'it returns false'. Refute it at one input. -/
def physPartsWrong : ChangeSpec := { name := "physParts", fn := fun _ => fun
  | [d1, d2] => { results := [.lit (.bool false)], args := [d1, d2] }
  | _ => none }
def PhysPartsWrongFalsely : Prop := physPartsRow.holds Try.pinned (OpenSpec.ofChange physPartsWrong)

/-- 'tenementlaw01.PhysLeast': WHATEVER THE INPUT: true; the input reads as it did. -/
def physLeastSpec : ChangeSpec := { name := "physLeast", fn := fun _ => fun
  | [d1, d2] => { results := [.lit (.bool true)], args := [d1, d2] }
  | _ => none }
def physLeastRow : OpenClaim := { program := "ythfkpbfapkpnfab", sum := "77cdbe40f8c0f5c3ea07050505a17a4d91127758dce8e913f04deb92005e97eb", func := "tenement/tenementlaw01.PhysLeast", spec := "physLeast", unfollowed := true, recurses := true, apart := false }
def PhysLeastSaid : Prop := physLeastRow.holds Try.pinned (OpenSpec.ofChange physLeastSpec)

/-- ITS FALSE NEIGHBOUR: 'it returns false'. Refute it at one input. -/
def physLeastWrong : ChangeSpec := { name := "physLeast", fn := fun _ => fun
  | [d1, d2] => { results := [.lit (.bool false)], args := [d1, d2] }
  | _ => none }
def PhysLeastWrongFalsely : Prop := physLeastRow.holds Try.pinned (OpenSpec.ofChange physLeastWrong)

/-- 'tenementlaw02.ViewKept': WHATEVER THE INPUT: true; the input reads as it did. -/
def viewKeptSpec : ChangeSpec := { name := "viewKept", fn := fun _ => fun
  | [d1, d2, d3] => { results := [.lit (.bool true)], args := [d1, d2, d3] }
  | _ => none }
def viewKeptRow : OpenClaim := { program := "ythfkpbfapkpnfab", sum := "77cdbe40f8c0f5c3ea07050505a17a4d91127758dce8e913f04deb92005e97eb", func := "tenement/tenementlaw02.ViewKept", spec := "viewKept", unfollowed := true, recurses := true, apart := false }
def ViewKeptSaid : Prop := viewKeptRow.holds Try.pinned (OpenSpec.ofChange viewKeptSpec)

/-- ITS FALSE NEIGHBOUR: 'it returns false'. Refute it at one input. -/
def viewKeptWrong : ChangeSpec := { name := "viewKept", fn := fun _ => fun
  | [d1, d2, d3] => { results := [.lit (.bool false)], args := [d1, d2, d3] }
  | _ => none }
def ViewKeptWrongFalsely : Prop := viewKeptRow.holds Try.pinned (OpenSpec.ofChange viewKeptWrong)

/-- 'tenementlaw01.PhysPlays': WHATEVER THE INPUT: true; the input reads as it did. -/
def physPlaysSpec : ChangeSpec := { name := "physPlays", fn := fun _ => fun
  | [d1, d2] => { results := [.lit (.bool true)], args := [d1, d2] }
  | _ => none }
def physPlaysRow : OpenClaim := { program := "ythfkpbfapkpnfab", sum := "77cdbe40f8c0f5c3ea07050505a17a4d91127758dce8e913f04deb92005e97eb", func := "tenement/tenementlaw01.PhysPlays", spec := "physPlays", unfollowed := true, recurses := true, apart := false }
def PhysPlaysSaid : Prop := physPlaysRow.holds Try.pinned (OpenSpec.ofChange physPlaysSpec)

/-- ITS FALSE NEIGHBOUR: 'it returns false'. Refute it at one input. -/
def physPlaysWrong : ChangeSpec := { name := "physPlays", fn := fun _ => fun
  | [d1, d2] => { results := [.lit (.bool false)], args := [d1, d2] }
  | _ => none }
def PhysPlaysWrongFalsely : Prop := physPlaysRow.holds Try.pinned (OpenSpec.ofChange physPlaysWrong)

/-- 'tenementlaw01.PhysCopies': WHATEVER THE INPUT: true; the input reads as it did. -/
def physCopiesSpec : ChangeSpec := { name := "physCopies", fn := fun _ => fun
  | [d1, d2, d3] => { results := [.lit (.bool true)], args := [d1, d2, d3] }
  | _ => none }
def physCopiesRow : OpenClaim := { program := "ythfkpbfapkpnfab", sum := "77cdbe40f8c0f5c3ea07050505a17a4d91127758dce8e913f04deb92005e97eb", func := "tenement/tenementlaw01.PhysCopies", spec := "physCopies", unfollowed := true, recurses := true, apart := false }
def PhysCopiesSaid : Prop := physCopiesRow.holds Try.pinned (OpenSpec.ofChange physCopiesSpec)

/-- ITS FALSE NEIGHBOUR: 'it returns false'. Refute it at one input. -/
def physCopiesWrong : ChangeSpec := { name := "physCopies", fn := fun _ => fun
  | [d1, d2, d3] => { results := [.lit (.bool false)], args := [d1, d2, d3] }
  | _ => none }
def PhysCopiesWrongFalsely : Prop := physCopiesRow.holds Try.pinned (OpenSpec.ofChange physCopiesWrong)

/-- 'tenementlaw02.ViewLater': WHATEVER THE INPUT: true; the input reads as it did. -/
def viewLaterSpec : ChangeSpec := { name := "viewLater", fn := fun _ => fun
  | [d1, d2, d3, d4, d5] => { results := [.lit (.bool true)], args := [d1, d2, d3, d4, d5] }
  | _ => none }
def viewLaterRow : OpenClaim := { program := "ythfkpbfapkpnfab", sum := "77cdbe40f8c0f5c3ea07050505a17a4d91127758dce8e913f04deb92005e97eb", func := "tenement/tenementlaw02.ViewLater", spec := "viewLater", unfollowed := true, recurses := true, apart := false }
def ViewLaterSaid : Prop := viewLaterRow.holds Try.pinned (OpenSpec.ofChange viewLaterSpec)

/-- ITS FALSE NEIGHBOUR: 'it returns false'. Refute it at one input. -/
def viewLaterWrong : ChangeSpec := { name := "viewLater", fn := fun _ => fun
  | [d1, d2, d3, d4, d5] => { results := [.lit (.bool false)], args := [d1, d2, d3, d4, d5] }
  | _ => none }
def ViewLaterWrongFalsely : Prop := viewLaterRow.holds Try.pinned (OpenSpec.ofChange viewLaterWrong)

/-- 'tenementlaw02.ViewWords': WHATEVER THE INPUT: true; the input reads as it did. -/
def viewWordsSpec : ChangeSpec := { name := "viewWords", fn := fun _ => fun
  | [d1, d2, d3, d4] => { results := [.lit (.bool true)], args := [d1, d2, d3, d4] }
  | _ => none }
def viewWordsRow : OpenClaim := { program := "ythfkpbfapkpnfab", sum := "77cdbe40f8c0f5c3ea07050505a17a4d91127758dce8e913f04deb92005e97eb", func := "tenement/tenementlaw02.ViewWords", spec := "viewWords", unfollowed := true, recurses := true, apart := false }
def ViewWordsSaid : Prop := viewWordsRow.holds Try.pinned (OpenSpec.ofChange viewWordsSpec)

/-- ITS FALSE NEIGHBOUR: 'it returns false'. Refute it at one input. -/
def viewWordsWrong : ChangeSpec := { name := "viewWords", fn := fun _ => fun
  | [d1, d2, d3, d4] => { results := [.lit (.bool false)], args := [d1, d2, d3, d4] }
  | _ => none }
def ViewWordsWrongFalsely : Prop := viewWordsRow.holds Try.pinned (OpenSpec.ofChange viewWordsWrong)

/-- 'tenementlaw02.ViewPlays': WHATEVER THE INPUT: true; the input reads as it did. -/
def viewPlaysSpec : ChangeSpec := { name := "viewPlays", fn := fun _ => fun
  | [d1, d2, d3] => { results := [.lit (.bool true)], args := [d1, d2, d3] }
  | _ => none }
def viewPlaysRow : OpenClaim := { program := "ythfkpbfapkpnfab", sum := "77cdbe40f8c0f5c3ea07050505a17a4d91127758dce8e913f04deb92005e97eb", func := "tenement/tenementlaw02.ViewPlays", spec := "viewPlays", unfollowed := true, recurses := true, apart := false }
def ViewPlaysSaid : Prop := viewPlaysRow.holds Try.pinned (OpenSpec.ofChange viewPlaysSpec)

/-- ITS FALSE NEIGHBOUR: 'it returns false'. Refute it at one input. -/
def viewPlaysWrong : ChangeSpec := { name := "viewPlays", fn := fun _ => fun
  | [d1, d2, d3] => { results := [.lit (.bool false)], args := [d1, d2, d3] }
  | _ => none }
def ViewPlaysWrongFalsely : Prop := viewPlaysRow.holds Try.pinned (OpenSpec.ofChange viewPlaysWrong)

/-- 'tenementlaw04.PteBytes': WHATEVER THE INPUT: true; the input reads as it did. -/
def pteBytesSpec : ChangeSpec := { name := "pteBytes", fn := fun _ => fun
  | [d1, d2, d3, d4, d5, d6] => { results := [.lit (.bool true)], args := [d1, d2, d3, d4, d5, d6] }
  | _ => none }
def pteBytesRow : OpenClaim := { program := "ythfkpbfapkpnfab", sum := "77cdbe40f8c0f5c3ea07050505a17a4d91127758dce8e913f04deb92005e97eb", func := "tenement/tenementlaw04.PteBytes", spec := "pteBytes", unfollowed := true, recurses := true, apart := false }
def PteBytesSaid : Prop := pteBytesRow.holds Try.pinned (OpenSpec.ofChange pteBytesSpec)

/-- ITS FALSE NEIGHBOUR: 'it returns false'. Refute it at one input. -/
def pteBytesWrong : ChangeSpec := { name := "pteBytes", fn := fun _ => fun
  | [d1, d2, d3, d4, d5, d6] => { results := [.lit (.bool false)], args := [d1, d2, d3, d4, d5, d6] }
  | _ => none }
def PteBytesWrongFalsely : Prop := pteBytesRow.holds Try.pinned (OpenSpec.ofChange pteBytesWrong)

/-- 'tenementlaw04.PteKept': WHATEVER THE INPUT: true; the input reads as it did. -/
def pteKeptSpec : ChangeSpec := { name := "pteKept", fn := fun _ => fun
  | [d1, d2, d3] => { results := [.lit (.bool true)], args := [d1, d2, d3] }
  | _ => none }
def pteKeptRow : OpenClaim := { program := "ythfkpbfapkpnfab", sum := "77cdbe40f8c0f5c3ea07050505a17a4d91127758dce8e913f04deb92005e97eb", func := "tenement/tenementlaw04.PteKept", spec := "pteKept", unfollowed := true, recurses := true, apart := false }
def PteKeptSaid : Prop := pteKeptRow.holds Try.pinned (OpenSpec.ofChange pteKeptSpec)

/-- ITS FALSE NEIGHBOUR: 'it returns false'. Refute it at one input. -/
def pteKeptWrong : ChangeSpec := { name := "pteKept", fn := fun _ => fun
  | [d1, d2, d3] => { results := [.lit (.bool false)], args := [d1, d2, d3] }
  | _ => none }
def PteKeptWrongFalsely : Prop := pteKeptRow.holds Try.pinned (OpenSpec.ofChange pteKeptWrong)

/-- 'tenementlaw08.RingSlots': WHATEVER THE INPUT: true; the input reads as it did. -/
def ringSlotsSpec : ChangeSpec := { name := "ringSlots", fn := fun _ => fun
  | [d1, d2] => { results := [.lit (.bool true)], args := [d1, d2] }
  | _ => none }
def ringSlotsRow : OpenClaim := { program := "ythfkpbfapkpnfab", sum := "77cdbe40f8c0f5c3ea07050505a17a4d91127758dce8e913f04deb92005e97eb", func := "tenement/tenementlaw08.RingSlots", spec := "ringSlots", unfollowed := true, recurses := true, apart := false }
def RingSlotsSaid : Prop := ringSlotsRow.holds Try.pinned (OpenSpec.ofChange ringSlotsSpec)

/-- ITS FALSE NEIGHBOUR: 'it returns false'. Refute it at one input. -/
def ringSlotsWrong : ChangeSpec := { name := "ringSlots", fn := fun _ => fun
  | [d1, d2] => { results := [.lit (.bool false)], args := [d1, d2] }
  | _ => none }
def RingSlotsWrongFalsely : Prop := ringSlotsRow.holds Try.pinned (OpenSpec.ofChange ringSlotsWrong)

/- THE SECOND FORM. 'bulk': how many values and letters a reading holds, each counted each time it is reached (what is shared counts as often as it is met; a slice's spare places count too). A statement '..UptoSaid' is the law's where the arguments, and the package variables that the reading takes, are together of bulk at most 1048576: NARROWER than '..Said'. Prove '..Said' where nothing that the law and all that it calls make is longer than what came in: it says more and counts as full. Else prove '..UptoSaid'. A law counts once. -/
mutual
def uptoBulk {H : Type} : DataW H → Nat
  | .lit (.string bytes) => bytes.length + 1
  | .lit _ => 1
  | .nil => 1
  | .ptr d => uptoBulk d + 1
  | .slice elems spare => uptoBulkAll elems + uptoBulkAll spare + 1
  | .agg parts => uptoBulkAll parts + 1
  | .iface _ d => uptoBulk d + 1
  | .map entries => uptoBulkEntries entries + 1
  | .held _ => 1
def uptoBulkAll {H : Type} : List (DataW H) → Nat
  | [] => 0
  | d :: r => uptoBulk d + uptoBulkAll r
def uptoBulkEntries {H : Type} : List (Lit × DataW H) → Nat
  | [] => 0
  | x :: r => uptoBulkEntry x + uptoBulkEntries r
def uptoBulkEntry {H : Type} : Lit × DataW H → Nat
  | (.string bytes, d) => bytes.length + uptoBulk d + 1
  | (_, d) => uptoBulk d + 1
 end
def uptoSmall : (H : Type) → List (DataW H) → Bool := fun _ ds => decide (uptoBulkAll ds ≤ 1048576)
def OpenSpec.upto (s : _root_.Go.ChangeSpec) : _root_.Go.OpenSpec := { _root_.Go.OpenSpec.ofChange s with cond := some uptoSmall }

/-- 'tenementlaw01.PhysZero', WHERE WHAT IT READS IS OF BULK AT MOST 1048576: true; the input reads as it did. -/
def physZeroUptoRow : OpenClaim := { program := "ythfkpbfapkpnfab", sum := "77cdbe40f8c0f5c3ea07050505a17a4d91127758dce8e913f04deb92005e97eb", func := "tenement/tenementlaw01.PhysZero", spec := "physZero", unfollowed := true, recurses := true, apart := false, narrowed := true }
def PhysZeroUptoSaid : Prop := physZeroUptoRow.holds Try.pinned (OpenSpec.upto physZeroSpec)

/-- 'tenementlaw01.PhysParts', WHERE WHAT IT READS IS OF BULK AT MOST 1048576: true; the input reads as it did. -/
def physPartsUptoRow : OpenClaim := { program := "ythfkpbfapkpnfab", sum := "77cdbe40f8c0f5c3ea07050505a17a4d91127758dce8e913f04deb92005e97eb", func := "tenement/tenementlaw01.PhysParts", spec := "physParts", unfollowed := true, recurses := true, apart := false, narrowed := true }
def PhysPartsUptoSaid : Prop := physPartsUptoRow.holds Try.pinned (OpenSpec.upto physPartsSpec)

/-- 'tenementlaw01.PhysLeast', WHERE WHAT IT READS IS OF BULK AT MOST 1048576: true; the input reads as it did. -/
def physLeastUptoRow : OpenClaim := { program := "ythfkpbfapkpnfab", sum := "77cdbe40f8c0f5c3ea07050505a17a4d91127758dce8e913f04deb92005e97eb", func := "tenement/tenementlaw01.PhysLeast", spec := "physLeast", unfollowed := true, recurses := true, apart := false, narrowed := true }
def PhysLeastUptoSaid : Prop := physLeastUptoRow.holds Try.pinned (OpenSpec.upto physLeastSpec)

/-- 'tenementlaw02.ViewKept', WHERE WHAT IT READS IS OF BULK AT MOST 1048576: true; the input reads as it did. -/
def viewKeptUptoRow : OpenClaim := { program := "ythfkpbfapkpnfab", sum := "77cdbe40f8c0f5c3ea07050505a17a4d91127758dce8e913f04deb92005e97eb", func := "tenement/tenementlaw02.ViewKept", spec := "viewKept", unfollowed := true, recurses := true, apart := false, narrowed := true }
def ViewKeptUptoSaid : Prop := viewKeptUptoRow.holds Try.pinned (OpenSpec.upto viewKeptSpec)

/-- 'tenementlaw01.PhysPlays', WHERE WHAT IT READS IS OF BULK AT MOST 1048576: true; the input reads as it did. -/
def physPlaysUptoRow : OpenClaim := { program := "ythfkpbfapkpnfab", sum := "77cdbe40f8c0f5c3ea07050505a17a4d91127758dce8e913f04deb92005e97eb", func := "tenement/tenementlaw01.PhysPlays", spec := "physPlays", unfollowed := true, recurses := true, apart := false, narrowed := true }
def PhysPlaysUptoSaid : Prop := physPlaysUptoRow.holds Try.pinned (OpenSpec.upto physPlaysSpec)

/-- 'tenementlaw01.PhysCopies', WHERE WHAT IT READS IS OF BULK AT MOST 1048576: true; the input reads as it did. -/
def physCopiesUptoRow : OpenClaim := { program := "ythfkpbfapkpnfab", sum := "77cdbe40f8c0f5c3ea07050505a17a4d91127758dce8e913f04deb92005e97eb", func := "tenement/tenementlaw01.PhysCopies", spec := "physCopies", unfollowed := true, recurses := true, apart := false, narrowed := true }
def PhysCopiesUptoSaid : Prop := physCopiesUptoRow.holds Try.pinned (OpenSpec.upto physCopiesSpec)

/-- 'tenementlaw02.ViewLater', WHERE WHAT IT READS IS OF BULK AT MOST 1048576: true; the input reads as it did. -/
def viewLaterUptoRow : OpenClaim := { program := "ythfkpbfapkpnfab", sum := "77cdbe40f8c0f5c3ea07050505a17a4d91127758dce8e913f04deb92005e97eb", func := "tenement/tenementlaw02.ViewLater", spec := "viewLater", unfollowed := true, recurses := true, apart := false, narrowed := true }
def ViewLaterUptoSaid : Prop := viewLaterUptoRow.holds Try.pinned (OpenSpec.upto viewLaterSpec)

/-- 'tenementlaw02.ViewWords', WHERE WHAT IT READS IS OF BULK AT MOST 1048576: true; the input reads as it did. -/
def viewWordsUptoRow : OpenClaim := { program := "ythfkpbfapkpnfab", sum := "77cdbe40f8c0f5c3ea07050505a17a4d91127758dce8e913f04deb92005e97eb", func := "tenement/tenementlaw02.ViewWords", spec := "viewWords", unfollowed := true, recurses := true, apart := false, narrowed := true }
def ViewWordsUptoSaid : Prop := viewWordsUptoRow.holds Try.pinned (OpenSpec.upto viewWordsSpec)

/-- 'tenementlaw02.ViewPlays', WHERE WHAT IT READS IS OF BULK AT MOST 1048576: true; the input reads as it did. -/
def viewPlaysUptoRow : OpenClaim := { program := "ythfkpbfapkpnfab", sum := "77cdbe40f8c0f5c3ea07050505a17a4d91127758dce8e913f04deb92005e97eb", func := "tenement/tenementlaw02.ViewPlays", spec := "viewPlays", unfollowed := true, recurses := true, apart := false, narrowed := true }
def ViewPlaysUptoSaid : Prop := viewPlaysUptoRow.holds Try.pinned (OpenSpec.upto viewPlaysSpec)

/-- 'tenementlaw04.PteBytes', WHERE WHAT IT READS IS OF BULK AT MOST 1048576: true; the input reads as it did. -/
def pteBytesUptoRow : OpenClaim := { program := "ythfkpbfapkpnfab", sum := "77cdbe40f8c0f5c3ea07050505a17a4d91127758dce8e913f04deb92005e97eb", func := "tenement/tenementlaw04.PteBytes", spec := "pteBytes", unfollowed := true, recurses := true, apart := false, narrowed := true }
def PteBytesUptoSaid : Prop := pteBytesUptoRow.holds Try.pinned (OpenSpec.upto pteBytesSpec)

/-- 'tenementlaw04.PteKept', WHERE WHAT IT READS IS OF BULK AT MOST 1048576: true; the input reads as it did. -/
def pteKeptUptoRow : OpenClaim := { program := "ythfkpbfapkpnfab", sum := "77cdbe40f8c0f5c3ea07050505a17a4d91127758dce8e913f04deb92005e97eb", func := "tenement/tenementlaw04.PteKept", spec := "pteKept", unfollowed := true, recurses := true, apart := false, narrowed := true }
def PteKeptUptoSaid : Prop := pteKeptUptoRow.holds Try.pinned (OpenSpec.upto pteKeptSpec)

/-- 'tenementlaw08.RingSlots', WHERE WHAT IT READS IS OF BULK AT MOST 1048576: true; the input reads as it did. -/
def ringSlotsUptoRow : OpenClaim := { program := "ythfkpbfapkpnfab", sum := "77cdbe40f8c0f5c3ea07050505a17a4d91127758dce8e913f04deb92005e97eb", func := "tenement/tenementlaw08.RingSlots", spec := "ringSlots", unfollowed := true, recurses := true, apart := false, narrowed := true }
def RingSlotsUptoSaid : Prop := ringSlotsUptoRow.holds Try.pinned (OpenSpec.upto ringSlotsSpec)

end Rows
end Go.Proofs.Ythfkpbfapkpnfab
