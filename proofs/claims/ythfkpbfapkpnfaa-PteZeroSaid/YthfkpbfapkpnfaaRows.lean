/-
  No cell of these rows narrows 'for every input' (looked for: loops, veiled, ifaces, maps, wideKeys, modest, calm, conditions, laid).
  DERIVED. THE GIVEN ROWS OF THIS SEAT. 12 by the template 'for every input the law returns true; each argument reads behind the call as it read before'; 0 by the template 'total and deterministic' (their statements: YthfkpbfapkpnfaaTotals.lean).
  GIVEN WITH THE SEED: the statements are not yours to turn. If you find one false, say at which input.
  Laid BY PROGRAM, IN A SANDBOX (cutbox-rows.mjs): the forced cells as the released guide's own fill.sh prints them over the translation 4b570a09c31f4167… (all of the seat's roots in one cut). By AI agents, Wed Nov 11 2026. No macro, syntax, notation, axiom, sorry.
-/
import Derived.Test.YthfkpbfapkpnfaaChecked
import GoSem.Claim
import GoSem.ClaimJoined
import GoSem.ClaimMapViews
import Derived.JoinedTies
import Derived.KernelRfl
namespace Go.Proofs.Ythfkpbfapkpnfaa
/- THE CELL 'sum', in the pinned program and in every row, IS THE sha256 OF THE DUMP (.gsa) THAT YthfkpbfapkpnfaaProg.lean LOADS. Nothing in Lean hashes anything: it is a label: what it is worth is what the hold of that sum in a sandbox is worth. -/
noncomputable def Try.pinned : Pinned := { name := "ythfkpbfapkpnfaa", sum := "4b570a09c31f4167ac41bc3868f2d3a29e20b0bb11a98d8fbe977dd9bd72598d", checked := Try.checked }
namespace Rows
def none {H : Type} : Left H := { results := [], args := [] }

/-- 'tenementlaw08.RingAhead': WHATEVER THE INPUT: true; the input reads as it did. -/
def ringAheadSpec : ChangeSpec := { name := "ringAhead", fn := fun _ => fun
  | [d1, d2] => { results := [.lit (.bool true)], args := [d1, d2] }
  | _ => none }
def ringAheadRow : OpenClaim := { program := "ythfkpbfapkpnfaa", sum := "4b570a09c31f4167ac41bc3868f2d3a29e20b0bb11a98d8fbe977dd9bd72598d", func := "tenement/tenementlaw08.RingAhead", spec := "ringAhead", apart := false }
def RingAheadSaid : Prop := ringAheadRow.holds Try.pinned (OpenSpec.ofChange ringAheadSpec)

/-- ITS FALSE NEIGHBOUR: 'it returns false'. Refute it at one input. -/
def ringAheadWrong : ChangeSpec := { name := "ringAhead", fn := fun _ => fun
  | [d1, d2] => { results := [.lit (.bool false)], args := [d1, d2] }
  | _ => none }
def RingAheadWrongFalsely : Prop := ringAheadRow.holds Try.pinned (OpenSpec.ofChange ringAheadWrong)

/-- 'tenementlaw04.PtePacks': WHATEVER THE INPUT: true; the input reads as it did. -/
def ptePacksSpec : ChangeSpec := { name := "ptePacks", fn := fun _ => fun
  | [d] => { results := [.lit (.bool true)], args := [d] }
  | _ => none }
def ptePacksRow : OpenClaim := { program := "ythfkpbfapkpnfaa", sum := "4b570a09c31f4167ac41bc3868f2d3a29e20b0bb11a98d8fbe977dd9bd72598d", func := "tenement/tenementlaw04.PtePacks", spec := "ptePacks", apart := false }
def PtePacksSaid : Prop := ptePacksRow.holds Try.pinned (OpenSpec.ofChange ptePacksSpec)

/-- ITS FALSE NEIGHBOUR: 'it returns false'. Refute it at one input. -/
def ptePacksWrong : ChangeSpec := { name := "ptePacks", fn := fun _ => fun
  | [d] => { results := [.lit (.bool false)], args := [d] }
  | _ => none }
def PtePacksWrongFalsely : Prop := ptePacksRow.holds Try.pinned (OpenSpec.ofChange ptePacksWrong)

/-- 'tenementlaw04.PteSplits': WHATEVER THE INPUT: true; the input reads as it did. -/
def pteSplitsSpec : ChangeSpec := { name := "pteSplits", fn := fun _ => fun
  | [d] => { results := [.lit (.bool true)], args := [d] }
  | _ => none }
def pteSplitsRow : OpenClaim := { program := "ythfkpbfapkpnfaa", sum := "4b570a09c31f4167ac41bc3868f2d3a29e20b0bb11a98d8fbe977dd9bd72598d", func := "tenement/tenementlaw04.PteSplits", spec := "pteSplits", apart := false }
def PteSplitsSaid : Prop := pteSplitsRow.holds Try.pinned (OpenSpec.ofChange pteSplitsSpec)

/-- ITS FALSE NEIGHBOUR: 'it returns false'. Refute it at one input. -/
def pteSplitsWrong : ChangeSpec := { name := "pteSplits", fn := fun _ => fun
  | [d] => { results := [.lit (.bool false)], args := [d] }
  | _ => none }
def PteSplitsWrongFalsely : Prop := pteSplitsRow.holds Try.pinned (OpenSpec.ofChange pteSplitsWrong)

/-- 'tenementlaw04.PteJoins': WHATEVER THE INPUT: true; the input reads as it did. -/
def pteJoinsSpec : ChangeSpec := { name := "pteJoins", fn := fun _ => fun
  | [d1, d2, d3] => { results := [.lit (.bool true)], args := [d1, d2, d3] }
  | _ => none }
def pteJoinsRow : OpenClaim := { program := "ythfkpbfapkpnfaa", sum := "4b570a09c31f4167ac41bc3868f2d3a29e20b0bb11a98d8fbe977dd9bd72598d", func := "tenement/tenementlaw04.PteJoins", spec := "pteJoins", apart := false }
def PteJoinsSaid : Prop := pteJoinsRow.holds Try.pinned (OpenSpec.ofChange pteJoinsSpec)

/-- ITS FALSE NEIGHBOUR: 'it returns false'. Refute it at one input. -/
def pteJoinsWrong : ChangeSpec := { name := "pteJoins", fn := fun _ => fun
  | [d1, d2, d3] => { results := [.lit (.bool false)], args := [d1, d2, d3] }
  | _ => none }
def PteJoinsWrongFalsely : Prop := pteJoinsRow.holds Try.pinned (OpenSpec.ofChange pteJoinsWrong)

/-- 'tenementlaw04.PteUnpacks': WHATEVER THE INPUT: true; the input reads as it did. -/
def pteUnpacksSpec : ChangeSpec := { name := "pteUnpacks", fn := fun _ => fun
  | [d] => { results := [.lit (.bool true)], args := [d] }
  | _ => none }
def pteUnpacksRow : OpenClaim := { program := "ythfkpbfapkpnfaa", sum := "4b570a09c31f4167ac41bc3868f2d3a29e20b0bb11a98d8fbe977dd9bd72598d", func := "tenement/tenementlaw04.PteUnpacks", spec := "pteUnpacks", apart := false }
def PteUnpacksSaid : Prop := pteUnpacksRow.holds Try.pinned (OpenSpec.ofChange pteUnpacksSpec)

/-- ITS FALSE NEIGHBOUR: 'it returns false'. Refute it at one input. -/
def pteUnpacksWrong : ChangeSpec := { name := "pteUnpacks", fn := fun _ => fun
  | [d] => { results := [.lit (.bool false)], args := [d] }
  | _ => none }
def PteUnpacksWrongFalsely : Prop := pteUnpacksRow.holds Try.pinned (OpenSpec.ofChange pteUnpacksWrong)

/-- 'tenementlaw04.PteBack': WHATEVER THE INPUT: true; the input reads as it did. -/
def pteBackSpec : ChangeSpec := { name := "pteBack", fn := fun _ => fun
  | [d1, d2] => { results := [.lit (.bool true)], args := [d1, d2] }
  | _ => none }
def pteBackRow : OpenClaim := { program := "ythfkpbfapkpnfaa", sum := "4b570a09c31f4167ac41bc3868f2d3a29e20b0bb11a98d8fbe977dd9bd72598d", func := "tenement/tenementlaw04.PteBack", spec := "pteBack", apart := false }
def PteBackSaid : Prop := pteBackRow.holds Try.pinned (OpenSpec.ofChange pteBackSpec)

/-- ITS FALSE NEIGHBOUR: 'it returns false'. Refute it at one input. -/
def pteBackWrong : ChangeSpec := { name := "pteBack", fn := fun _ => fun
  | [d1, d2] => { results := [.lit (.bool false)], args := [d1, d2] }
  | _ => none }
def PteBackWrongFalsely : Prop := pteBackRow.holds Try.pinned (OpenSpec.ofChange pteBackWrong)

/-- 'tenementlaw01.PhysBytes': WHATEVER THE INPUT: true; the input reads as it did. -/
def physBytesSpec : ChangeSpec := { name := "physBytes", fn := fun _ => fun
  | [d1, d2, d3, d4] => { results := [.lit (.bool true)], args := [d1, d2, d3, d4] }
  | _ => none }
def physBytesRow : OpenClaim := { program := "ythfkpbfapkpnfaa", sum := "4b570a09c31f4167ac41bc3868f2d3a29e20b0bb11a98d8fbe977dd9bd72598d", func := "tenement/tenementlaw01.PhysBytes", spec := "physBytes", unfollowed := true, recurses := true, apart := false }
def PhysBytesSaid : Prop := physBytesRow.holds Try.pinned (OpenSpec.ofChange physBytesSpec)

/-- ITS FALSE NEIGHBOUR: 'it returns false'. Refute it at one input. -/
def physBytesWrong : ChangeSpec := { name := "physBytes", fn := fun _ => fun
  | [d1, d2, d3, d4] => { results := [.lit (.bool false)], args := [d1, d2, d3, d4] }
  | _ => none }
def PhysBytesWrongFalsely : Prop := physBytesRow.holds Try.pinned (OpenSpec.ofChange physBytesWrong)

/-- 'tenementlaw02.ViewZero': WHATEVER THE INPUT: true; the input reads as it did. -/
def viewZeroSpec : ChangeSpec := { name := "viewZero", fn := fun _ => fun
  | [d1, d2] => { results := [.lit (.bool true)], args := [d1, d2] }
  | _ => none }
def viewZeroRow : OpenClaim := { program := "ythfkpbfapkpnfaa", sum := "4b570a09c31f4167ac41bc3868f2d3a29e20b0bb11a98d8fbe977dd9bd72598d", func := "tenement/tenementlaw02.ViewZero", spec := "viewZero", unfollowed := true, recurses := true, apart := false }
def ViewZeroSaid : Prop := viewZeroRow.holds Try.pinned (OpenSpec.ofChange viewZeroSpec)

/-- ITS FALSE NEIGHBOUR: 'it returns false'. Refute it at one input. -/
def viewZeroWrong : ChangeSpec := { name := "viewZero", fn := fun _ => fun
  | [d1, d2] => { results := [.lit (.bool false)], args := [d1, d2] }
  | _ => none }
def ViewZeroWrongFalsely : Prop := viewZeroRow.holds Try.pinned (OpenSpec.ofChange viewZeroWrong)

/-- 'tenementlaw02.ViewOrder': WHATEVER THE INPUT: true; the input reads as it did. -/
def viewOrderSpec : ChangeSpec := { name := "viewOrder", fn := fun _ => fun
  | [d1, d2, d3] => { results := [.lit (.bool true)], args := [d1, d2, d3] }
  | _ => none }
def viewOrderRow : OpenClaim := { program := "ythfkpbfapkpnfaa", sum := "4b570a09c31f4167ac41bc3868f2d3a29e20b0bb11a98d8fbe977dd9bd72598d", func := "tenement/tenementlaw02.ViewOrder", spec := "viewOrder", unfollowed := true, recurses := true, apart := false }
def ViewOrderSaid : Prop := viewOrderRow.holds Try.pinned (OpenSpec.ofChange viewOrderSpec)

/-- ITS FALSE NEIGHBOUR: 'it returns false'. Refute it at one input. -/
def viewOrderWrong : ChangeSpec := { name := "viewOrder", fn := fun _ => fun
  | [d1, d2, d3] => { results := [.lit (.bool false)], args := [d1, d2, d3] }
  | _ => none }
def ViewOrderWrongFalsely : Prop := viewOrderRow.holds Try.pinned (OpenSpec.ofChange viewOrderWrong)

/-- 'tenementlaw04.PteWalks': WHATEVER THE INPUT: true; the input reads as it did. -/
def pteWalksSpec : ChangeSpec := { name := "pteWalks", fn := fun _ => fun
  | [d1, d2, d3, d4, d5, d6] => { results := [.lit (.bool true)], args := [d1, d2, d3, d4, d5, d6] }
  | _ => none }
def pteWalksRow : OpenClaim := { program := "ythfkpbfapkpnfaa", sum := "4b570a09c31f4167ac41bc3868f2d3a29e20b0bb11a98d8fbe977dd9bd72598d", func := "tenement/tenementlaw04.PteWalks", spec := "pteWalks", unfollowed := true, recurses := true, apart := false }
def PteWalksSaid : Prop := pteWalksRow.holds Try.pinned (OpenSpec.ofChange pteWalksSpec)

/-- ITS FALSE NEIGHBOUR: 'it returns false'. Refute it at one input. -/
def pteWalksWrong : ChangeSpec := { name := "pteWalks", fn := fun _ => fun
  | [d1, d2, d3, d4, d5, d6] => { results := [.lit (.bool false)], args := [d1, d2, d3, d4, d5, d6] }
  | _ => none }
def PteWalksWrongFalsely : Prop := pteWalksRow.holds Try.pinned (OpenSpec.ofChange pteWalksWrong)

/-- 'tenementlaw04.PteZero': WHATEVER THE INPUT: true; the input reads as it did. -/
def pteZeroSpec : ChangeSpec := { name := "pteZero", fn := fun _ => fun
  | [d1, d2, d3] => { results := [.lit (.bool true)], args := [d1, d2, d3] }
  | _ => none }
def pteZeroRow : OpenClaim := { program := "ythfkpbfapkpnfaa", sum := "4b570a09c31f4167ac41bc3868f2d3a29e20b0bb11a98d8fbe977dd9bd72598d", func := "tenement/tenementlaw04.PteZero", spec := "pteZero", apart := false }
def PteZeroSaid : Prop := pteZeroRow.holds Try.pinned (OpenSpec.ofChange pteZeroSpec)

/-- ITS FALSE NEIGHBOUR: 'it returns false'. Refute it at one input. -/
def pteZeroWrong : ChangeSpec := { name := "pteZero", fn := fun _ => fun
  | [d1, d2, d3] => { results := [.lit (.bool false)], args := [d1, d2, d3] }
  | _ => none }
def PteZeroWrongFalsely : Prop := pteZeroRow.holds Try.pinned (OpenSpec.ofChange pteZeroWrong)

/-- 'tenementlaw01.PhysRefs': WHATEVER THE INPUT: true; the input reads as it did. -/
def physRefsSpec : ChangeSpec := { name := "physRefs", fn := fun _ => fun
  | [d1, d2] => { results := [.lit (.bool true)], args := [d1, d2] }
  | _ => none }
def physRefsRow : OpenClaim := { program := "ythfkpbfapkpnfaa", sum := "4b570a09c31f4167ac41bc3868f2d3a29e20b0bb11a98d8fbe977dd9bd72598d", func := "tenement/tenementlaw01.PhysRefs", spec := "physRefs", unfollowed := true, recurses := true, apart := false }
def PhysRefsSaid : Prop := physRefsRow.holds Try.pinned (OpenSpec.ofChange physRefsSpec)

/-- ITS FALSE NEIGHBOUR: 'it returns false'. Refute it at one input. -/
def physRefsWrong : ChangeSpec := { name := "physRefs", fn := fun _ => fun
  | [d1, d2] => { results := [.lit (.bool false)], args := [d1, d2] }
  | _ => none }
def PhysRefsWrongFalsely : Prop := physRefsRow.holds Try.pinned (OpenSpec.ofChange physRefsWrong)

/- THE SECOND FORM. 'bulk': how many values and letters a reading holds, each counted each time it is reached (what is shared counts as often as it is met; a slice's spare places count too). A statement '..UptoSaid' is the law's where the arguments, and the package variables that the reading takes, are together of bulk at most 1048576: NARROWER than '..Said'. Prove '..Said' where nothing that the law and all that it calls make is longer than what came in: it says more and counts as full. Else prove '..UptoSaid'. A law counts once. -/
mutual
def uptoBulk {H : Type} : DataW H → Nat
  | .lit (.string bytes) => bytes.length + 1
  | .lit _ => 1
  | .nil => 1
  | .ptr d => uptoBulk d + 1
  | .slice elems spare => uptoBulkAll elems + uptoBulkAll spare + 1
  | .agg parts => uptoBulkAll parts + 1
  | .iface _ d => uptoBulk d + 1
  | .map entries => uptoBulkEntries entries + 1
  | .held _ => 1
def uptoBulkAll {H : Type} : List (DataW H) → Nat
  | [] => 0
  | d :: r => uptoBulk d + uptoBulkAll r
def uptoBulkEntries {H : Type} : List (Lit × DataW H) → Nat
  | [] => 0
  | x :: r => uptoBulkEntry x + uptoBulkEntries r
def uptoBulkEntry {H : Type} : Lit × DataW H → Nat
  | (.string bytes, d) => bytes.length + uptoBulk d + 1
  | (_, d) => uptoBulk d + 1
 end
def uptoSmall : (H : Type) → List (DataW H) → Bool := fun _ ds => decide (uptoBulkAll ds ≤ 1048576)
def OpenSpec.upto (s : _root_.Go.ChangeSpec) : _root_.Go.OpenSpec := { _root_.Go.OpenSpec.ofChange s with cond := some uptoSmall }

/-- 'tenementlaw08.RingAhead', WHERE WHAT IT READS IS OF BULK AT MOST 1048576: true; the input reads as it did. -/
def ringAheadUptoRow : OpenClaim := { program := "ythfkpbfapkpnfaa", sum := "4b570a09c31f4167ac41bc3868f2d3a29e20b0bb11a98d8fbe977dd9bd72598d", func := "tenement/tenementlaw08.RingAhead", spec := "ringAhead", apart := false, narrowed := true }
def RingAheadUptoSaid : Prop := ringAheadUptoRow.holds Try.pinned (OpenSpec.upto ringAheadSpec)

/-- 'tenementlaw04.PtePacks', WHERE WHAT IT READS IS OF BULK AT MOST 1048576: true; the input reads as it did. -/
def ptePacksUptoRow : OpenClaim := { program := "ythfkpbfapkpnfaa", sum := "4b570a09c31f4167ac41bc3868f2d3a29e20b0bb11a98d8fbe977dd9bd72598d", func := "tenement/tenementlaw04.PtePacks", spec := "ptePacks", apart := false, narrowed := true }
def PtePacksUptoSaid : Prop := ptePacksUptoRow.holds Try.pinned (OpenSpec.upto ptePacksSpec)

/-- 'tenementlaw04.PteSplits', WHERE WHAT IT READS IS OF BULK AT MOST 1048576: true; the input reads as it did. -/
def pteSplitsUptoRow : OpenClaim := { program := "ythfkpbfapkpnfaa", sum := "4b570a09c31f4167ac41bc3868f2d3a29e20b0bb11a98d8fbe977dd9bd72598d", func := "tenement/tenementlaw04.PteSplits", spec := "pteSplits", apart := false, narrowed := true }
def PteSplitsUptoSaid : Prop := pteSplitsUptoRow.holds Try.pinned (OpenSpec.upto pteSplitsSpec)

/-- 'tenementlaw04.PteJoins', WHERE WHAT IT READS IS OF BULK AT MOST 1048576: true; the input reads as it did. -/
def pteJoinsUptoRow : OpenClaim := { program := "ythfkpbfapkpnfaa", sum := "4b570a09c31f4167ac41bc3868f2d3a29e20b0bb11a98d8fbe977dd9bd72598d", func := "tenement/tenementlaw04.PteJoins", spec := "pteJoins", apart := false, narrowed := true }
def PteJoinsUptoSaid : Prop := pteJoinsUptoRow.holds Try.pinned (OpenSpec.upto pteJoinsSpec)

/-- 'tenementlaw04.PteUnpacks', WHERE WHAT IT READS IS OF BULK AT MOST 1048576: true; the input reads as it did. -/
def pteUnpacksUptoRow : OpenClaim := { program := "ythfkpbfapkpnfaa", sum := "4b570a09c31f4167ac41bc3868f2d3a29e20b0bb11a98d8fbe977dd9bd72598d", func := "tenement/tenementlaw04.PteUnpacks", spec := "pteUnpacks", apart := false, narrowed := true }
def PteUnpacksUptoSaid : Prop := pteUnpacksUptoRow.holds Try.pinned (OpenSpec.upto pteUnpacksSpec)

/-- 'tenementlaw04.PteBack', WHERE WHAT IT READS IS OF BULK AT MOST 1048576: true; the input reads as it did. -/
def pteBackUptoRow : OpenClaim := { program := "ythfkpbfapkpnfaa", sum := "4b570a09c31f4167ac41bc3868f2d3a29e20b0bb11a98d8fbe977dd9bd72598d", func := "tenement/tenementlaw04.PteBack", spec := "pteBack", apart := false, narrowed := true }
def PteBackUptoSaid : Prop := pteBackUptoRow.holds Try.pinned (OpenSpec.upto pteBackSpec)

/-- 'tenementlaw01.PhysBytes', WHERE WHAT IT READS IS OF BULK AT MOST 1048576: true; the input reads as it did. -/
def physBytesUptoRow : OpenClaim := { program := "ythfkpbfapkpnfaa", sum := "4b570a09c31f4167ac41bc3868f2d3a29e20b0bb11a98d8fbe977dd9bd72598d", func := "tenement/tenementlaw01.PhysBytes", spec := "physBytes", unfollowed := true, recurses := true, apart := false, narrowed := true }
def PhysBytesUptoSaid : Prop := physBytesUptoRow.holds Try.pinned (OpenSpec.upto physBytesSpec)

/-- 'tenementlaw02.ViewZero', WHERE WHAT IT READS IS OF BULK AT MOST 1048576: true; the input reads as it did. -/
def viewZeroUptoRow : OpenClaim := { program := "ythfkpbfapkpnfaa", sum := "4b570a09c31f4167ac41bc3868f2d3a29e20b0bb11a98d8fbe977dd9bd72598d", func := "tenement/tenementlaw02.ViewZero", spec := "viewZero", unfollowed := true, recurses := true, apart := false, narrowed := true }
def ViewZeroUptoSaid : Prop := viewZeroUptoRow.holds Try.pinned (OpenSpec.upto viewZeroSpec)

/-- 'tenementlaw02.ViewOrder', WHERE WHAT IT READS IS OF BULK AT MOST 1048576: true; the input reads as it did. -/
def viewOrderUptoRow : OpenClaim := { program := "ythfkpbfapkpnfaa", sum := "4b570a09c31f4167ac41bc3868f2d3a29e20b0bb11a98d8fbe977dd9bd72598d", func := "tenement/tenementlaw02.ViewOrder", spec := "viewOrder", unfollowed := true, recurses := true, apart := false, narrowed := true }
def ViewOrderUptoSaid : Prop := viewOrderUptoRow.holds Try.pinned (OpenSpec.upto viewOrderSpec)

/-- 'tenementlaw04.PteWalks', WHERE WHAT IT READS IS OF BULK AT MOST 1048576: true; the input reads as it did. -/
def pteWalksUptoRow : OpenClaim := { program := "ythfkpbfapkpnfaa", sum := "4b570a09c31f4167ac41bc3868f2d3a29e20b0bb11a98d8fbe977dd9bd72598d", func := "tenement/tenementlaw04.PteWalks", spec := "pteWalks", unfollowed := true, recurses := true, apart := false, narrowed := true }
def PteWalksUptoSaid : Prop := pteWalksUptoRow.holds Try.pinned (OpenSpec.upto pteWalksSpec)

/-- 'tenementlaw04.PteZero', WHERE WHAT IT READS IS OF BULK AT MOST 1048576: true; the input reads as it did. -/
def pteZeroUptoRow : OpenClaim := { program := "ythfkpbfapkpnfaa", sum := "4b570a09c31f4167ac41bc3868f2d3a29e20b0bb11a98d8fbe977dd9bd72598d", func := "tenement/tenementlaw04.PteZero", spec := "pteZero", apart := false, narrowed := true }
def PteZeroUptoSaid : Prop := pteZeroUptoRow.holds Try.pinned (OpenSpec.upto pteZeroSpec)

/-- 'tenementlaw01.PhysRefs', WHERE WHAT IT READS IS OF BULK AT MOST 1048576: true; the input reads as it did. -/
def physRefsUptoRow : OpenClaim := { program := "ythfkpbfapkpnfaa", sum := "4b570a09c31f4167ac41bc3868f2d3a29e20b0bb11a98d8fbe977dd9bd72598d", func := "tenement/tenementlaw01.PhysRefs", spec := "physRefs", unfollowed := true, recurses := true, apart := false, narrowed := true }
def PhysRefsUptoSaid : Prop := physRefsUptoRow.holds Try.pinned (OpenSpec.upto physRefsSpec)

end Rows
end Go.Proofs.Ythfkpbfapkpnfaa
