/-
  DERIVED. GIVEN WITH THE SEED: THE CARDS: each row of YtlbebneblmgdcaaDoorRows.lean that lists a variable, with what it lists TIED to the program's text (the seventh form; the later family's looks); each row that meets fmt, with fmt's text TOLD by the authors' own Lean function (tested against real Go, not proved from fmt's source: count such statements apart). THE CARD IS WHAT COUNTS. Prove the row's statement (the work); the ties are given (YtlbebneblmgdcaaDoorTie.lean); close each card by the builder's one call (the guide's Derived/Test/ToyasCard.lean, 'card_holds'). Laid BY PROGRAM, IN A SANDBOX (cutbox-door.mjs). By AI agents, Wed Nov 11 2026. No macro, syntax, notation, axiom, sorry.
-/
import Derived.Test.YtlbebneblmgdcaaDoorRows
import GoSem.ClaimSeven
namespace Go.Proofs.YtlbebneblmgdcaaDoor
namespace Rows

/-- THE TIED CARD OF 'tenementlaw19.CoreLittle'. -/
def coreLittleCard : Claim7 := { stood := { row := coreLittleRow, standIns := [], harness := (true, "b2a1c5781a44af3bdd942fb98538868085234115490bf03dcad5d797ef95303f"), looks := false }, kinds := [], alts := [], laidByText := true, laidKinds := [.data, .data, .data], laidTests := true, laidLooks := .later }
def CoreLittleCardSaid : Prop := Claim7.holds Tryd.pinned (.plain (OpenSpec.ofChange coreLittleSpec)) coreLittleCard

/-- THE TIED CARD OF 'tenementlaw19.CoreTwice'. -/
def coreTwiceCard : Claim7 := { stood := { row := coreTwiceRow, standIns := [], harness := (true, "b2a1c5781a44af3bdd942fb98538868085234115490bf03dcad5d797ef95303f"), looks := false }, kinds := [], alts := [], laidByText := true, laidKinds := [.data, .data, .data], laidTests := true, laidLooks := .later }
def CoreTwiceCardSaid : Prop := Claim7.holds Tryd.pinned (.plain (OpenSpec.ofChange coreTwiceSpec)) coreTwiceCard

/-- THE SECOND FORM's CARD OF 'tenementlaw19.CoreLittle'. -/
def coreLittleUptoCard : Claim7 := { stood := { row := coreLittleUptoRow, standIns := [], harness := (true, "b2a1c5781a44af3bdd942fb98538868085234115490bf03dcad5d797ef95303f"), looks := false }, kinds := [], alts := [], laidByText := true, laidKinds := [.data, .data, .data], laidTests := true, laidLooks := .later }
def CoreLittleUptoCardSaid : Prop := Claim7.holds Tryd.pinned (.plain (OpenSpec.upto coreLittleSpec)) coreLittleUptoCard

/-- THE SECOND FORM's CARD OF 'tenementlaw19.CoreTwice'. -/
def coreTwiceUptoCard : Claim7 := { stood := { row := coreTwiceUptoRow, standIns := [], harness := (true, "b2a1c5781a44af3bdd942fb98538868085234115490bf03dcad5d797ef95303f"), looks := false }, kinds := [], alts := [], laidByText := true, laidKinds := [.data, .data, .data], laidTests := true, laidLooks := .later }
def CoreTwiceUptoCardSaid : Prop := Claim7.holds Tryd.pinned (.plain (OpenSpec.upto coreTwiceSpec)) coreTwiceUptoCard
end Rows
end Go.Proofs.YtlbebneblmgdcaaDoor
