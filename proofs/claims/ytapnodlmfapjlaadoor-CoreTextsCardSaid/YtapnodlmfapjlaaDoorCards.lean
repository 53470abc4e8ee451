/-
  DERIVED. GIVEN WITH THE SEED: THE CARDS: each row of YtapnodlmfapjlaaDoorRows.lean that lists a variable, with what it lists TIED to the program's text (the seventh form; the later family's looks); each row that meets fmt, with fmt's text TOLD by the authors' own Lean function (tested against real Go, not proved from fmt's source: count such statements apart). THE CARD IS WHAT COUNTS. Prove the row's statement (the work); the ties are given (YtapnodlmfapjlaaDoorTie.lean); close each card by the builder's one call (the guide's Derived/Test/ToyasCard.lean, 'card_holds'). Laid BY PROGRAM, IN A SANDBOX (cutbox-door.mjs). By AI agents, Wed Nov 11 2026. No macro, syntax, notation, axiom, sorry.
-/
import Derived.Test.YtapnodlmfapjlaaDoorRows
import GoSem.ClaimSeven
namespace Go.Proofs.YtapnodlmfapjlaaDoor
namespace Rows

/-- THE TIED CARD OF 'tenementlaw19.CoreTexts'. -/
def coreTextsCard : Claim7 := { stood := { row := coreTextsRow, standIns := [], harness := (true, "08176c2b60bdca45470ae45a50ade8cfaed757db14b8efe97286ab38e07f0486"), looks := false }, kinds := [], alts := [], laidByText := true, laidKinds := [.data, .data, .data], laidTests := true, laidLooks := .later }
def CoreTextsCardSaid : Prop := Claim7.holds Tryd.pinned (.plain (OpenSpec.ofChange coreTextsSpec)) coreTextsCard

/-- THE TIED CARD OF 'tenementlaw19.CoreAsms'. -/
def coreAsmsCard : Claim7 := { stood := { row := coreAsmsRow, standIns := [], harness := (true, "08176c2b60bdca45470ae45a50ade8cfaed757db14b8efe97286ab38e07f0486"), looks := false }, kinds := [], alts := [], laidByText := true, laidKinds := [.data, .data, .data], laidTests := true, laidLooks := .later }
def CoreAsmsCardSaid : Prop := Claim7.holds Tryd.pinned (.plain (OpenSpec.ofChange coreAsmsSpec)) coreAsmsCard

/-- THE SECOND FORM's CARD OF 'tenementlaw19.CoreTexts'. -/
def coreTextsUptoCard : Claim7 := { stood := { row := coreTextsUptoRow, standIns := [], harness := (true, "08176c2b60bdca45470ae45a50ade8cfaed757db14b8efe97286ab38e07f0486"), looks := false }, kinds := [], alts := [], laidByText := true, laidKinds := [.data, .data, .data], laidTests := true, laidLooks := .later }
def CoreTextsUptoCardSaid : Prop := Claim7.holds Tryd.pinned (.plain (OpenSpec.upto coreTextsSpec)) coreTextsUptoCard

/-- THE SECOND FORM's CARD OF 'tenementlaw19.CoreAsms'. -/
def coreAsmsUptoCard : Claim7 := { stood := { row := coreAsmsUptoRow, standIns := [], harness := (true, "08176c2b60bdca45470ae45a50ade8cfaed757db14b8efe97286ab38e07f0486"), looks := false }, kinds := [], alts := [], laidByText := true, laidKinds := [.data, .data, .data], laidTests := true, laidLooks := .later }
def CoreAsmsUptoCardSaid : Prop := Claim7.holds Tryd.pinned (.plain (OpenSpec.upto coreAsmsSpec)) coreAsmsUptoCard
end Rows
end Go.Proofs.YtapnodlmfapjlaaDoor
