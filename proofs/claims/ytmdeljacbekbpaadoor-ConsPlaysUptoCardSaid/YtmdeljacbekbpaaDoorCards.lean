/-
  DERIVED. GIVEN WITH THE SEED: THE CARDS: each row of YtmdeljacbekbpaaDoorRows.lean that lists a variable, with what it lists TIED to the program's text (the seventh form; the later family's looks); each row that meets fmt, with fmt's text TOLD by the authors' own Lean function (tested against real Go, not proved from fmt's source: count such statements apart). THE CARD IS WHAT COUNTS. Prove the row's statement (the work); the ties are given (YtmdeljacbekbpaaDoorTie.lean); close each card by the builder's one call (the guide's Derived/Test/ToyasCard.lean, 'card_holds'). Laid BY PROGRAM, IN A SANDBOX (cutbox-door.mjs). By AI agents, Wed Nov 11 2026. No macro, syntax, notation, axiom, sorry.
-/
import Derived.Test.YtmdeljacbekbpaaDoorRows
import GoSem.ClaimSeven
namespace Go.Proofs.YtmdeljacbekbpaaDoor
namespace Rows

/-- THE TIED CARD OF 'tenementlaw16.ConsShows'. -/
def consShowsCard : Claim7 := { stood := { row := consShowsRow, standIns := [], harness := (true, "2856abf1c3e44f41c901dc4a8902a5191d4f87d888c75032f3a8ae8789f7f8bd"), looks := false }, kinds := [], alts := [], laidByText := true, laidKinds := [.data, .pinned], laidTests := true, laidLooks := .later }
def ConsShowsCardSaid : Prop := Claim7.holds Tryd.pinned (.plain (OpenSpec.ofChange consShowsSpec)) consShowsCard

/-- THE TIED CARD OF 'tenementlaw16.ConsPlain'. -/
def consPlainCard : Claim7 := { stood := { row := consPlainRow, standIns := [], harness := (true, "2856abf1c3e44f41c901dc4a8902a5191d4f87d888c75032f3a8ae8789f7f8bd"), looks := false }, kinds := [], alts := [], laidByText := true, laidKinds := [.data, .pinned], laidTests := true, laidLooks := .later }
def ConsPlainCardSaid : Prop := Claim7.holds Tryd.pinned (.plain (OpenSpec.ofChange consPlainSpec)) consPlainCard

/-- THE TIED CARD OF 'tenementlaw16.ConsFeeds'. -/
def consFeedsCard : Claim7 := { stood := { row := consFeedsRow, standIns := [], harness := (true, "2856abf1c3e44f41c901dc4a8902a5191d4f87d888c75032f3a8ae8789f7f8bd"), looks := false }, kinds := [], alts := [], laidByText := true, laidKinds := [.data, .pinned], laidTests := true, laidLooks := .later }
def ConsFeedsCardSaid : Prop := Claim7.holds Tryd.pinned (.plain (OpenSpec.ofChange consFeedsSpec)) consFeedsCard

/-- THE TIED CARD OF 'tenementlaw16.ConsBytes'. -/
def consBytesCard : Claim7 := { stood := { row := consBytesRow, standIns := [], harness := (true, "2856abf1c3e44f41c901dc4a8902a5191d4f87d888c75032f3a8ae8789f7f8bd"), looks := false }, kinds := [], alts := [], laidByText := true, laidKinds := [.data, .pinned], laidTests := true, laidLooks := .later }
def ConsBytesCardSaid : Prop := Claim7.holds Tryd.pinned (.plain (OpenSpec.ofChange consBytesSpec)) consBytesCard

/-- THE TIED CARD OF 'tenementlaw16.ConsZero'. -/
def consZeroCard : Claim7 := { stood := { row := consZeroRow, standIns := [], harness := (true, "2856abf1c3e44f41c901dc4a8902a5191d4f87d888c75032f3a8ae8789f7f8bd"), looks := false }, kinds := [], alts := [], laidByText := true, laidKinds := [.data, .pinned], laidTests := true, laidLooks := .later }
def ConsZeroCardSaid : Prop := Claim7.holds Tryd.pinned (.plain (OpenSpec.ofChange consZeroSpec)) consZeroCard

/-- THE TIED CARD OF 'tenementlaw16.ConsPlays'. -/
def consPlaysCard : Claim7 := { stood := { row := consPlaysRow, standIns := [], harness := (true, "2856abf1c3e44f41c901dc4a8902a5191d4f87d888c75032f3a8ae8789f7f8bd"), looks := false }, kinds := [], alts := [], laidByText := true, laidKinds := [.data, .pinned], laidTests := true, laidLooks := .later }
def ConsPlaysCardSaid : Prop := Claim7.holds Tryd.pinned (.plain (OpenSpec.ofChange consPlaysSpec)) consPlaysCard

/-- THE SECOND FORM's CARD OF 'tenementlaw16.ConsShows'. -/
def consShowsUptoCard : Claim7 := { stood := { row := consShowsUptoRow, standIns := [], harness := (true, "2856abf1c3e44f41c901dc4a8902a5191d4f87d888c75032f3a8ae8789f7f8bd"), looks := false }, kinds := [], alts := [], laidByText := true, laidKinds := [.data, .pinned], laidTests := true, laidLooks := .later }
def ConsShowsUptoCardSaid : Prop := Claim7.holds Tryd.pinned (.plain (OpenSpec.upto consShowsSpec)) consShowsUptoCard

/-- THE SECOND FORM's CARD OF 'tenementlaw16.ConsPlain'. -/
def consPlainUptoCard : Claim7 := { stood := { row := consPlainUptoRow, standIns := [], harness := (true, "2856abf1c3e44f41c901dc4a8902a5191d4f87d888c75032f3a8ae8789f7f8bd"), looks := false }, kinds := [], alts := [], laidByText := true, laidKinds := [.data, .pinned], laidTests := true, laidLooks := .later }
def ConsPlainUptoCardSaid : Prop := Claim7.holds Tryd.pinned (.plain (OpenSpec.upto consPlainSpec)) consPlainUptoCard

/-- THE SECOND FORM's CARD OF 'tenementlaw16.ConsFeeds'. -/
def consFeedsUptoCard : Claim7 := { stood := { row := consFeedsUptoRow, standIns := [], harness := (true, "2856abf1c3e44f41c901dc4a8902a5191d4f87d888c75032f3a8ae8789f7f8bd"), looks := false }, kinds := [], alts := [], laidByText := true, laidKinds := [.data, .pinned], laidTests := true, laidLooks := .later }
def ConsFeedsUptoCardSaid : Prop := Claim7.holds Tryd.pinned (.plain (OpenSpec.upto consFeedsSpec)) consFeedsUptoCard

/-- THE SECOND FORM's CARD OF 'tenementlaw16.ConsBytes'. -/
def consBytesUptoCard : Claim7 := { stood := { row := consBytesUptoRow, standIns := [], harness := (true, "2856abf1c3e44f41c901dc4a8902a5191d4f87d888c75032f3a8ae8789f7f8bd"), looks := false }, kinds := [], alts := [], laidByText := true, laidKinds := [.data, .pinned], laidTests := true, laidLooks := .later }
def ConsBytesUptoCardSaid : Prop := Claim7.holds Tryd.pinned (.plain (OpenSpec.upto consBytesSpec)) consBytesUptoCard

/-- THE SECOND FORM's CARD OF 'tenementlaw16.ConsZero'. -/
def consZeroUptoCard : Claim7 := { stood := { row := consZeroUptoRow, standIns := [], harness := (true, "2856abf1c3e44f41c901dc4a8902a5191d4f87d888c75032f3a8ae8789f7f8bd"), looks := false }, kinds := [], alts := [], laidByText := true, laidKinds := [.data, .pinned], laidTests := true, laidLooks := .later }
def ConsZeroUptoCardSaid : Prop := Claim7.holds Tryd.pinned (.plain (OpenSpec.upto consZeroSpec)) consZeroUptoCard

/-- THE SECOND FORM's CARD OF 'tenementlaw16.ConsPlays'. -/
def consPlaysUptoCard : Claim7 := { stood := { row := consPlaysUptoRow, standIns := [], harness := (true, "2856abf1c3e44f41c901dc4a8902a5191d4f87d888c75032f3a8ae8789f7f8bd"), looks := false }, kinds := [], alts := [], laidByText := true, laidKinds := [.data, .pinned], laidTests := true, laidLooks := .later }
def ConsPlaysUptoCardSaid : Prop := Claim7.holds Tryd.pinned (.plain (OpenSpec.upto consPlaysSpec)) consPlaysUptoCard
end Rows
end Go.Proofs.YtmdeljacbekbpaaDoor
