/-
  NARROWER THAN 'FOR EVERY INPUT', by the rows' own cells (each row's printed sentence says how): ConsShows: laid · ConsPlain: laid · ConsFeeds: laid · ConsBytes: laid · ConsZero: laid · ConsPlays: laid.
  DERIVED. THE GIVEN ROWS OF THIS SEAT. 6 by the template 'for every input the law returns true; each argument reads behind the call as it read before'; 0 by the template 'total and deterministic' (their statements: YtmdeljacbekbpaaDoorTotals.lean).
  GIVEN WITH THE SEED: the statements are not yours to turn. If you find one false, say at which input.
  Laid BY PROGRAM, IN A SANDBOX (cutbox-rows.mjs): the forced cells as the released guide's own fill.sh prints them over the translation bfac96eabcdbfea6… (all of the seat's roots in one cut). By AI agents, Wed Nov 11 2026. No macro, syntax, notation, axiom, sorry.
-/
import Derived.Test.YtmdeljacbekbpaaDoorChecked
import GoSem.PinnedTables
import GoSem.Claim
import GoSem.ClaimJoined
import GoSem.ClaimMapViews
import Derived.JoinedTies
import Derived.KernelRfl
namespace Go.Proofs.YtmdeljacbekbpaaDoor
/- THE CELL 'sum', in the pinned program and in every row, IS THE sha256 OF THE DUMP (.gsa) THAT YtmdeljacbekbpaaDoorProg.lean LOADS. Nothing in Lean hashes anything: it is a label: what it is worth is what the hold of that sum in a sandbox is worth. -/
noncomputable def Tryd.pinned : Pinned := { name := "ytmdeljacbekbpaadoor", sum := "bfac96eabcdbfea6ba6e7ef55aca580f041da650a4783d4fb726dbe81b6d8da4", checked := Tryd.checked }
namespace Rows
def none {H : Type} : Left H := { results := [], args := [] }

/- WHAT THE LISTED PACKAGE-LEVEL VARIABLES READ AS WHEN THE CALL BEGINS. Each datum BY PROGRAM (the guide's laid-datum.mjs) off the statement by which the dump's own 'gosem.cut.vars' lays the variable. In a bare row this is a premise. The card (YtmdeljacbekbpaaDoorCards.lean) ties it to the program's text. -/
def laid_unicode_utf8_acceptRanges {H : Type} : DataW H := .agg [.agg [.lit (.int .u8 128), .lit (.int .u8 191)], .agg [.lit (.int .u8 160), .lit (.int .u8 191)], .agg [.lit (.int .u8 128), .lit (.int .u8 159)], .agg [.lit (.int .u8 144), .lit (.int .u8 191)], .agg [.lit (.int .u8 128), .lit (.int .u8 143)], .agg [.lit (.int .u8 0), .lit (.int .u8 0)], .agg [.lit (.int .u8 0), .lit (.int .u8 0)], .agg [.lit (.int .u8 0), .lit (.int .u8 0)], .agg [.lit (.int .u8 0), .lit (.int .u8 0)], .agg [.lit (.int .u8 0), .lit (.int .u8 0)], .agg [.lit (.int .u8 0), .lit (.int .u8 0)], .agg [.lit (.int .u8 0), .lit (.int .u8 0)], .agg [.lit (.int .u8 0), .lit (.int .u8 0)], .agg [.lit (.int .u8 0), .lit (.int .u8 0)], .agg [.lit (.int .u8 0), .lit (.int .u8 0)], .agg [.lit (.int .u8 0), .lit (.int .u8 0)]]
/-- One of Go's own tables, pinned by name: the form's constant. -/
def laid_unicode_utf8_first : DataW Unit := Go.Pinned.utf8First

/-- 'tenementlaw16.ConsShows': WHATEVER THE INPUT: true; the input reads as it did. -/
def consShowsSpec : ChangeSpec := { name := "consShows", fn := fun _ => fun
  | [d] => { results := [.lit (.bool true)], args := [d] }
  | _ => none }
def consShowsRow : OpenClaim := { program := "ytmdeljacbekbpaadoor", sum := "bfac96eabcdbfea6ba6e7ef55aca580f041da650a4783d4fb726dbe81b6d8da4", func := "tenement/tenementlaw16.ConsShows", spec := "consShows", inPlace := ["internal/abi.NoEscape"], unfollowed := true, recurses := true, named := ["unicode/utf8.first", "unicode/utf8.acceptRanges"], apart := false, laid := [("unicode/utf8.acceptRanges", laid_unicode_utf8_acceptRanges), ("unicode/utf8.first", laid_unicode_utf8_first)] }
def ConsShowsSaid : Prop := consShowsRow.holds Tryd.pinned (OpenSpec.ofChange consShowsSpec)

/-- ITS FALSE NEIGHBOUR: 'it returns false'. Refute it at one input. -/
def consShowsWrong : ChangeSpec := { name := "consShows", fn := fun _ => fun
  | [d] => { results := [.lit (.bool false)], args := [d] }
  | _ => none }
def ConsShowsWrongFalsely : Prop := consShowsRow.holds Tryd.pinned (OpenSpec.ofChange consShowsWrong)

/-- 'tenementlaw16.ConsPlain': WHATEVER THE INPUT: true; the input reads as it did. -/
def consPlainSpec : ChangeSpec := { name := "consPlain", fn := fun _ => fun
  | [d1, d2] => { results := [.lit (.bool true)], args := [d1, d2] }
  | _ => none }
def consPlainRow : OpenClaim := { program := "ytmdeljacbekbpaadoor", sum := "bfac96eabcdbfea6ba6e7ef55aca580f041da650a4783d4fb726dbe81b6d8da4", func := "tenement/tenementlaw16.ConsPlain", spec := "consPlain", inPlace := ["internal/abi.NoEscape"], unfollowed := true, recurses := true, named := ["unicode/utf8.first", "unicode/utf8.acceptRanges"], apart := false, laid := [("unicode/utf8.acceptRanges", laid_unicode_utf8_acceptRanges), ("unicode/utf8.first", laid_unicode_utf8_first)] }
def ConsPlainSaid : Prop := consPlainRow.holds Tryd.pinned (OpenSpec.ofChange consPlainSpec)

/-- ITS FALSE NEIGHBOUR: 'it returns false'. Refute it at one input. -/
def consPlainWrong : ChangeSpec := { name := "consPlain", fn := fun _ => fun
  | [d1, d2] => { results := [.lit (.bool false)], args := [d1, d2] }
  | _ => none }
def ConsPlainWrongFalsely : Prop := consPlainRow.holds Tryd.pinned (OpenSpec.ofChange consPlainWrong)

/-- 'tenementlaw16.ConsFeeds': WHATEVER THE INPUT: true; the input reads as it did. -/
def consFeedsSpec : ChangeSpec := { name := "consFeeds", fn := fun _ => fun
  | [d1, d2] => { results := [.lit (.bool true)], args := [d1, d2] }
  | _ => none }
def consFeedsRow : OpenClaim := { program := "ytmdeljacbekbpaadoor", sum := "bfac96eabcdbfea6ba6e7ef55aca580f041da650a4783d4fb726dbe81b6d8da4", func := "tenement/tenementlaw16.ConsFeeds", spec := "consFeeds", inPlace := ["internal/abi.NoEscape"], unfollowed := true, recurses := true, named := ["unicode/utf8.first", "unicode/utf8.acceptRanges"], apart := false, laid := [("unicode/utf8.acceptRanges", laid_unicode_utf8_acceptRanges), ("unicode/utf8.first", laid_unicode_utf8_first)] }
def ConsFeedsSaid : Prop := consFeedsRow.holds Tryd.pinned (OpenSpec.ofChange consFeedsSpec)

/-- ITS FALSE NEIGHBOUR: 'it returns false'. Refute it at one input. -/
def consFeedsWrong : ChangeSpec := { name := "consFeeds", fn := fun _ => fun
  | [d1, d2] => { results := [.lit (.bool false)], args := [d1, d2] }
  | _ => none }
def ConsFeedsWrongFalsely : Prop := consFeedsRow.holds Tryd.pinned (OpenSpec.ofChange consFeedsWrong)

/-- 'tenementlaw16.ConsBytes': WHATEVER THE INPUT: true; the input reads as it did. -/
def consBytesSpec : ChangeSpec := { name := "consBytes", fn := fun _ => fun
  | [d] => { results := [.lit (.bool true)], args := [d] }
  | _ => none }
def consBytesRow : OpenClaim := { program := "ytmdeljacbekbpaadoor", sum := "bfac96eabcdbfea6ba6e7ef55aca580f041da650a4783d4fb726dbe81b6d8da4", func := "tenement/tenementlaw16.ConsBytes", spec := "consBytes", inPlace := ["internal/abi.NoEscape"], unfollowed := true, recurses := true, named := ["unicode/utf8.first", "unicode/utf8.acceptRanges"], apart := false, laid := [("unicode/utf8.acceptRanges", laid_unicode_utf8_acceptRanges), ("unicode/utf8.first", laid_unicode_utf8_first)] }
def ConsBytesSaid : Prop := consBytesRow.holds Tryd.pinned (OpenSpec.ofChange consBytesSpec)

/-- ITS FALSE NEIGHBOUR: 'it returns false'. Refute it at one input. -/
def consBytesWrong : ChangeSpec := { name := "consBytes", fn := fun _ => fun
  | [d] => { results := [.lit (.bool false)], args := [d] }
  | _ => none }
def ConsBytesWrongFalsely : Prop := consBytesRow.holds Tryd.pinned (OpenSpec.ofChange consBytesWrong)

/-- 'tenementlaw16.ConsZero': WHATEVER THE INPUT: true; the input reads as it did. -/
def consZeroSpec : ChangeSpec := { name := "consZero", fn := fun _ => fun
  | [d] => { results := [.lit (.bool true)], args := [d] }
  | _ => none }
def consZeroRow : OpenClaim := { program := "ytmdeljacbekbpaadoor", sum := "bfac96eabcdbfea6ba6e7ef55aca580f041da650a4783d4fb726dbe81b6d8da4", func := "tenement/tenementlaw16.ConsZero", spec := "consZero", inPlace := ["internal/abi.NoEscape"], unfollowed := true, recurses := true, named := ["unicode/utf8.first", "unicode/utf8.acceptRanges"], apart := false, laid := [("unicode/utf8.acceptRanges", laid_unicode_utf8_acceptRanges), ("unicode/utf8.first", laid_unicode_utf8_first)] }
def ConsZeroSaid : Prop := consZeroRow.holds Tryd.pinned (OpenSpec.ofChange consZeroSpec)

/-- ITS FALSE NEIGHBOUR: 'it returns false'. Refute it at one input. -/
def consZeroWrong : ChangeSpec := { name := "consZero", fn := fun _ => fun
  | [d] => { results := [.lit (.bool false)], args := [d] }
  | _ => none }
def ConsZeroWrongFalsely : Prop := consZeroRow.holds Tryd.pinned (OpenSpec.ofChange consZeroWrong)

/-- 'tenementlaw16.ConsPlays': WHATEVER THE INPUT: true; the input reads as it did. -/
def consPlaysSpec : ChangeSpec := { name := "consPlays", fn := fun _ => fun
  | [d1, d2] => { results := [.lit (.bool true)], args := [d1, d2] }
  | _ => none }
def consPlaysRow : OpenClaim := { program := "ytmdeljacbekbpaadoor", sum := "bfac96eabcdbfea6ba6e7ef55aca580f041da650a4783d4fb726dbe81b6d8da4", func := "tenement/tenementlaw16.ConsPlays", spec := "consPlays", inPlace := ["internal/abi.NoEscape"], unfollowed := true, recurses := true, named := ["unicode/utf8.first", "unicode/utf8.acceptRanges"], apart := false, laid := [("unicode/utf8.acceptRanges", laid_unicode_utf8_acceptRanges), ("unicode/utf8.first", laid_unicode_utf8_first)] }
def ConsPlaysSaid : Prop := consPlaysRow.holds Tryd.pinned (OpenSpec.ofChange consPlaysSpec)

/-- ITS FALSE NEIGHBOUR: 'it returns false'. Refute it at one input. -/
def consPlaysWrong : ChangeSpec := { name := "consPlays", fn := fun _ => fun
  | [d1, d2] => { results := [.lit (.bool false)], args := [d1, d2] }
  | _ => none }
def ConsPlaysWrongFalsely : Prop := consPlaysRow.holds Tryd.pinned (OpenSpec.ofChange consPlaysWrong)

/- THE SECOND FORM. 'bulk': how many values and letters a reading holds, each counted each time it is reached (what is shared counts as often as it is met; a slice's spare places count too). A statement '..UptoSaid' is the law's where the arguments, and the package variables that the reading takes, are together of bulk at most 1048576: NARROWER than '..Said'. Prove '..Said' where nothing that the law and all that it calls make is longer than what came in: it says more and counts as full. Else prove '..UptoSaid'. A law counts once. -/
mutual
def uptoBulk {H : Type} : DataW H → Nat
  | .lit (.string bytes) => bytes.length + 1
  | .lit _ => 1
  | .nil => 1
  | .ptr d => uptoBulk d + 1
  | .slice elems spare => uptoBulkAll elems + uptoBulkAll spare + 1
  | .agg parts => uptoBulkAll parts + 1
  | .iface _ d => uptoBulk d + 1
  | .map entries => uptoBulkEntries entries + 1
  | .held _ => 1
def uptoBulkAll {H : Type} : List (DataW H) → Nat
  | [] => 0
  | d :: r => uptoBulk d + uptoBulkAll r
def uptoBulkEntries {H : Type} : List (Lit × DataW H) → Nat
  | [] => 0
  | x :: r => uptoBulkEntry x + uptoBulkEntries r
def uptoBulkEntry {H : Type} : Lit × DataW H → Nat
  | (.string bytes, d) => bytes.length + uptoBulk d + 1
  | (_, d) => uptoBulk d + 1
 end
def uptoSmall : (H : Type) → List (DataW H) → Bool := fun _ ds => decide (uptoBulkAll ds ≤ 1048576)
def OpenSpec.upto (s : _root_.Go.ChangeSpec) : _root_.Go.OpenSpec := { _root_.Go.OpenSpec.ofChange s with cond := some uptoSmall }

/-- 'tenementlaw16.ConsShows', WHERE WHAT IT READS IS OF BULK AT MOST 1048576: true; the input reads as it did. -/
def consShowsUptoRow : OpenClaim := { program := "ytmdeljacbekbpaadoor", sum := "bfac96eabcdbfea6ba6e7ef55aca580f041da650a4783d4fb726dbe81b6d8da4", func := "tenement/tenementlaw16.ConsShows", spec := "consShows", inPlace := ["internal/abi.NoEscape"], unfollowed := true, recurses := true, named := ["unicode/utf8.first", "unicode/utf8.acceptRanges"], apart := false, laid := [("unicode/utf8.acceptRanges", laid_unicode_utf8_acceptRanges), ("unicode/utf8.first", laid_unicode_utf8_first)], narrowed := true }
def ConsShowsUptoSaid : Prop := consShowsUptoRow.holds Tryd.pinned (OpenSpec.upto consShowsSpec)

/-- 'tenementlaw16.ConsPlain', WHERE WHAT IT READS IS OF BULK AT MOST 1048576: true; the input reads as it did. -/
def consPlainUptoRow : OpenClaim := { program := "ytmdeljacbekbpaadoor", sum := "bfac96eabcdbfea6ba6e7ef55aca580f041da650a4783d4fb726dbe81b6d8da4", func := "tenement/tenementlaw16.ConsPlain", spec := "consPlain", inPlace := ["internal/abi.NoEscape"], unfollowed := true, recurses := true, named := ["unicode/utf8.first", "unicode/utf8.acceptRanges"], apart := false, laid := [("unicode/utf8.acceptRanges", laid_unicode_utf8_acceptRanges), ("unicode/utf8.first", laid_unicode_utf8_first)], narrowed := true }
def ConsPlainUptoSaid : Prop := consPlainUptoRow.holds Tryd.pinned (OpenSpec.upto consPlainSpec)

/-- 'tenementlaw16.ConsFeeds', WHERE WHAT IT READS IS OF BULK AT MOST 1048576: true; the input reads as it did. -/
def consFeedsUptoRow : OpenClaim := { program := "ytmdeljacbekbpaadoor", sum := "bfac96eabcdbfea6ba6e7ef55aca580f041da650a4783d4fb726dbe81b6d8da4", func := "tenement/tenementlaw16.ConsFeeds", spec := "consFeeds", inPlace := ["internal/abi.NoEscape"], unfollowed := true, recurses := true, named := ["unicode/utf8.first", "unicode/utf8.acceptRanges"], apart := false, laid := [("unicode/utf8.acceptRanges", laid_unicode_utf8_acceptRanges), ("unicode/utf8.first", laid_unicode_utf8_first)], narrowed := true }
def ConsFeedsUptoSaid : Prop := consFeedsUptoRow.holds Tryd.pinned (OpenSpec.upto consFeedsSpec)

/-- 'tenementlaw16.ConsBytes', WHERE WHAT IT READS IS OF BULK AT MOST 1048576: true; the input reads as it did. -/
def consBytesUptoRow : OpenClaim := { program := "ytmdeljacbekbpaadoor", sum := "bfac96eabcdbfea6ba6e7ef55aca580f041da650a4783d4fb726dbe81b6d8da4", func := "tenement/tenementlaw16.ConsBytes", spec := "consBytes", inPlace := ["internal/abi.NoEscape"], unfollowed := true, recurses := true, named := ["unicode/utf8.first", "unicode/utf8.acceptRanges"], apart := false, laid := [("unicode/utf8.acceptRanges", laid_unicode_utf8_acceptRanges), ("unicode/utf8.first", laid_unicode_utf8_first)], narrowed := true }
def ConsBytesUptoSaid : Prop := consBytesUptoRow.holds Tryd.pinned (OpenSpec.upto consBytesSpec)

/-- 'tenementlaw16.ConsZero', WHERE WHAT IT READS IS OF BULK AT MOST 1048576: true; the input reads as it did. -/
def consZeroUptoRow : OpenClaim := { program := "ytmdeljacbekbpaadoor", sum := "bfac96eabcdbfea6ba6e7ef55aca580f041da650a4783d4fb726dbe81b6d8da4", func := "tenement/tenementlaw16.ConsZero", spec := "consZero", inPlace := ["internal/abi.NoEscape"], unfollowed := true, recurses := true, named := ["unicode/utf8.first", "unicode/utf8.acceptRanges"], apart := false, laid := [("unicode/utf8.acceptRanges", laid_unicode_utf8_acceptRanges), ("unicode/utf8.first", laid_unicode_utf8_first)], narrowed := true }
def ConsZeroUptoSaid : Prop := consZeroUptoRow.holds Tryd.pinned (OpenSpec.upto consZeroSpec)

/-- 'tenementlaw16.ConsPlays', WHERE WHAT IT READS IS OF BULK AT MOST 1048576: true; the input reads as it did. -/
def consPlaysUptoRow : OpenClaim := { program := "ytmdeljacbekbpaadoor", sum := "bfac96eabcdbfea6ba6e7ef55aca580f041da650a4783d4fb726dbe81b6d8da4", func := "tenement/tenementlaw16.ConsPlays", spec := "consPlays", inPlace := ["internal/abi.NoEscape"], unfollowed := true, recurses := true, named := ["unicode/utf8.first", "unicode/utf8.acceptRanges"], apart := false, laid := [("unicode/utf8.acceptRanges", laid_unicode_utf8_acceptRanges), ("unicode/utf8.first", laid_unicode_utf8_first)], narrowed := true }
def ConsPlaysUptoSaid : Prop := consPlaysUptoRow.holds Tryd.pinned (OpenSpec.upto consPlaysSpec)

end Rows
end Go.Proofs.YtmdeljacbekbpaaDoor
