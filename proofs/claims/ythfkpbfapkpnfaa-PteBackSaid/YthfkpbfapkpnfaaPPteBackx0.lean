-- PRINTED BY print.sh 35421559b90ae4d0a3588c463048766b98c2df88dd9212a6774a882060cdf62d: not written by this session
import Derived.Test.YthfkpbfapkpnfaaProg
import Derived.Below
import Derived.Deep.Draws
import Derived.Deep.AppendLies
import Derived.Maps.AppendAt
import Derived.OwnWalk
import Derived.Laws.BytesArg
import Derived.Laws.MakeOwn
import Derived.Laws.OwnMore
import Derived.Deep.OwnRows
import Derived.Tactics
import Derived.Lib.ConvBytes
import Derived.Laws.Slices
import Derived.WalkKit
import Derived.KernelRfl
import Derived.RowKit3
import Derived.Deep.LoopGhost
import Derived.Deep.QuietTactic
import Derived.BigQuiet
import Derived.WideLaws
import Derived.Deep.DeepCutAuto
import Derived.Deep.CutBlock
import Derived.Deep.RegionHeld3
import Derived.Laws.Rows
import Derived.Lib.AppendStr
import Derived.ArgAppend
import Derived.Laws.IdiomCopy
import Derived.OrdersHeld
import Derived.Laws.BitsLemmas
import Derived.RowKit
import Derived.Test.YthfkpbfapkpnfaaWWords
import Derived.Test.YthfkpbfapkpnfaaWLast
import Derived.Test.YthfkpbfapkpnfaaWTab
import Derived.Test.YthfkpbfapkpnfaaWFour
import Derived.Test.YthfkpbfapkpnfaaWQPut
import Derived.Test.YthfkpbfapkpnfaaWApart
import Derived.Test.YthfkpbfapkpnfaaWArr
import Derived.Test.YthfkpbfapkpnfaaWZeros
import Derived.Test.YthfkpbfapkpnfaaWFoot
import Derived.Test.YthfkpbfapkpnfaaWKept
import Derived.Test.YthfkpbfapkpnfaaWShare
import Derived.Test.YthfkpbfapkpnfaaWN
import Derived.Test.YthfkpbfapkpnfaaWFootNe
import Derived.Test.YthfkpbfapkpnfaaWAt
import Derived.Test.YthfkpbfapkpnfaaWEqStruct
import Derived.Test.YthfkpbfapkpnfaaWRepsOne
import Derived.Test.YthfkpbfapkpnfaaWInv
import Derived.Test.YthfkpbfapkpnfaaWInvWords
import Derived.Test.YthfkpbfapkpnfaaWGuard
import Derived.Test.YthfkpbfapkpnfaaWNEv
import Derived.Test.YthfkpbfapkpnfaaWMore
namespace Go.Proofs.Ythfkpbfapkpnfaa.PPteBack
open Go.RowKit Go.Proofs.YthfkpbfapkpnfaaW.PrintWords Go.Proofs.YthfkpbfapkpnfaaW.PrintLast Go.Proofs.YthfkpbfapkpnfaaW.PrintMore
attribute [local go_sem] max2_int min2_int max_two min_two max_three min_three max_four min_four   -- for this text's walks alone
set_option linter.unusedVariables false
set_option linter.unusedSimpArgs false



def errW : Option Int → Value
  | none => .nilIface
  | some c => .iface 0 (.int .i64 c)
theorem errW_none : errW none = .nilIface := rfl
theorem errW_some (c : Int) : errW (some c) = .iface 0 (.int .i64 c) := rfl

-- the values' own types

end Go.Proofs.Ythfkpbfapkpnfaa.PPteBack
