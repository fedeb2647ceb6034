-- Written by gprint.py (this session's program) through the kit's print.py. Lean checks it.
import Derived.Test.YtbcjhnhkpbcmcaaProg
import Derived.Below
import Derived.Deep.Draws
import Derived.Deep.AppendLies
import Derived.Maps.AppendAt
import Derived.OwnWalk
import Derived.Laws.BytesArg
import Derived.Laws.MakeOwn
import Derived.Laws.OwnMore
import Derived.Deep.OwnRows
import Derived.Tactics
import Derived.Lib.ConvBytes
import Derived.Laws.Slices
import Derived.WalkKit
import Derived.KernelRfl
import Derived.RowKit3
import Derived.Deep.LoopGhost
import Derived.Deep.QuietTactic
import Derived.BigQuiet
import Derived.WideLaws
import Derived.Deep.DeepCutAuto
import Derived.Deep.CutBlock
import Derived.Deep.RegionHeld3
import Derived.Laws.Rows
import Derived.Lib.AppendStr
import Derived.ArgAppend
import Derived.Laws.IdiomCopy
import Derived.OrdersHeld
import Derived.Laws.BitsLemmas
import Derived.RowKit
import Derived.Test.YtbcjhnhkpbcmcaaWWords
import Derived.Test.YtbcjhnhkpbcmcaaWLast
import Derived.Test.YtbcjhnhkpbcmcaaWTab
import Derived.Test.YtbcjhnhkpbcmcaaWFour
import Derived.Test.YtbcjhnhkpbcmcaaWQPut
import Derived.Test.YtbcjhnhkpbcmcaaWApart
import Derived.Test.YtbcjhnhkpbcmcaaWArr
import Derived.Test.YtbcjhnhkpbcmcaaWZeros
import Derived.Test.YtbcjhnhkpbcmcaaWFoot
import Derived.Test.YtbcjhnhkpbcmcaaWKept
import Derived.Test.YtbcjhnhkpbcmcaaWShare
import Derived.Test.YtbcjhnhkpbcmcaaWN
import Derived.Test.YtbcjhnhkpbcmcaaWFootNe
import Derived.Test.YtbcjhnhkpbcmcaaWAt
import Derived.Test.YtbcjhnhkpbcmcaaWEqStruct
import Derived.Test.YtbcjhnhkpbcmcaaWRepsOne
import Derived.Test.YtbcjhnhkpbcmcaaWInv
import Derived.Test.YtbcjhnhkpbcmcaaWInvWords
import Derived.Test.YtbcjhnhkpbcmcaaWGuard
import Derived.Test.YtbcjhnhkpbcmcaaWNEv
import Derived.Test.YtbcjhnhkpbcmcaaWMore
import Derived.Test.YtbcjhnhkpbcmcaaWZ
import Derived.Test.YtbcjhnhkpbcmcaaGiven
namespace Go.Proofs.Ytbcjhnhkpbcmcaa.PA
open Go.Proofs.YtbcjhnhkpbcmcaaW.Z
open Go.Proofs.Ytbcjhnhkpbcmcaa.Given
open Go.RowKit Go.Proofs.YtbcjhnhkpbcmcaaW.PrintWords Go.Proofs.YtbcjhnhkpbcmcaaW.PrintLast Go.Proofs.YtbcjhnhkpbcmcaaW.PrintMore
attribute [local go_sem] max2_int min2_int max_two min_two max_three min_three max_four min_four   -- for this text's walks alone
set_option linter.unusedVariables false
set_option linter.unusedSimpArgs false



def errW : Option Int → Value
  | none => .nilIface
  | some c => .iface 0 (.int .i64 c)
theorem errW_none : errW none = .nilIface := rfl
theorem errW_some (c : Int) : errW (some c) = .iface 0 (.int .i64 c) := rfl

-- the values' own types

end Go.Proofs.Ytbcjhnhkpbcmcaa.PA
