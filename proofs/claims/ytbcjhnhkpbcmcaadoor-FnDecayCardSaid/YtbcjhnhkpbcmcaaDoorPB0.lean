-- Written by gprint.py (this session's program) through the kit's print.py. Lean checks it.
import Derived.Test.YtbcjhnhkpbcmcaaDoorProg
import Derived.Below
import Derived.Deep.Draws
import Derived.Deep.AppendLies
import Derived.Maps.AppendAt
import Derived.OwnWalk
import Derived.Laws.BytesArg
import Derived.Laws.MakeOwn
import Derived.Laws.OwnMore
import Derived.Deep.OwnRows
import Derived.Tactics
import Derived.Lib.ConvBytes
import Derived.Laws.Slices
import Derived.WalkKit
import Derived.KernelRfl
import Derived.RowKit3
import Derived.Deep.LoopGhost
import Derived.Deep.QuietTactic
import Derived.BigQuiet
import Derived.WideLaws
import Derived.Deep.DeepCutAuto
import Derived.Deep.CutBlock
import Derived.Deep.RegionHeld3
import Derived.Laws.Rows
import Derived.Lib.AppendStr
import Derived.ArgAppend
import Derived.Laws.IdiomCopy
import Derived.OrdersHeld
import Derived.Laws.BitsLemmas
import Derived.RowKit
import Derived.Test.YtbcjhnhkpbcmcaaDoorWWords
import Derived.Test.YtbcjhnhkpbcmcaaDoorWLast
import Derived.Test.YtbcjhnhkpbcmcaaDoorWTab
import Derived.Test.YtbcjhnhkpbcmcaaDoorWFour
import Derived.Test.YtbcjhnhkpbcmcaaDoorWQPut
import Derived.Test.YtbcjhnhkpbcmcaaDoorWApart
import Derived.Test.YtbcjhnhkpbcmcaaDoorWArr
import Derived.Test.YtbcjhnhkpbcmcaaDoorWZeros
import Derived.Test.YtbcjhnhkpbcmcaaDoorWFoot
import Derived.Test.YtbcjhnhkpbcmcaaDoorWKept
import Derived.Test.YtbcjhnhkpbcmcaaDoorWShare
import Derived.Test.YtbcjhnhkpbcmcaaDoorWN
import Derived.Test.YtbcjhnhkpbcmcaaDoorWFootNe
import Derived.Test.YtbcjhnhkpbcmcaaDoorWAt
import Derived.Test.YtbcjhnhkpbcmcaaDoorWEqStruct
import Derived.Test.YtbcjhnhkpbcmcaaDoorWRepsOne
import Derived.Test.YtbcjhnhkpbcmcaaDoorWInv
import Derived.Test.YtbcjhnhkpbcmcaaDoorWInvWords
import Derived.Test.YtbcjhnhkpbcmcaaDoorWGuard
import Derived.Test.YtbcjhnhkpbcmcaaDoorWNEv
import Derived.Test.YtbcjhnhkpbcmcaaDoorWMore
import Derived.Test.YtbcjhnhkpbcmcaaDoorWZ
import Derived.Test.YtbcjhnhkpbcmcaaDoorGiven
import Derived.Test.YtbcjhnhkpbcmcaaDoorDecay
import Derived.Test.YtbcjhnhkpbcmcaaDoorPA
namespace Go.Proofs.YtbcjhnhkpbcmcaaDoor.PB
open Go.Proofs.YtbcjhnhkpbcmcaaDoorW.Z
open Go.Proofs.YtbcjhnhkpbcmcaaDoor.Given
open Go.Proofs.YtbcjhnhkpbcmcaaDoor.PA
open Go.RowKit Go.Proofs.YtbcjhnhkpbcmcaaDoorW.PrintWords Go.Proofs.YtbcjhnhkpbcmcaaDoorW.PrintLast Go.Proofs.YtbcjhnhkpbcmcaaDoorW.PrintMore
attribute [local go_sem] max2_int min2_int max_two min_two max_three min_three max_four min_four   -- for this text's walks alone
set_option linter.unusedVariables false
set_option linter.unusedSimpArgs false



def errW : Option Int → Value
  | none => .nilIface
  | some c => .iface 0 (.int .i64 c)
theorem errW_none : errW none = .nilIface := rfl
theorem errW_some (c : Int) : errW (some c) = .iface 0 (.int .i64 c) := rfl

-- the values' own types

end Go.Proofs.YtbcjhnhkpbcmcaaDoor.PB
