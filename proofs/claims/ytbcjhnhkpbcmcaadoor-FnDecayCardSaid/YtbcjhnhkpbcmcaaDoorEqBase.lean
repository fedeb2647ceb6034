/- A small equation on numbers: no memory. -/
import Derived.Test.YtbcjhnhkpbcmcaaDoorPA1
import Derived.Test.YtbcjhnhkpbcmcaaDoorNum
import Derived.Laws.BitsLemmas
namespace Go.Proofs.YtbcjhnhkpbcmcaaDoor.Eq
open Go.RowKit Go.Proofs.YtbcjhnhkpbcmcaaDoor.PA Go.Proofs.YtbcjhnhkpbcmcaaDoor.Given Go.Proofs.YtbcjhnhkpbcmcaaDoor.Num Go.Proofs.YtbcjhnhkpbcmcaaDoorW.PrintWords Go.Proofs.YtbcjhnhkpbcmcaaDoorW.PrintLast Go.Proofs.YtbcjhnhkpbcmcaaDoorW.PrintMore
set_option linter.unusedVariables false
theorem wrap64_id {n : Int} (h : -9223372036854775808 ≤ n) (h' : n < 9223372036854775808) : wrap64 n = n := by unfold wrap64; omega
end Go.Proofs.YtbcjhnhkpbcmcaaDoor.Eq
