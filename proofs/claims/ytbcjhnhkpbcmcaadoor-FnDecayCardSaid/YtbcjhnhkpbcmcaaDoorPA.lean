-- Written by gprint.py (this session's program) through the kit's print.py. Lean checks it.
import Derived.Test.YtbcjhnhkpbcmcaaDoorPA0
import Derived.Test.YtbcjhnhkpbcmcaaDoorPA1
import Derived.Test.YtbcjhnhkpbcmcaaDoorPA2
import Derived.Test.YtbcjhnhkpbcmcaaDoorPA3
namespace Go.Proofs.YtbcjhnhkpbcmcaaDoor.PA
open Go.Proofs.YtbcjhnhkpbcmcaaDoorW.Z
open Go.Proofs.YtbcjhnhkpbcmcaaDoor.Given
open Go.RowKit Go.Proofs.YtbcjhnhkpbcmcaaDoorW.PrintWords Go.Proofs.YtbcjhnhkpbcmcaaDoorW.PrintLast Go.Proofs.YtbcjhnhkpbcmcaaDoorW.PrintMore
attribute [local go_sem] max2_int min2_int max_two min_two max_three min_three max_four min_four   -- for this text's walks alone
set_option linter.unusedVariables false
set_option linter.unusedSimpArgs false

end Go.Proofs.YtbcjhnhkpbcmcaaDoor.PA
