-- Written by gprint.py (this session's program) through the kit's print.py. Lean checks it.
import Derived.Test.YtokbmgneigdofaaDoorPC0
import Derived.Test.YtokbmgneigdofaaDoorPC1
namespace Go.Proofs.YtokbmgneigdofaaDoor.PC
open Go.Proofs.YtokbmgneigdofaaDoorW.Z
open Go.Proofs.YtokbmgneigdofaaDoor.Given
open Go.Proofs.YtokbmgneigdofaaDoor.PA
open Go.RowKit Go.Proofs.YtokbmgneigdofaaDoorW.PrintWords Go.Proofs.YtokbmgneigdofaaDoorW.PrintLast Go.Proofs.YtokbmgneigdofaaDoorW.PrintMore
attribute [local go_sem] max2_int min2_int max_two min_two max_three min_three max_four min_four   -- for this text's walks alone
set_option linter.unusedVariables false
set_option linter.unusedSimpArgs false

end Go.Proofs.YtokbmgneigdofaaDoor.PC
