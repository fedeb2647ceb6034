-- Written by gprint.py (this session's program) through the kit's print.py. Lean checks it.
import Derived.Test.YtokbmgneigdofaaDoorPA0
import Derived.Test.YtokbmgneigdofaaDoorPA1
import Derived.Test.YtokbmgneigdofaaDoorPA2
import Derived.Test.YtokbmgneigdofaaDoorPA3
import Derived.Test.YtokbmgneigdofaaDoorPA4
import Derived.Test.YtokbmgneigdofaaDoorPA5
import Derived.Test.YtokbmgneigdofaaDoorPA6
namespace Go.Proofs.YtokbmgneigdofaaDoor.PA
open Go.Proofs.YtokbmgneigdofaaDoorW.Z
open Go.Proofs.YtokbmgneigdofaaDoor.Given
open Go.RowKit Go.Proofs.YtokbmgneigdofaaDoorW.PrintWords Go.Proofs.YtokbmgneigdofaaDoorW.PrintLast
set_option linter.unusedVariables false
set_option linter.unusedSimpArgs false

end Go.Proofs.YtokbmgneigdofaaDoor.PA
