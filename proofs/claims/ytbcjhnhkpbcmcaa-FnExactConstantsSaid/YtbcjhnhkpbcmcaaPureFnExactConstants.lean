/- The plain statement of the law FnExactConstants: for every word and number it answers true. -/
import Derived.Test.YtbcjhnhkpbcmcaaPA2
import Derived.Test.YtbcjhnhkpbcmcaaEqBase
namespace Go.Proofs.Ytbcjhnhkpbcmcaa.Pure
open Go.RowKit Go.Proofs.Ytbcjhnhkpbcmcaa.PA Go.Proofs.Ytbcjhnhkpbcmcaa.Given Go.Proofs.Ytbcjhnhkpbcmcaa.Num Go.Proofs.Ytbcjhnhkpbcmcaa.Eq Go.Proofs.YtbcjhnhkpbcmcaaW.PrintWords Go.Proofs.YtbcjhnhkpbcmcaaW.PrintLast Go.Proofs.YtbcjhnhkpbcmcaaW.PrintMore

theorem FnExactConstants : laws_FnExactConstants.f = some true := rfl
end Go.Proofs.Ytbcjhnhkpbcmcaa.Pure
