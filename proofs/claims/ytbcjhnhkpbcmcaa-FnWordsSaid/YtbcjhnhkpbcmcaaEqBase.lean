/- Small equations on the laws' own helpers: no memory. -/
import Derived.Test.YtbcjhnhkpbcmcaaPA2
import Derived.Test.YtbcjhnhkpbcmcaaNum
import Derived.Laws.BitsLemmas
namespace Go.Proofs.Ytbcjhnhkpbcmcaa.Eq
open Go.RowKit Go.Proofs.Ytbcjhnhkpbcmcaa.PA Go.Proofs.Ytbcjhnhkpbcmcaa.Given Go.Proofs.Ytbcjhnhkpbcmcaa.Num Go.Proofs.YtbcjhnhkpbcmcaaW.PrintWords Go.Proofs.YtbcjhnhkpbcmcaaW.PrintLast Go.Proofs.YtbcjhnhkpbcmcaaW.PrintMore
set_option linter.unusedVariables false

theorem eqWide_self (a b : Int) : laws_eqWide.f a b a b = some true := by unfold laws_eqWide.f; rw [if_pos rfl, if_pos rfl]

theorem toWide_eq (a b : Int) : laws_toWide.f a b = some (a, b) := rfl

theorem wrap64_id {n : Int} (h : -9223372036854775808 ≤ n) (h' : n < 9223372036854775808) : wrap64 n = n := by unfold wrap64; omega
end Go.Proofs.Ytbcjhnhkpbcmcaa.Eq
