/- The plain statement of the law FnExactShiftRight: for every word and number it answers true. -/
import Derived.Test.YtbcjhnhkpbcmcaaPA6
import Derived.Test.YtbcjhnhkpbcmcaaEqShr
namespace Go.Proofs.Ytbcjhnhkpbcmcaa.Pure
open Go.RowKit Go.Proofs.Ytbcjhnhkpbcmcaa.PA Go.Proofs.Ytbcjhnhkpbcmcaa.Given Go.Proofs.Ytbcjhnhkpbcmcaa.Num Go.Proofs.Ytbcjhnhkpbcmcaa.Eq Go.Proofs.YtbcjhnhkpbcmcaaW.PrintWords Go.Proofs.YtbcjhnhkpbcmcaaW.PrintLast Go.Proofs.YtbcjhnhkpbcmcaaW.PrintMore

theorem FnExactShiftRight (hi lo n : Int) (h0 : (Lit.int .u64 hi).wf = true) (h1 : (Lit.int .u64 lo).wf = true) (h2 : (Lit.int .i64 n).wf = true) : ∃ k, laws_FnExactShiftRight.f k hi lo n = some true := by
  have w0 := wf64 h0
  have w1 := wf64 h1
  have w2 := wfi64 h2
  refine ⟨300, ?_⟩
  unfold laws_FnExactShiftRight.f
  simp only [toWide_eq, Option.bind_some]
  rw [spec_ShiftRight_eq w0 w1 w2 (by decide), impl_ShiftRight_eq w0 w1]
  simp only [Option.bind_some, eqWide_self, if_true]
  simp
end Go.Proofs.Ytbcjhnhkpbcmcaa.Pure
