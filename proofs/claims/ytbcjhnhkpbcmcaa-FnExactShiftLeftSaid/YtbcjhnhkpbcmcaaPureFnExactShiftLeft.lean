/- The plain statement of the law FnExactShiftLeft: for every word and number it answers true. -/
import Derived.Test.YtbcjhnhkpbcmcaaPA2
import Derived.Test.YtbcjhnhkpbcmcaaEqShl
namespace Go.Proofs.Ytbcjhnhkpbcmcaa.Pure
open Go.RowKit Go.Proofs.Ytbcjhnhkpbcmcaa.PA Go.Proofs.Ytbcjhnhkpbcmcaa.Given Go.Proofs.Ytbcjhnhkpbcmcaa.Num Go.Proofs.Ytbcjhnhkpbcmcaa.Eq Go.Proofs.YtbcjhnhkpbcmcaaW.PrintWords Go.Proofs.YtbcjhnhkpbcmcaaW.PrintLast Go.Proofs.YtbcjhnhkpbcmcaaW.PrintMore

theorem FnExactShiftLeft (hi lo n : Int) (h0 : (Lit.int .u64 hi).wf = true) (h1 : (Lit.int .u64 lo).wf = true) (h2 : (Lit.int .i64 n).wf = true) : ∃ k, laws_FnExactShiftLeft.f k hi lo n = some true := by
  have w0 := wf64 h0
  have w1 := wf64 h1
  have w2 := wfi64 h2
  refine ⟨129, ?_⟩
  unfold laws_FnExactShiftLeft.f
  simp only [toWide_eq, Option.bind_some]
  rw [spec_ShiftLeft_eq w0 w1 w2 (by decide), impl_ShiftLeft_eq w0 w1]
  simp only [Option.bind_some, eqWide_self, if_true]
end Go.Proofs.Ytbcjhnhkpbcmcaa.Pure
