/- The plain statement of the law FnExactDivWide: for every word and number it answers true. -/
import Derived.Test.YtbcjhnhkpbcmcaaPA9
import Derived.Test.YtbcjhnhkpbcmcaaEqDiv
namespace Go.Proofs.Ytbcjhnhkpbcmcaa.Pure
open Go.RowKit Go.Proofs.Ytbcjhnhkpbcmcaa.PA Go.Proofs.Ytbcjhnhkpbcmcaa.Given Go.Proofs.Ytbcjhnhkpbcmcaa.Num Go.Proofs.Ytbcjhnhkpbcmcaa.Eq Go.Proofs.YtbcjhnhkpbcmcaaW.PrintWords Go.Proofs.YtbcjhnhkpbcmcaaW.PrintLast Go.Proofs.YtbcjhnhkpbcmcaaW.PrintMore

theorem FnExactDivWide (hi lo d : Int) (h0 : (Lit.int .u64 hi).wf = true) (h1 : (Lit.int .u64 lo).wf = true) (h2 : (Lit.int .u64 d).wf = true) : ∃ k, laws_FnExactDivWide.f k hi lo d = some true := by
  have w0 := wf64 h0
  have w1 := wf64 h1
  have w2 := wf64 h2
  refine ⟨600, ?_⟩
  unfold laws_FnExactDivWide.f
  simp only [toWide_eq, Option.bind_some]
  rw [spec_DivWide_eq w0 w1 w2 (by decide), impl_DivWide_eq w0 w1 w2 (by decide)]
  simp only [Option.bind_some, eqWide_self, if_true]
end Go.Proofs.Ytbcjhnhkpbcmcaa.Pure
