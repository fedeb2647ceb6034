/- The plain statement of the law FnExactSqrtWide: for every word and number it answers true. -/
import Derived.Test.YtbcjhnhkpbcmcaaPA8
import Derived.Test.YtbcjhnhkpbcmcaaEqSqrt
namespace Go.Proofs.Ytbcjhnhkpbcmcaa.Pure
open Go.RowKit Go.Proofs.Ytbcjhnhkpbcmcaa.PA Go.Proofs.Ytbcjhnhkpbcmcaa.Given Go.Proofs.Ytbcjhnhkpbcmcaa.Num Go.Proofs.Ytbcjhnhkpbcmcaa.Eq Go.Proofs.YtbcjhnhkpbcmcaaW.PrintWords Go.Proofs.YtbcjhnhkpbcmcaaW.PrintLast Go.Proofs.YtbcjhnhkpbcmcaaW.PrintMore

theorem FnExactSqrtWide (hi lo : Int) (h0 : (Lit.int .u64 hi).wf = true) (h1 : (Lit.int .u64 lo).wf = true) : ∃ k, laws_FnExactSqrtWide.f k hi lo = some true := by
  have w0 := wf64 h0
  have w1 := wf64 h1
  refine ⟨65, ?_⟩
  obtain ⟨s, b, _, h1, h2⟩ := sqrt_same w0 w1 (k := 65) (by decide)
  unfold laws_FnExactSqrtWide.f
  simp only [toWide_eq, Option.bind_some]
  rw [h1, h2]
  simp
end Go.Proofs.Ytbcjhnhkpbcmcaa.Pure
