/- The plain statement of the law FnExactZeros: for every word and number it answers true. -/
import Derived.Test.YtbcjhnhkpbcmcaaPA6
import Derived.Test.YtbcjhnhkpbcmcaaEqZeros
namespace Go.Proofs.Ytbcjhnhkpbcmcaa.Pure
open Go.RowKit Go.Proofs.Ytbcjhnhkpbcmcaa.PA Go.Proofs.Ytbcjhnhkpbcmcaa.Given Go.Proofs.Ytbcjhnhkpbcmcaa.Num Go.Proofs.Ytbcjhnhkpbcmcaa.Eq Go.Proofs.YtbcjhnhkpbcmcaaW.PrintWords Go.Proofs.YtbcjhnhkpbcmcaaW.PrintLast Go.Proofs.YtbcjhnhkpbcmcaaW.PrintMore

theorem FnExactZeros (hi lo : Int) (h0 : (Lit.int .u64 hi).wf = true) (h1 : (Lit.int .u64 lo).wf = true) : ∃ k, laws_FnExactZeros.f k hi lo = some true := by
  have w0 := wf64 h0
  have w1 := wf64 h1
  refine ⟨400, ?_⟩
  unfold laws_FnExactZeros.f
  simp only [toWide_eq, Option.bind_some]
  rw [spec_Zeros_eq w0 w1 (by decide), impl_Zeros_eq w0 w1]
  simp only [Option.bind_some, if_true]
end Go.Proofs.Ytbcjhnhkpbcmcaa.Pure
