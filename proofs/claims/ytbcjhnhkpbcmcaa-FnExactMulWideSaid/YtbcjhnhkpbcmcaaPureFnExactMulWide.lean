/- The plain statement of the law FnExactMulWide: for every word and number it answers true. -/
import Derived.Test.YtbcjhnhkpbcmcaaPA4
import Derived.Test.YtbcjhnhkpbcmcaaEqMul
namespace Go.Proofs.Ytbcjhnhkpbcmcaa.Pure
open Go.RowKit Go.Proofs.Ytbcjhnhkpbcmcaa.PA Go.Proofs.Ytbcjhnhkpbcmcaa.Given Go.Proofs.Ytbcjhnhkpbcmcaa.Num Go.Proofs.Ytbcjhnhkpbcmcaa.Eq Go.Proofs.YtbcjhnhkpbcmcaaW.PrintWords Go.Proofs.YtbcjhnhkpbcmcaaW.PrintLast Go.Proofs.YtbcjhnhkpbcmcaaW.PrintMore

theorem FnExactMulWide (a b : Int) (h0 : (Lit.int .u64 a).wf = true) (h1 : (Lit.int .u64 b).wf = true) : laws_FnExactMulWide.f a b = some true := by
  have w0 := wf64 h0
  have w1 := wf64 h1
  unfold laws_FnExactMulWide.f
  rw [spec_MulWide_eq w0 w1, impl_MulWide_eq w0 w1]
  simp only [Option.bind_some, eqWide_self, if_true]
end Go.Proofs.Ytbcjhnhkpbcmcaa.Pure
