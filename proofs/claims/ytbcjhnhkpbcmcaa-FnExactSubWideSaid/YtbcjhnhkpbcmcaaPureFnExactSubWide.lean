/- The plain statement of the law FnExactSubWide: for every word and number it answers true. -/
import Derived.Test.YtbcjhnhkpbcmcaaPA3
import Derived.Test.YtbcjhnhkpbcmcaaEqSub
namespace Go.Proofs.Ytbcjhnhkpbcmcaa.Pure
open Go.RowKit Go.Proofs.Ytbcjhnhkpbcmcaa.PA Go.Proofs.Ytbcjhnhkpbcmcaa.Given Go.Proofs.Ytbcjhnhkpbcmcaa.Num Go.Proofs.Ytbcjhnhkpbcmcaa.Eq Go.Proofs.YtbcjhnhkpbcmcaaW.PrintWords Go.Proofs.YtbcjhnhkpbcmcaaW.PrintLast Go.Proofs.YtbcjhnhkpbcmcaaW.PrintMore

theorem FnExactSubWide (a b c d : Int) (h0 : (Lit.int .u64 a).wf = true) (h1 : (Lit.int .u64 b).wf = true) (h2 : (Lit.int .u64 c).wf = true) (h3 : (Lit.int .u64 d).wf = true) : laws_FnExactSubWide.f a b c d = some true := by
  have w0 := wf64 h0
  have w1 := wf64 h1
  have w2 := wf64 h2
  have w3 := wf64 h3
  unfold laws_FnExactSubWide.f
  simp only [toWide_eq, Option.bind_some]
  rw [spec_SubWide_eq w0 w1 w2 w3, impl_SubWide_eq w0 w1 w2 w3]
  simp only [Option.bind_some, eqWide_self, if_true]
  simp
end Go.Proofs.Ytbcjhnhkpbcmcaa.Pure
