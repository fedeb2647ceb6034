/- The plain statement of the law FnExactAddWide: for every word and number it answers true. -/
import Derived.Test.YtbcjhnhkpbcmcaaPA5
import Derived.Test.YtbcjhnhkpbcmcaaEqAdd
namespace Go.Proofs.Ytbcjhnhkpbcmcaa.Pure
open Go.RowKit Go.Proofs.Ytbcjhnhkpbcmcaa.PA Go.Proofs.Ytbcjhnhkpbcmcaa.Given Go.Proofs.Ytbcjhnhkpbcmcaa.Num Go.Proofs.Ytbcjhnhkpbcmcaa.Eq Go.Proofs.YtbcjhnhkpbcmcaaW.PrintWords Go.Proofs.YtbcjhnhkpbcmcaaW.PrintLast Go.Proofs.YtbcjhnhkpbcmcaaW.PrintMore

theorem FnExactAddWide (a b c d : Int) (h0 : (Lit.int .u64 a).wf = true) (h1 : (Lit.int .u64 b).wf = true) (h2 : (Lit.int .u64 c).wf = true) (h3 : (Lit.int .u64 d).wf = true) : laws_FnExactAddWide.f a b c d = some true := by
  have w0 := wf64 h0
  have w1 := wf64 h1
  have w2 := wf64 h2
  have w3 := wf64 h3
  unfold laws_FnExactAddWide.f
  simp only [toWide_eq, Option.bind_some]
  rw [spec_AddWide_eq w0 w1 w2 w3, impl_AddWide_eq w0 w1 w2 w3]
  simp only [Option.bind_some, eqWide_self, if_true]
  simp
end Go.Proofs.Ytbcjhnhkpbcmcaa.Pure
