/- The plain law FnExactMaximum: what the row's function computes is true of every input. -/
import Derived.Test.YtokbmgneigdofaaDoorEqPick
import Derived.Test.YtokbmgneigdofaaDoorPB3
namespace Go.Proofs.YtokbmgneigdofaaDoor.Pure
open Go.Proofs.YtokbmgneigdofaaDoor.Eq Go.RowKit Go.Proofs.YtokbmgneigdofaaDoor.PA Go.Proofs.YtokbmgneigdofaaDoor.PB Go.Proofs.YtokbmgneigdofaaDoor.Given Go.Proofs.YtokbmgneigdofaaDoor.Num Go.Proofs.YtokbmgneigdofaaDoorW.PrintWords Go.Proofs.YtokbmgneigdofaaDoorW.PrintLast Go.Proofs.YtokbmgneigdofaaDoorW.PrintMore
set_option linter.unusedVariables false

theorem FnExactMaximum : ∀ (a0 : Int) (a1 : Int) (a2 : Int), (Lit.int .i64 a0).wf = true → (Lit.int .u64 a1).wf = true → (Lit.int .u64 a2).wf = true → ∃ k, laws_FnExactMaximum.f k a0 a1 a2 = some true := by
  intro a0 a1 a2 h0 h1 h2
  refine ⟨400, ?_⟩
  unfold laws_FnExactMaximum.f laws_eqResult.f
  rw [spec_Maximum_eq a0 a1 a2 (wf64 h1) (wf64 h2) (by decide), impl_Maximum_eq a0 a1 a2 (wf64 h1) (wf64 h2)]
  simp

end Go.Proofs.YtokbmgneigdofaaDoor.Pure
