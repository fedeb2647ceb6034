/- The plain law FnExactNextUp: what the row's function computes is true of every input. -/
import Derived.Test.YtokbmgneigdofaaDoorEqCompare
import Derived.Test.YtokbmgneigdofaaDoorPA6
namespace Go.Proofs.YtokbmgneigdofaaDoor.Pure
open Go.Proofs.YtokbmgneigdofaaDoor.Eq Go.RowKit Go.Proofs.YtokbmgneigdofaaDoor.PA Go.Proofs.YtokbmgneigdofaaDoor.Given Go.Proofs.YtokbmgneigdofaaDoor.Num Go.Proofs.YtokbmgneigdofaaDoorW.PrintWords Go.Proofs.YtokbmgneigdofaaDoorW.PrintLast Go.Proofs.YtokbmgneigdofaaDoorW.PrintMore

theorem FnExactNextUp : ∀ (a0 : Int) (a1 : Int), (Lit.int .i64 a0).wf = true → (Lit.int .u64 a1).wf = true → ∃ k, laws_FnExactNextUp.f k a0 a1 = some true := by
  intro f w _ h
  refine ⟨300, ?_⟩
  unfold laws_FnExactNextUp.f
  rw [spec_NextUp_eq f w (wf64 h) (by decide), impl_NextUp_eq f w (wf64 h) (by decide), Option.bind_some, Option.bind_some, if_pos rfl]

end Go.Proofs.YtokbmgneigdofaaDoor.Pure
