/- The plain law FnExactCompare: what the row's function computes is true of every input. -/
import Derived.Test.YtokbmgneigdofaaDoorEqCompare
import Derived.Test.YtokbmgneigdofaaDoorPA7
namespace Go.Proofs.YtokbmgneigdofaaDoor.Pure
open Go.Proofs.YtokbmgneigdofaaDoor.Eq Go.RowKit Go.Proofs.YtokbmgneigdofaaDoor.PA Go.Proofs.YtokbmgneigdofaaDoor.Given Go.Proofs.YtokbmgneigdofaaDoor.Num Go.Proofs.YtokbmgneigdofaaDoorW.PrintWords Go.Proofs.YtokbmgneigdofaaDoorW.PrintLast Go.Proofs.YtokbmgneigdofaaDoorW.PrintMore

theorem FnExactCompare : ∀ (a0 : Int) (a1 : Int) (a2 : Int) (a3 : Bool), (Lit.int .i64 a0).wf = true → (Lit.int .u64 a1).wf = true → (Lit.int .u64 a2).wf = true → ∃ k, laws_FnExactCompare.f k a0 a1 a2 a3 = some true := by
  intro f a b s _ ha hb
  refine ⟨310, ?_⟩
  unfold laws_FnExactCompare.f
  rw [spec_Compare_eq f a b s (wf64 ha) (wf64 hb) (by decide), impl_Compare_eq f a b s (wf64 ha) (wf64 hb) (by decide), Option.bind_some, Option.bind_some, if_pos rfl, if_pos rfl]

end Go.Proofs.YtokbmgneigdofaaDoor.Pure
