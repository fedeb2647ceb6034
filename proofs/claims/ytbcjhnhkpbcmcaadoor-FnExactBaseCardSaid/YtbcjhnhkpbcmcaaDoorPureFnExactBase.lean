/- The plain law FnExactBase: what the row's function computes is true of every input. -/
import Derived.Test.YtbcjhnhkpbcmcaaDoorEqBaseOf
import Derived.Test.YtbcjhnhkpbcmcaaDoorPA1
namespace Go.Proofs.YtbcjhnhkpbcmcaaDoor.Pure
open Go.Proofs.YtbcjhnhkpbcmcaaDoor.Eq Go.RowKit Go.Proofs.YtbcjhnhkpbcmcaaDoor.PA Go.Proofs.YtbcjhnhkpbcmcaaDoor.Given Go.Proofs.YtbcjhnhkpbcmcaaDoor.Num Go.Proofs.YtbcjhnhkpbcmcaaDoorW.PrintWords Go.Proofs.YtbcjhnhkpbcmcaaDoorW.PrintLast Go.Proofs.YtbcjhnhkpbcmcaaDoorW.PrintMore

theorem FnExactBase : ∀ (a0 : Int), (Lit.int .u64 a0).wf = true → ∃ k, laws_FnExactBase.f k a0 = some true := by
  intro u _
  refine ⟨100, ?_⟩
  unfold laws_FnExactBase.f impl_Base.f
  rw [spec_Base_eq u (by decide), Option.bind_some, Option.bind_some, if_pos rfl]

end Go.Proofs.YtbcjhnhkpbcmcaaDoor.Pure
