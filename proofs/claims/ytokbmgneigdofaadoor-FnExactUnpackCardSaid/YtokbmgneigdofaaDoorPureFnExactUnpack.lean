/- The plain law FnExactUnpack: what the row's function computes is true of every input. -/
import Derived.Test.YtokbmgneigdofaaDoorEqUnpack
import Derived.Test.YtokbmgneigdofaaDoorPA5
import Derived.Test.YtokbmgneigdofaaDoorPA5
namespace Go.Proofs.YtokbmgneigdofaaDoor.Pure
open Go.Proofs.YtokbmgneigdofaaDoor.Eq Go.RowKit Go.Proofs.YtokbmgneigdofaaDoor.PA Go.Proofs.YtokbmgneigdofaaDoor.Given Go.Proofs.YtokbmgneigdofaaDoor.Num Go.Proofs.YtokbmgneigdofaaDoorW.PrintWords Go.Proofs.YtokbmgneigdofaaDoorW.PrintLast Go.Proofs.YtokbmgneigdofaaDoorW.PrintMore

theorem eqParts_self (a b c d : Int) : laws_eqParts.f a b c d a b c d = some true := by unfold laws_eqParts.f; simp

theorem FnExactUnpack : ∀ (a0 : Int) (a1 : Int), (Lit.int .i64 a0).wf = true → (Lit.int .u64 a1).wf = true → ∃ k, laws_FnExactUnpack.f k a0 a1 = some true := by
  intro f w _ h
  refine ⟨300, ?_⟩
  unfold laws_FnExactUnpack.f
  rw [spec_Unpack_eq f w (wf64 h) (by decide), impl_Unpack_eq f w (wf64 h) (by decide), Option.bind_some, Option.bind_some, eqParts_self]
  rfl

end Go.Proofs.YtokbmgneigdofaaDoor.Pure
