/- The plain law FnExactDecay: what the row's function computes is true of every input. -/
import Derived.Test.YtbcjhnhkpbcmcaaDoorEqDecay
import Derived.Test.YtbcjhnhkpbcmcaaDoorPB
namespace Go.Proofs.YtbcjhnhkpbcmcaaDoor.Pure
open Go.Proofs.YtbcjhnhkpbcmcaaDoor.Eq Go.RowKit Go.Proofs.YtbcjhnhkpbcmcaaDoor.PA Go.Proofs.YtbcjhnhkpbcmcaaDoor.PB Go.Proofs.YtbcjhnhkpbcmcaaDoor.Given Go.Proofs.YtbcjhnhkpbcmcaaDoor.Num Go.Proofs.YtbcjhnhkpbcmcaaDoorW.PrintWords Go.Proofs.YtbcjhnhkpbcmcaaDoorW.PrintLast Go.Proofs.YtbcjhnhkpbcmcaaDoorW.PrintMore

theorem FnExactDecay : ∀ (a0 : Int), (Lit.int .u64 a0).wf = true → ∃ k, laws_FnExactDecay.f k a0 = some true := by
  intro t h
  refine ⟨500, ?_⟩
  obtain ⟨r, h1, h2⟩ := decay_both (wf64 h) (Nat.le_refl 500)
  unfold laws_FnExactDecay.f
  rw [h1, h2, Option.bind_some, Option.bind_some, if_pos rfl]

end Go.Proofs.YtbcjhnhkpbcmcaaDoor.Pure
