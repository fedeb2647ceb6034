/- What both AddWide compute, for all word pairs. -/
import Derived.Test.YtbcjhnhkpbcmcaaPA4
import Derived.Test.YtbcjhnhkpbcmcaaEqBase
namespace Go.Proofs.Ytbcjhnhkpbcmcaa.Eq
open Go.RowKit Go.Proofs.Ytbcjhnhkpbcmcaa.PA Go.Proofs.Ytbcjhnhkpbcmcaa.Given Go.Proofs.Ytbcjhnhkpbcmcaa.Num Go.Proofs.YtbcjhnhkpbcmcaaW.PrintWords Go.Proofs.YtbcjhnhkpbcmcaaW.PrintLast Go.Proofs.YtbcjhnhkpbcmcaaW.PrintMore
set_option linter.unusedVariables false

theorem spec_AddWide_eq {a b c d : Int} (ha : Word a) (hb : Word b) (hc : Word c) (hd : Word d) :
    spec_AddWide.f a b c d = some ((a + c + (b + d) / 18446744073709551616) % 18446744073709551616, (b + d) % 18446744073709551616, (a + c + (b + d) / 18446744073709551616) / 18446744073709551616 == 1) := by
  unfold Word at *
  unfold spec_AddWide.f
  simp only [w64]
  split <;> split <;> simp only [Option.some.injEq, Prod.mk.injEq] <;> refine ⟨by omega, trivial, ?_⟩ <;> rw [Bool.eq_iff_iff] <;> simp only [beq_iff_eq, decide_eq_true_eq, true_iff] <;> omega

theorem impl_AddWide_eq {a b c d : Int} (ha : Word a) (hb : Word b) (hc : Word c) (hd : Word d) :
    impl_AddWide.f a b c d = some ((a + c + (b + d) / 18446744073709551616) % 18446744073709551616, (b + d) % 18446744073709551616, (a + c + (b + d) / 18446744073709551616) / 18446744073709551616 == 1) := by
  unfold impl_AddWide.f; rw [if_pos ⟨⟨ha, hb⟩, hc, hd⟩]
end Go.Proofs.Ytbcjhnhkpbcmcaa.Eq
