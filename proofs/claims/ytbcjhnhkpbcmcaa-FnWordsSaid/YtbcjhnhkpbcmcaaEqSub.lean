/- What both SubWide compute, for all word pairs. -/
import Derived.Test.YtbcjhnhkpbcmcaaPA2
import Derived.Test.YtbcjhnhkpbcmcaaPA2
import Derived.Test.YtbcjhnhkpbcmcaaEqBase
namespace Go.Proofs.Ytbcjhnhkpbcmcaa.Eq
open Go.RowKit Go.Proofs.Ytbcjhnhkpbcmcaa.PA Go.Proofs.Ytbcjhnhkpbcmcaa.Given Go.Proofs.Ytbcjhnhkpbcmcaa.Num Go.Proofs.YtbcjhnhkpbcmcaaW.PrintWords Go.Proofs.YtbcjhnhkpbcmcaaW.PrintLast Go.Proofs.YtbcjhnhkpbcmcaaW.PrintMore
set_option linter.unusedVariables false

theorem l1Less_eq {a b c d : Int} (ha : Word a) (hb : Word b) (hc : Word c) (hd : Word d) : spec_l1Less.f a b c d = some (decide (wide a b < wide c d)) := by
  unfold Word wide at *
  unfold spec_l1Less.f
  by_cases h1 : a < c <;> by_cases h2 : a = c <;> simp [h1, h2] <;> omega

theorem spec_SubWide_eq {a b c d : Int} (ha : Word a) (hb : Word b) (hc : Word c) (hd : Word d) :
    spec_SubWide.f a b c d = some ((a - c - (if b < d then 1 else 0)) % 18446744073709551616, (b - d) % 18446744073709551616, decide (wide a b < wide c d)) := by
  unfold spec_SubWide.f
  rw [l1Less_eq ha hb hc hd]
  unfold Word at *
  simp only [w64, Option.bind_some]
  by_cases h1 : b < d <;> simp only [h1, if_true, if_false, Option.some.injEq, Prod.mk.injEq] <;> refine ⟨by omega, ?_⟩ <;> trivial

theorem impl_SubWide_eq {a b c d : Int} (ha : Word a) (hb : Word b) (hc : Word c) (hd : Word d) :
    impl_SubWide.f a b c d = some ((a - c - (if b < d then 1 else 0)) % 18446744073709551616, (b - d) % 18446744073709551616, decide (wide a b < wide c d)) := by
  unfold impl_SubWide.f; rw [if_pos ⟨⟨ha, hb⟩, hc, hd⟩]
  have : decide (a < c + (if b < d then 1 else 0)) = decide (wide a b < wide c d) := by
    unfold Word wide at *
    rw [decide_eq_decide]
    split <;> omega
  rw [this]
end Go.Proofs.Ytbcjhnhkpbcmcaa.Eq
