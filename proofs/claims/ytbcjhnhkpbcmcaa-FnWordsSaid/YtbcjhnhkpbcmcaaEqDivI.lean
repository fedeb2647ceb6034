/- What the program's DivWide computes. -/
import Derived.Test.YtbcjhnhkpbcmcaaPA9
import Derived.Test.YtbcjhnhkpbcmcaaEqDiv64
namespace Go.Proofs.Ytbcjhnhkpbcmcaa.Eq
open Go.RowKit Go.Proofs.Ytbcjhnhkpbcmcaa.PA Go.Proofs.Ytbcjhnhkpbcmcaa.Given Go.Proofs.Ytbcjhnhkpbcmcaa.Num Go.Proofs.YtbcjhnhkpbcmcaaW.PrintWords Go.Proofs.YtbcjhnhkpbcmcaaW.PrintLast Go.Proofs.YtbcjhnhkpbcmcaaW.PrintMore
set_option linter.unusedVariables false

theorem impl_DivWide_eq {hi lo d : Int} (hh : Word hi) (hl : Word lo) (hd : Word d) {k : Nat} (hk : 30 ≤ k) :
    impl_DivWide.f k hi lo d = some (if d = 0 then (0, 0, 0) else (wide hi lo / d / 18446744073709551616, wide hi lo / d % 18446744073709551616, wide hi lo % d)) := by
  have hd' := hd
  have hh' := hh
  have hl' := hl
  unfold Word at hd' hh' hl'
  unfold impl_DivWide.f
  by_cases h0 : d = 0
  · rw [if_pos h0, if_pos h0]
  · rw [if_neg h0, if_neg h0, tmod_id hh'.1, tdiv_id hh'.1]
    have r0 := Int.emod_nonneg hi h0
    have r1 := Int.emod_lt_of_pos hi (show 0 < d by omega)
    have hr : Word (hi % d) := by unfold Word; omega
    rw [div64_eq hr hl hd r1 hk]
    simp only [Option.bind_some]
    have hid := Int.mul_ediv_add_emod hi d
    have e : wide hi lo = wide (hi % d) lo + d * (hi / d * 18446744073709551616) := by
      unfold wide; conv => lhs; rw [← hid]
      rw [← Int.mul_assoc]; omega
    have q0 : 0 ≤ hi / d := Int.ediv_nonneg hh'.1 (by omega)
    have q1 : hi / d ≤ hi := Int.ediv_le_self _ hh'.1
    have w0 := (wide_bd hr hl).1
    have w1 : wide (hi % d) lo / d < 18446744073709551616 := Int.ediv_lt_of_lt_mul (by omega) (by unfold wide; omega)
    have w2 : 0 ≤ wide (hi % d) lo / d := Int.ediv_nonneg w0 (by omega)
    rw [e, Int.add_mul_ediv_left _ _ h0, Int.add_mul_emod_self_left, w64_id q0 (by omega)]
    simp only [Option.some.injEq, Prod.mk.injEq]
    generalize wide (hi % d) lo / d = x at *
    generalize hi / d = z at *
    refine ⟨?_, ?_, trivial⟩
    · omega
    · omega
end Go.Proofs.Ytbcjhnhkpbcmcaa.Eq
