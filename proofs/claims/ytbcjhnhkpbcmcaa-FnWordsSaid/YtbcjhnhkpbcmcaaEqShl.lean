/- What the reference's ShiftLeft computes: a * 2^n modulo 2^128, for every word pair and every int. -/
import Derived.Test.YtbcjhnhkpbcmcaaPA2
import Derived.Test.YtbcjhnhkpbcmcaaEqBase
namespace Go.Proofs.Ytbcjhnhkpbcmcaa.Eq
open Go.RowKit Go.Proofs.Ytbcjhnhkpbcmcaa.PA Go.Proofs.Ytbcjhnhkpbcmcaa.Given Go.Proofs.Ytbcjhnhkpbcmcaa.Num Go.Proofs.YtbcjhnhkpbcmcaaW.PrintWords Go.Proofs.YtbcjhnhkpbcmcaaW.PrintLast Go.Proofs.YtbcjhnhkpbcmcaaW.PrintMore
set_option linter.unusedVariables false

theorem impl_ShiftLeft_eq {hi lo : Int} (hh : Word hi) (hl : Word lo) (n : Int) :
    impl_ShiftLeft.f hi lo n = some (wide hi lo * 2 ^ clampn n / 18446744073709551616 % 18446744073709551616, wide hi lo * 2 ^ clampn n % 18446744073709551616) := by
  unfold impl_ShiftLeft.f; rw [if_pos ⟨hh, hl⟩]

theorem sl_step {hi lo : Int} (hh : Word hi) (hl : Word lo) :
    IntKind.u64.wrap ((IntKind.u64.wrap (hi * 2)) + (IntKind.u64.wrap (Int.tdiv lo 9223372036854775808))) = wide hi lo * 2 / 18446744073709551616 % 18446744073709551616 ∧
    IntKind.u64.wrap (lo * 2) = wide hi lo * 2 % 18446744073709551616 := by
  unfold Word wide at *
  rw [tdiv_id hl.1]; simp only [w64]
  omega

theorem pow_mod_step (x : Int) (d : Nat) :
    wide (x * 2 / 18446744073709551616 % 18446744073709551616) (x * 2 % 18446744073709551616) * 2 ^ d % 340282366920938463463374607431768211456 = x * 2 ^ (d + 1) % 340282366920938463463374607431768211456 := by
  have e : wide (x * 2 / 18446744073709551616 % 18446744073709551616) (x * 2 % 18446744073709551616) = x * 2 % 340282366920938463463374607431768211456 := by unfold wide; omega
  rw [e, Int.pow_succ', ← Int.mul_assoc, Int.mul_emod, Int.emod_emod, ← Int.mul_emod]

theorem split128 (y : Int) : y / 18446744073709551616 % 18446744073709551616 = y % 340282366920938463463374607431768211456 / 18446744073709551616 ∧ y % 18446744073709551616 = y % 340282366920938463463374607431768211456 % 18446744073709551616 := by omega

theorem spec_sl_loop (n : Int) (hn : -9223372036854775808 ≤ n ∧ n < 9223372036854775808) (d : Nat) : ∀ (k : Nat) (i hi lo : Int), d < k → 0 ≤ i → Word hi → Word lo → (d : Int) = mx (mn n 128 - i) 0 →
    spec_ShiftLeft.l0 k n i hi lo = some (wide hi lo * 2 ^ d / 18446744073709551616 % 18446744073709551616, wide hi lo * 2 ^ d % 18446744073709551616) := by
  induction d with
  | zero =>
    intro k i hi lo hk h0 hh hl hd
    obtain ⟨k, rfl⟩ : ∃ m, k = m + 1 := ⟨k - 1, by omega⟩
    have e : some (hi, lo) = some (wide hi lo * 2 ^ 0 / 18446744073709551616 % 18446744073709551616, wide hi lo * 2 ^ 0 % 18446744073709551616) := by
      unfold Word wide at *; simp only [Int.pow_zero, Option.some.injEq, Prod.mk.injEq]; omega
    rw [← e]
    simp only [spec_ShiftLeft.l0]
    unfold mx mn at hd
    by_cases h : i < n
    · rw [if_pos h, if_neg (by split at hd <;> split at hd <;> omega)]
    · rw [if_neg h]
  | succ d ih =>
    intro k i hi lo hk h0 hh hl hd
    obtain ⟨k, rfl⟩ : ∃ m, k = m + 1 := ⟨k - 1, by omega⟩
    have hd' := hd
    unfold mx mn at hd
    have h1 : i < n := by split at hd <;> split at hd <;> omega
    have h2 : i < 128 := by split at hd <;> split at hd <;> omega
    obtain ⟨e1, e2⟩ := sl_step hh hl
    simp only [spec_ShiftLeft.l0]
    rw [if_pos h1, if_pos h2, wrap64_id (by omega) (by omega), e1, e2, ih k (i + 1) _ _ (by omega) (by omega) (word_mod _) (word_mod _) (by unfold mx mn; split at hd <;> split at hd <;> (split <;> split <;> omega))]
    obtain ⟨f1, f2⟩ := split128 (wide (wide hi lo * 2 / 18446744073709551616 % 18446744073709551616) (wide hi lo * 2 % 18446744073709551616) * 2 ^ d)
    obtain ⟨g1, g2⟩ := split128 (wide hi lo * 2 ^ (d + 1))
    rw [f1, f2, g1, g2, pow_mod_step]

theorem spec_ShiftLeft_eq {hi lo : Int} (hh : Word hi) (hl : Word lo) {n : Int} (hn : -9223372036854775808 ≤ n ∧ n < 9223372036854775808) {k : Nat} (hk : 128 < k) :
    spec_ShiftLeft.f k hi lo n = some (wide hi lo * 2 ^ clampn n / 18446744073709551616 % 18446744073709551616, wide hi lo * 2 ^ clampn n % 18446744073709551616) := by
  unfold spec_ShiftLeft.f
  have := clampn_le n
  refine spec_sl_loop n hn (clampn n) k 0 hi lo (by omega) (by decide) hh hl ?_
  unfold clampn mx mn
  (repeat' split) <;> omega
end Go.Proofs.Ytbcjhnhkpbcmcaa.Eq
