/- What the reference's ShiftRight computes: a / 2^n and whether something was lost, for every word pair and every int. -/
import Derived.Test.YtbcjhnhkpbcmcaaPA6
import Derived.Test.YtbcjhnhkpbcmcaaEqBase
namespace Go.Proofs.Ytbcjhnhkpbcmcaa.Eq
open Go.RowKit Go.Proofs.Ytbcjhnhkpbcmcaa.PA Go.Proofs.Ytbcjhnhkpbcmcaa.Given Go.Proofs.Ytbcjhnhkpbcmcaa.Num Go.Proofs.YtbcjhnhkpbcmcaaW.PrintWords Go.Proofs.YtbcjhnhkpbcmcaaW.PrintLast Go.Proofs.YtbcjhnhkpbcmcaaW.PrintMore
set_option linter.unusedVariables false

theorem sr_step {hi lo : Int} (hh : Word hi) (hl : Word lo) :
    IntKind.u64.wrap (Int.tdiv hi 2) = wide hi lo / 2 / 18446744073709551616 ∧
    IntKind.u64.wrap ((IntKind.u64.wrap (Int.tdiv lo 2)) + (IntKind.u64.wrap ((Int.tmod hi 2) * 9223372036854775808))) = wide hi lo / 2 % 18446744073709551616 := by
  unfold Word wide at *
  rw [tdiv_id hl.1, tdiv_id hh.1, tmod_id hh.1]; simp only [w64]
  omega

theorem lost_step (x : Int) (h0 : 0 ≤ x) (d : Nat) : (x % 2 ^ (d + 1) ≠ 0) ↔ (x % 2 = 1 ∨ x / 2 % 2 ^ d ≠ 0) := by
  have e : x % 2 ^ (d + 1) = x % 2 + 2 * (x / 2 % 2 ^ d) := by
    have hp := pow_pos2 d
    have a1 := Int.mul_ediv_add_emod x 2
    have a2 := Int.mul_ediv_add_emod (x / 2) (2 ^ d)
    have r0 := Int.emod_nonneg (x / 2) (show (2 : Int) ^ d ≠ 0 by omega)
    have r1 := Int.emod_lt_of_pos (x / 2) hp
    have hx : x = (x % 2 + 2 * (x / 2 % 2 ^ d)) + 2 ^ (d + 1) * (x / 2 / 2 ^ d) := by
      have : (2 : Int) ^ (d + 1) * (x / 2 / 2 ^ d) = 2 * (2 ^ d * (x / 2 / 2 ^ d)) := by rw [Int.pow_succ', Int.mul_assoc]
      rw [this]; omega
    have hb : x % 2 + 2 * (x / 2 % 2 ^ d) < 2 ^ (d + 1) := by rw [Int.pow_succ']; omega
    conv => lhs; rw [hx]
    rw [Int.add_mul_emod_self_left, Int.emod_eq_of_lt (by omega) hb]
  rw [e]
  have hp := pow_pos2 d
  have r0 := Int.emod_nonneg (x / 2) (show (2 : Int) ^ d ≠ 0 by omega)
  omega

theorem spec_sr_loop (n : Int) (hn : -9223372036854775808 ≤ n ∧ n < 9223372036854775808) (d : Nat) : ∀ (k : Nat) (i hi lo : Int) (lost : Bool), 2 * d + 1 < k → 0 ≤ i → Word hi → Word lo → (d : Int) = mx (mn n 128 - i) 0 →
    spec_ShiftRight.l0 k n lost i hi lo = some (wide hi lo / 2 ^ d / 18446744073709551616, wide hi lo / 2 ^ d % 18446744073709551616, lost || decide (wide hi lo % 2 ^ d ≠ 0)) := by
  induction d with
  | zero =>
    intro k i hi lo lost hk h0 hh hl hd
    obtain ⟨k, rfl⟩ : ∃ m, k = m + 2 := ⟨k - 2, by omega⟩
    have e : some (hi, lo, lost) = some (wide hi lo / 2 ^ 0 / 18446744073709551616, wide hi lo / 2 ^ 0 % 18446744073709551616, lost || decide (wide hi lo % 2 ^ 0 ≠ 0)) := by
      have h1 := wide_hi (hi := hi) hl
      have h2 := wide_lo (hi := hi) hl
      simp only [Int.pow_zero, Int.ediv_one, h1, h2, Int.emod_one]
      simp
    rw [← e]
    unfold mx mn at hd
    by_cases h : i < n
    · have h2 : ¬ i < 128 := by (repeat' split at hd) <;> omega
      simp only [spec_ShiftRight.l0]
      rw [if_pos h]
      simp only [spec_ShiftRight.j1]
      rw [if_neg (by simp [h2])]
    · simp only [spec_ShiftRight.l0]
      rw [if_neg h]
      simp only [spec_ShiftRight.j1]
      rw [if_neg (by simp)]
  | succ d ih =>
    intro k i hi lo lost hk h0 hh hl hd
    obtain ⟨k, rfl⟩ : ∃ m, k = m + 2 := ⟨k - 2, by omega⟩
    unfold mx mn at hd
    have h1 : i < n := by (repeat' split at hd) <;> omega
    have h2 : i < 128 := by (repeat' split at hd) <;> omega
    obtain ⟨e1, e2⟩ := sr_step hh hl
    obtain ⟨b0, b1⟩ := wide_bd hh hl
    have hd2 : (d : Int) = mx (mn n 128 - (i + 1)) 0 := by unfold mx mn; (repeat' split at hd) <;> (repeat' split) <;> omega
    have w1 : Word (wide hi lo / 2 / 18446744073709551616) := by unfold Word; omega
    have hw := wide_div_mod (wide hi lo / 2)
    have hodd : (Int.tmod lo 2 = 1) ↔ wide hi lo % 2 = 1 := by rw [tmod_id hl.1]; unfold wide Word at *; omega
    have hq : wide hi lo / 2 / 2 ^ d = wide hi lo / 2 ^ (d + 1) := by rw [Int.ediv_ediv_of_nonneg (by decide), Int.pow_succ']
    have hls := lost_step (wide hi lo) b0 d
    simp only [spec_ShiftRight.l0]
    rw [if_pos h1]
    simp only [spec_ShiftRight.j1]
    rw [if_pos (by simp [h2]), wrap64_id (by omega) (by omega), e1, e2]
    by_cases ho : wide hi lo % 2 = 1
    · rw [if_pos (hodd.2 ho), ih k (i + 1) _ _ true (by omega) (by omega) w1 (word_mod _) hd2, hw, hq]
      simp [hls, ho]
    · rw [if_neg (fun h => ho (hodd.1 h)), ih k (i + 1) _ _ lost (by omega) (by omega) w1 (word_mod _) hd2, hw, hq]
      simp [hls, ho]

theorem clamp_mx (n : Int) : (clampn n : Int) = mx (mn n 128 - 0) 0 := by
  unfold clampn mx mn
  (repeat' split) <;> omega

theorem spec_ShiftRight_eq {hi lo : Int} (hh : Word hi) (hl : Word lo) {n : Int} (hn : -9223372036854775808 ≤ n ∧ n < 9223372036854775808) {k : Nat} (hk : 258 ≤ k) :
    spec_ShiftRight.f k hi lo n = some (wide hi lo / 2 ^ clampn n / 18446744073709551616, wide hi lo / 2 ^ clampn n % 18446744073709551616, decide (wide hi lo % 2 ^ clampn n ≠ 0)) := by
  unfold spec_ShiftRight.f
  have := clampn_le n
  rw [spec_sr_loop n hn (clampn n) k 0 hi lo false (by omega) (by decide) hh hl (clamp_mx n), Bool.false_or]

theorem impl_ShiftRight_eq {hi lo : Int} (hh : Word hi) (hl : Word lo) (n : Int) :
    impl_ShiftRight.f hi lo n = some (wide hi lo / 2 ^ clampn n / 18446744073709551616, wide hi lo / 2 ^ clampn n % 18446744073709551616, decide (wide hi lo % 2 ^ clampn n ≠ 0)) := by
  unfold impl_ShiftRight.f; rw [if_pos ⟨hh, hl⟩]
end Go.Proofs.Ytbcjhnhkpbcmcaa.Eq
