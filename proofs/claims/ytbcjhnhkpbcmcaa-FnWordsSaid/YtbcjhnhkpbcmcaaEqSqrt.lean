/- Both SqrtWide compute the same, for all word pairs. -/
import Derived.Test.YtbcjhnhkpbcmcaaPA7
import Derived.Test.YtbcjhnhkpbcmcaaPA8
import Derived.Test.YtbcjhnhkpbcmcaaPA7
import Derived.Test.YtbcjhnhkpbcmcaaEqMul
import Derived.Test.YtbcjhnhkpbcmcaaEqSub
namespace Go.Proofs.Ytbcjhnhkpbcmcaa.Eq
open Go.RowKit Go.Proofs.Ytbcjhnhkpbcmcaa.PA Go.Proofs.Ytbcjhnhkpbcmcaa.Given Go.Proofs.Ytbcjhnhkpbcmcaa.Num Go.Proofs.YtbcjhnhkpbcmcaaW.PrintWords Go.Proofs.YtbcjhnhkpbcmcaaW.PrintLast Go.Proofs.YtbcjhnhkpbcmcaaW.PrintMore
set_option linter.unusedVariables false

theorem less_eq {a b c d : Int} (ha : Word a) (hb : Word b) (hc : Word c) (hd : Word d) : impl_Wide_less.f a b c d = some (decide (wide a b < wide c d)) := by
  unfold impl_Wide_less.f
  rw [impl_SubWide_eq ha hb hc hd]; rfl

theorem or_bit {r : Int} {j : Nat} (hj : j ≤ 63) (h0 : 0 ≤ r) (h1 : r % 2 ^ (j + 1) = 0) (h2 : r < 18446744073709551616) : Go.bits .or .u64 r (2 ^ j) = r + 2 ^ j := by
  have hp := pow_pos2 j
  have hq : (2 : Int) ^ j < 18446744073709551616 := by
    have : (2 : Int) ^ j ≤ 2 ^ 63 := by
      have h := Nat.pow_le_pow_right (n := 2) (by decide) hj
      exact_mod_cast h
    have e : (2 : Int) ^ 63 = 9223372036854775808 := by decide
    omega
  exact bits_join .u64 64 (by decide) wraps_u64 (j + 1) r (2 ^ j) h0 h1 h2 (by omega) (by rw [Int.pow_succ']; omega) hq

theorem sqrt_loops (hi lo : Int) (hh : Word hi) (hl : Word lo) (d : Nat) : ∀ (k : Nat) (r : Int), d < k → d ≤ 64 → 0 ≤ r → r % 2 ^ d = 0 → r + 2 ^ d ≤ 18446744073709551616 →
    ∃ s : Int, ∃ b : Bool, Word s ∧ spec_SqrtWide.l0 k r (if d = 0 then 0 else 2 ^ (d - 1)) hi lo = some (s, b) ∧ impl_SqrtWide.l0 k r (if d = 0 then 0 else 2 ^ (d - 1)) hi lo = some (s, b) := by
  induction d with
  | zero =>
    intro k r hk _ h0 _ h1
    obtain ⟨k, rfl⟩ : ∃ m, k = m + 1 := ⟨k - 1, by omega⟩
    have hr : Word r := by unfold Word; simp at h1; omega
    refine ⟨r, (!(r * r / 18446744073709551616 == hi) || (!(r * r % 18446744073709551616 == lo))), hr, ?_, ?_⟩
    · simp only [spec_SqrtWide.l0, if_true]
      rw [if_neg (by decide), spec_MulWide_eq hr hr]
      rfl
    · simp only [impl_SqrtWide.l0, if_true]
      rw [if_neg (by decide), impl_MulWide_eq hr hr]
      rfl
  | succ d ih =>
    intro k r hk hd h0 hm h1
    obtain ⟨k, rfl⟩ : ∃ m, k = m + 1 := ⟨k - 1, by omega⟩
    have hp := pow_pos2 d
    have e2 : (2 : Int) ^ (d + 1) = 2 * 2 ^ d := Int.pow_succ' 2 d
    rw [if_neg (by omega), show d + 1 - 1 = d by omega]
    have hw : Word (r + 2 ^ d) := by unfold Word; omega
    have hadd : IntKind.u64.wrap (r + 2 ^ d) = r + 2 ^ d := w64_id hw.1 hw.2
    have hor := or_bit (by omega) h0 hm (by omega)
    have hhalf : (2 : Int) ^ d / 2 = if d = 0 then 0 else 2 ^ (d - 1) := by
      cases d with
      | zero => decide
      | succ d => rw [if_neg (by omega), Int.pow_succ', show d + 1 - 1 = d by omega]; omega
    have hhalfw : IntKind.u64.wrap (Int.tdiv (2 ^ d) 2) = if d = 0 then 0 else 2 ^ (d - 1) := by
      rw [tdiv_id (by omega), hhalf, w64_id]
      · split
        · decide
        · exact Int.le_of_lt (pow_pos2 _)
      · rw [← hhalf]; unfold Word at hw; omega
    have hmod : r % 2 ^ d = 0 := by
      have : (2 : Int) ^ d ∣ 2 ^ (d + 1) := by rw [e2]; exact ⟨2, by rw [Int.mul_comm]⟩
      have h3 : (2 : Int) ^ (d + 1) ∣ r := Int.dvd_of_emod_eq_zero hm
      exact Int.emod_eq_zero_of_dvd (Int.dvd_trans this h3)
    obtain ⟨m0, m1, m2⟩ := mul_words hw hw
    have hd1 := wide_div_mod ((r + 2 ^ d) * (r + 2 ^ d))
    simp only [spec_SqrtWide.l0, impl_SqrtWide.l0]
    rw [if_pos hp, if_pos hp, hadd, hor, spec_MulWide_eq hw hw, impl_MulWide_eq hw hw]
    simp only [Option.bind_some]
    rw [l1Less_eq hh hl m2 (word_mod _), less_eq hh hl m2 (word_mod _), hd1, hhalfw, hhalf]
    simp only [Option.bind_some]
    by_cases hc : wide hi lo < (r + 2 ^ d) * (r + 2 ^ d)
    · simp only [hc, decide_true, if_true]
      exact ih k r (by omega) (by omega) h0 hmod (by omega)
    · simp only [hc, decide_false, Bool.false_eq_true, if_false]
      exact ih k (r + 2 ^ d) (by omega) (by omega) (by omega) (by rw [Int.add_emod_right]; exact hmod) (by omega)

theorem sqrt_same {hi lo : Int} (hh : Word hi) (hl : Word lo) {k : Nat} (hk : 64 < k) : ∃ s : Int, ∃ b : Bool, Word s ∧ spec_SqrtWide.f k hi lo = some (s, b) ∧ impl_SqrtWide.f k hi lo = some (s, b) := by
  have := sqrt_loops hi lo hh hl 64 k 0 hk (Nat.le_refl _) (Int.le_refl _) (by decide) (by decide)
  simpa [spec_SqrtWide.f, impl_SqrtWide.f] using this
end Go.Proofs.Ytbcjhnhkpbcmcaa.Eq
