/- What both DivWide compute: quotient and rest (zeros for the divisor 0), for all dividends and divisors. -/
import Derived.Test.YtbcjhnhkpbcmcaaPA9
import Derived.Test.YtbcjhnhkpbcmcaaPA8
import Derived.Test.YtbcjhnhkpbcmcaaEqDiv64
import Derived.Test.YtbcjhnhkpbcmcaaEqShl
import Derived.Test.YtbcjhnhkpbcmcaaEqSub
namespace Go.Proofs.Ytbcjhnhkpbcmcaa.Eq
open Go.RowKit Go.Proofs.Ytbcjhnhkpbcmcaa.PA Go.Proofs.Ytbcjhnhkpbcmcaa.Given Go.Proofs.Ytbcjhnhkpbcmcaa.Num Go.Proofs.YtbcjhnhkpbcmcaaW.PrintWords Go.Proofs.YtbcjhnhkpbcmcaaW.PrintLast Go.Proofs.YtbcjhnhkpbcmcaaW.PrintMore
set_option linter.unusedVariables false

theorem impl_DivWide_eq {hi lo d : Int} (hh : Word hi) (hl : Word lo) (hd : Word d) {k : Nat} (hk : 30 ≤ k) :
    impl_DivWide.f k hi lo d = some (if d = 0 then (0, 0, 0) else (wide hi lo / d / 18446744073709551616, wide hi lo / d % 18446744073709551616, wide hi lo % d)) := by
  have hd' := hd
  have hh' := hh
  have hl' := hl
  unfold Word at hd' hh' hl'
  unfold impl_DivWide.f
  by_cases h0 : d = 0
  · rw [if_pos h0, if_pos h0]
  · rw [if_neg h0, if_neg h0, tmod_id hh'.1, tdiv_id hh'.1]
    have r0 := Int.emod_nonneg hi h0
    have r1 := Int.emod_lt_of_pos hi (show 0 < d by omega)
    have hr : Word (hi % d) := by unfold Word; omega
    rw [div64_eq hr hl hd r1 hk]
    simp only [Option.bind_some]
    have hid := Int.mul_ediv_add_emod hi d
    have e : wide hi lo = wide (hi % d) lo + d * (hi / d * 18446744073709551616) := by
      unfold wide; conv => lhs; rw [← hid]
      rw [← Int.mul_assoc]; omega
    have q0 : 0 ≤ hi / d := Int.ediv_nonneg hh'.1 (by omega)
    have q1 : hi / d ≤ hi := Int.ediv_le_self _ hh'.1
    have w0 := (wide_bd hr hl).1
    have w1 : wide (hi % d) lo / d < 18446744073709551616 := Int.ediv_lt_of_lt_mul (by omega) (by unfold wide; omega)
    have w2 : 0 ≤ wide (hi % d) lo / d := Int.ediv_nonneg w0 (by omega)
    rw [e, Int.add_mul_ediv_left _ _ h0, Int.add_mul_emod_self_left, w64_id q0 (by omega)]
    simp only [Option.some.injEq, Prod.mk.injEq]
    generalize wide (hi % d) lo / d = x at *
    generalize hi / d = z at *
    refine ⟨?_, ?_, trivial⟩
    · omega
    · omega

theorem spec_double {hi lo : Int} (hh : Word hi) (hl : Word lo) {k : Nat} (hk : 128 < k) :
    spec_ShiftLeft.f k hi lo 1 = some (wide hi lo * 2 / 18446744073709551616 % 18446744073709551616, wide hi lo * 2 % 18446744073709551616) := by
  rw [spec_ShiftLeft_eq hh hl (by omega) hk, show clampn 1 = 1 by decide, Int.pow_one]

/-- The m highest of 128 bits. -/
def topm (m : Nat) (a : Int) : Int := a / 2 ^ (128 - m)

theorem topm_zero {a : Int} (h0 : 0 ≤ a) (h1 : a < 340282366920938463463374607431768211456) : topm 0 a = 0 := by
  unfold topm
  exact Int.ediv_eq_zero_of_lt h0 (by simpa using h1)

theorem topm_all (a : Int) : topm 128 a = a := by unfold topm; simp

theorem topm_step {m : Nat} (hm : m + 1 ≤ 128) {a : Int} (h0 : 0 ≤ a) (h1 : a < 340282366920938463463374607431768211456) :
    topm (m + 1) a = a / 170141183460469231731687303715884105728 * 2 ^ m + topm m (a * 2 % 340282366920938463463374607431768211456) := by
  unfold topm
  obtain ⟨j, hj⟩ : ∃ j, 128 - (m + 1) = j := ⟨_, rfl⟩
  have e1 : 128 - m = j + 1 := by omega
  have e2 : (2 : Int) ^ j * 2 ^ m = 170141183460469231731687303715884105728 := by
    rw [← Int.pow_add, show j + m = 127 by omega]; decide
  have hp := pow_pos2 j
  rw [hj, e1, Int.pow_succ', ← Int.ediv_ediv_of_nonneg (by decide)]
  generalize ht : a / 170141183460469231731687303715884105728 = t
  have ht01 : 0 ≤ t ∧ t ≤ 1 := by omega
  have e3 : a * 2 % 340282366920938463463374607431768211456 / 2 = a - t * 170141183460469231731687303715884105728 := by omega
  rw [e3]
  have e4 : a = (a - t * 170141183460469231731687303715884105728) + 2 ^ j * (t * 2 ^ m) := by
    rw [← Int.mul_assoc, Int.mul_comm (2 ^ j) t, Int.mul_assoc, e2]; omega
  conv => lhs; rw [e4]
  rw [Int.add_mul_ediv_left _ _ (by omega)]; omega

theorem spec_div_loop {d : Int} (hd : Word d) (hd0 : 0 < d) (m : Nat) : ∀ (k : Nat) (i ahi alo qhi qlo rlo : Int), 400 + m ≤ k → (i : Int) = 128 - (m : Int) → m ≤ 128 → Word ahi → Word alo → Word qhi → Word qlo → Word rlo → rlo < d → wide qhi qlo * 2 ^ m < 340282366920938463463374607431768211456 →
    wide qhi qlo * 2 ^ m + (rlo * 2 ^ m + topm m (wide ahi alo)) / d < 340282366920938463463374607431768211456 →
    spec_DivWide.l0 k d i ahi alo qhi qlo 0 rlo = some ((wide qhi qlo * 2 ^ m + (rlo * 2 ^ m + topm m (wide ahi alo)) / d) / 18446744073709551616, (wide qhi qlo * 2 ^ m + (rlo * 2 ^ m + topm m (wide ahi alo)) / d) % 18446744073709551616, (rlo * 2 ^ m + topm m (wide ahi alo)) % d) := by
  induction m with
  | zero =>
    intro k i ahi alo qhi qlo rlo hk hi hm ha1 ha2 hq1 hq2 hr hrd hqb hall
    obtain ⟨k, rfl⟩ : ∃ m, k = m + 1 := ⟨k - 1, by omega⟩
    obtain ⟨b0, b1⟩ := wide_bd ha1 ha2
    have hr' := hr
    unfold Word at hr'
    simp only [spec_DivWide.l0]
    rw [if_neg (by omega), topm_zero b0 b1]
    simp only [Int.pow_zero, Int.mul_one, Int.add_zero]
    rw [Int.ediv_eq_zero_of_lt hr'.1 hrd, Int.emod_eq_of_lt hr'.1 hrd, Int.add_zero, wide_hi hq2, wide_lo hq2]
  | succ m ih =>
    intro k i ahi alo qhi qlo rlo hk hi hm ha1 ha2 hq1 hq2 hr hrd hqb hall
    obtain ⟨k, rfl⟩ : ∃ m, k = m + 1 := ⟨k - 1, by omega⟩
    obtain ⟨b0, b1⟩ := wide_bd ha1 ha2
    have ha1' := ha1
    have hr' := hr
    have hd' := hd
    have hq1' := hq1
    have hq2' := hq2
    unfold Word at hr' ha1' hd' hq1' hq2'
    have hp := pow_pos2 m
    have z0 : Word 0 := by decide
    simp only [spec_DivWide.l0]
    rw [if_pos (by omega), spec_double z0 hr (by omega), spec_double ha1 ha2 (by omega), spec_double hq1 hq2 (by omega)]
    simp only [Option.bind_some]
    have et : Int.tdiv ahi 9223372036854775808 = ahi / 9223372036854775808 := tdiv_id ha1'.1
    have et2 : ahi / 9223372036854775808 = wide ahi alo / 170141183460469231731687303715884105728 := by unfold wide Word at *; omega
    rw [et, et2]
    generalize hT : wide ahi alo / 170141183460469231731687303715884105728 = t
    have ht01 : 0 ≤ t ∧ t ≤ 1 := by omega
    have er1 : wide 0 rlo = rlo := by unfold wide; omega
    rw [er1]
    have ew1 : IntKind.u64.wrap t = t := w64_id (by omega) (by omega)
    have ew2 : IntKind.u64.wrap (rlo * 2 % 18446744073709551616 + t) = rlo * 2 % 18446744073709551616 + t := w64_id (by omega) (by omega)
    rw [ew1, ew2]
    have wr1 : Word (rlo * 2 / 18446744073709551616 % 18446744073709551616) := by unfold Word; omega
    have wr2 : Word (rlo * 2 % 18446744073709551616 + t) := by unfold Word; omega
    rw [l1Less_eq wr1 wr2 z0 hd]
    have er2 : wide (rlo * 2 / 18446744073709551616 % 18446744073709551616) (rlo * 2 % 18446744073709551616 + t) = 2 * rlo + t := by unfold wide; omega
    have ed : wide 0 d = d := by unfold wide; omega
    rw [er2, ed]
    simp only [Option.bind_some]
    have ei : wrap64 (i + 1) = i + 1 := wrap64_id (by omega) (by omega)
    have wa1 : Word (wide ahi alo * 2 / 18446744073709551616 % 18446744073709551616) := by unfold Word; omega
    have wq1 : Word (wide qhi qlo * 2 / 18446744073709551616 % 18446744073709551616) := by unfold Word; omega
    have eA : wide (wide ahi alo * 2 / 18446744073709551616 % 18446744073709551616) (wide ahi alo * 2 % 18446744073709551616) = wide ahi alo * 2 % 340282366920938463463374607431768211456 := by unfold wide; omega
    have hts := topm_step hm b0 b1
    rw [hT] at hts
    have hpow : (2 : Int) ^ (m + 1) = 2 * 2 ^ m := Int.pow_succ' 2 m
    have hq2b : wide qhi qlo * 2 < 340282366920938463463374607431768211456 := by
      have h2 : wide qhi qlo * 2 * 1 ≤ wide qhi qlo * 2 * 2 ^ m := Int.mul_le_mul_of_nonneg_left (by omega) (by have := (wide_bd hq1 hq2).1; omega)
      rw [hpow, ← Int.mul_assoc] at hqb
      omega
    have eQ : wide (wide qhi qlo * 2 / 18446744073709551616 % 18446744073709551616) (wide qhi qlo * 2 % 18446744073709551616) = wide qhi qlo * 2 := by
      have := (wide_bd hq1 hq2).1
      unfold wide at *; omega
    have hN : rlo * 2 ^ (m + 1) + topm (m + 1) (wide ahi alo) = (2 * rlo + t) * 2 ^ m + topm m (wide ahi alo * 2 % 340282366920938463463374607431768211456) := by
      rw [hts, hpow, Int.add_mul, ← Int.mul_assoc, Int.mul_comm rlo 2]; omega
    rw [hN] at hall ⊢
    rw [hpow, ← Int.mul_assoc] at hall hqb ⊢
    by_cases hc : 2 * rlo + t < d
    · have hdec : decide (2 * rlo + t < d) = true := decide_eq_true hc
      rw [if_pos hdec, ei]
      have e0 : rlo * 2 / 18446744073709551616 % 18446744073709551616 = 0 := by omega
      have e1 : rlo * 2 % 18446744073709551616 + t = 2 * rlo + t := by omega
      rw [e0, e1]
      have := ih k (i + 1) (wide ahi alo * 2 / 18446744073709551616 % 18446744073709551616) (wide ahi alo * 2 % 18446744073709551616) (wide qhi qlo * 2 / 18446744073709551616 % 18446744073709551616) (wide qhi qlo * 2 % 18446744073709551616) (2 * rlo + t) (by omega) (by omega) (by omega) wa1 (word_mod _) wq1 (word_mod _) (by unfold Word; omega) hc (by rw [eQ]; exact hqb) (by rw [eQ, eA]; exact hall)
      rw [this, eQ, eA]
    · have hdec : ¬ decide (2 * rlo + t < d) = true := by simp [hc]
      rw [if_neg hdec, spec_SubWide_eq wr1 wr2 z0 hd, ei]
      simp only [Option.bind_some]
      have e0 : (rlo * 2 / 18446744073709551616 % 18446744073709551616 - 0 - (if rlo * 2 % 18446744073709551616 + t < d then 1 else 0)) % 18446744073709551616 = 0 := by split <;> omega
      have e1 : (rlo * 2 % 18446744073709551616 + t - d) % 18446744073709551616 = 2 * rlo + t - d := by omega
      have e2 : IntKind.u64.wrap (wide qhi qlo * 2 % 18446744073709551616 + 1) = wide qhi qlo * 2 % 18446744073709551616 + 1 := w64_id (by omega) (by omega)
      have wq2 : Word (wide qhi qlo * 2 % 18446744073709551616 + 1) := by unfold Word; omega
      have eQ2 : wide (wide qhi qlo * 2 / 18446744073709551616 % 18446744073709551616) (wide qhi qlo * 2 % 18446744073709551616 + 1) = wide qhi qlo * 2 + 1 := by
        have h := eQ; unfold wide at h ⊢; omega
      have hsplit : (2 * rlo + t) * 2 ^ m + topm m (wide ahi alo * 2 % 340282366920938463463374607431768211456) = ((2 * rlo + t - d) * 2 ^ m + topm m (wide ahi alo * 2 % 340282366920938463463374607431768211456)) + d * 2 ^ m := by
        rw [Int.sub_mul]; omega
      have hquo : ((2 * rlo + t) * 2 ^ m + topm m (wide ahi alo * 2 % 340282366920938463463374607431768211456)) / d = ((2 * rlo + t - d) * 2 ^ m + topm m (wide ahi alo * 2 % 340282366920938463463374607431768211456)) / d + 2 ^ m := by
        rw [hsplit, Int.add_mul_ediv_left _ _ (by omega)]
      have hrem : ((2 * rlo + t) * 2 ^ m + topm m (wide ahi alo * 2 % 340282366920938463463374607431768211456)) % d = ((2 * rlo + t - d) * 2 ^ m + topm m (wide ahi alo * 2 % 340282366920938463463374607431768211456)) % d := by
        rw [hsplit, Int.add_mul_emod_self_left]
      have hQm : (wide qhi qlo * 2 + 1) * 2 ^ m = wide qhi qlo * 2 * 2 ^ m + 2 ^ m := by rw [Int.add_mul]; omega
      have htop0 : 0 ≤ topm m (wide ahi alo * 2 % 340282366920938463463374607431768211456) := by
        unfold topm; exact Int.ediv_nonneg (by omega) (by have := pow_pos2 (128 - m); omega)
      have hnn : 0 ≤ ((2 * rlo + t - d) * 2 ^ m + topm m (wide ahi alo * 2 % 340282366920938463463374607431768211456)) / d := by
        refine Int.ediv_nonneg ?_ (by omega)
        have : 0 ≤ (2 * rlo + t - d) * 2 ^ m := Int.mul_nonneg (by omega) (by omega)
        omega
      rw [hquo] at hall
      rw [e0, e1, e2]
      have := ih k (i + 1) (wide ahi alo * 2 / 18446744073709551616 % 18446744073709551616) (wide ahi alo * 2 % 18446744073709551616) (wide qhi qlo * 2 / 18446744073709551616 % 18446744073709551616) (wide qhi qlo * 2 % 18446744073709551616 + 1) (2 * rlo + t - d) (by omega) (by omega) (by omega) wa1 (word_mod _) wq1 wq2 (by unfold Word; omega) (by omega) (by rw [eQ2, hQm]; omega) (by rw [eQ2, eA, hQm]; omega)
      rw [this, eQ2, eA, hQm, hquo, hrem]
      have hassoc : wide qhi qlo * 2 * 2 ^ m + 2 ^ m + ((2 * rlo + t - d) * 2 ^ m + topm m (wide ahi alo * 2 % 340282366920938463463374607431768211456)) / d = wide qhi qlo * 2 * 2 ^ m + (((2 * rlo + t - d) * 2 ^ m + topm m (wide ahi alo * 2 % 340282366920938463463374607431768211456)) / d + 2 ^ m) := by omega
      rw [hassoc]

theorem spec_DivWide_eq {hi lo d : Int} (hh : Word hi) (hl : Word lo) (hd : Word d) {k : Nat} (hk : 600 ≤ k) :
    spec_DivWide.f k hi lo d = some (if d = 0 then (0, 0, 0) else (wide hi lo / d / 18446744073709551616, wide hi lo / d % 18446744073709551616, wide hi lo % d)) := by
  have hd' := hd
  unfold Word at hd'
  unfold spec_DivWide.f
  by_cases h0 : d = 0
  · rw [if_pos h0, if_pos h0]
  · rw [if_neg h0, if_neg h0]
    obtain ⟨b0, b1⟩ := wide_bd hh hl
    have z0 : Word 0 := by decide
    have zw : wide 0 0 = 0 := by decide
    have hq : wide hi lo / d ≤ wide hi lo := Int.ediv_le_self _ b0
    have := spec_div_loop hd (by omega) 128 k 0 hi lo 0 0 0 (by omega) (by omega) (by decide) hh hl z0 z0 z0 (by omega) (by rw [zw]; simp) (by rw [zw, topm_all]; simp only [Int.zero_mul, Int.zero_add]; omega)
    rw [this, zw, topm_all]
    simp only [Int.zero_mul, Int.zero_add]
end Go.Proofs.Ytbcjhnhkpbcmcaa.Eq
