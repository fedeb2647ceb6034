/- Plain facts on 64-bit words and pairs of them (numbers of 128 bits): no program, no memory. -/
import Derived.Laws.BitsLemmas
import Derived.Lib.BitFns
import Derived.RowKit
namespace Go.Proofs.YtokbmgneigdofaaDoor.Num
open Go
set_option linter.unusedVariables false

theorem w64 (n : Int) : IntKind.u64.wrap n = n % 18446744073709551616 := by simp [IntKind.wrap, IntKind.bits, IntKind.signed]
theorem w64_id {n : Int} (h : 0 ≤ n) (h' : n < 18446744073709551616) : IntKind.u64.wrap n = n := by rw [w64]; omega
theorem wraps_u64 (n : Int) (h₀ : 0 ≤ n) (h₁ : n < 2 ^ 64) : IntKind.u64.wrap n = n := by rw [w64]; omega
theorem and_mask (n : Nat) (hn : n ≤ 64) (x : Int) (h0 : 0 ≤ x) (h1 : x < 18446744073709551616) : Go.bits .and .u64 x (2 ^ n - 1) = x % 2 ^ n :=
  bits_mask .u64 64 (by decide) wraps_u64 n hn x h0 h1
theorem and32 {x : Int} (h0 : 0 ≤ x) (h1 : x < 18446744073709551616) : Go.bits .and .u64 x 4294967295 = x % 4294967296 := and_mask 32 (by decide) x h0 h1
theorem tdiv_id {a b : Int} (h : 0 ≤ a) : Int.tdiv a b = a / b := by rw [Int.tdiv_eq_ediv_of_nonneg h]
theorem tmod_id {a b : Int} (h : 0 ≤ a) : Int.tmod a b = a % b := by rw [Int.tmod_eq_emod_of_nonneg h]

/-- A word of 64 bits. -/
def Word (x : Int) : Prop := 0 ≤ x ∧ x < 18446744073709551616
instance (x : Int) : Decidable (Word x) := by unfold Word; infer_instance
theorem wf64 {a : Int} (h : (Lit.int .u64 a).wf = true) : Word a := by
  simp [Lit.wf, IntKind.min, IntKind.max, IntKind.signed, IntKind.bits] at h
  unfold Word; omega
theorem wfi64 {a : Int} (h : (Lit.int .i64 a).wf = true) : -9223372036854775808 ≤ a ∧ a < 9223372036854775808 := by
  simp [Lit.wf, IntKind.min, IntKind.max, IntKind.signed, IntKind.bits] at h
  omega

/-- The number of a pair of words. -/
def wide (hi lo : Int) : Int := hi * 18446744073709551616 + lo
/-- A distance, as far as it counts. -/
def clampn (n : Int) : Nat := if n < 0 then 0 else if 128 < n then 128 else n.toNat
theorem clampn_le (n : Int) : clampn n ≤ 128 := by unfold clampn; split <;> (try split) <;> omega
theorem clampn_neg {n : Int} (h : n < 0) : clampn n = 0 := by unfold clampn; rw [if_pos h]
theorem clampn_big {n : Int} (h : 128 < n) : clampn n = 128 := by unfold clampn; rw [if_neg (by omega), if_pos h]
theorem clampn_mid {n : Int} (h : 0 ≤ n) (h' : n ≤ 128) : clampn n = n.toNat := by unfold clampn; rw [if_neg (by omega), if_neg (by omega)]

theorem pow_pos2 (m : Nat) : (0 : Int) < 2 ^ m := Int.pow_pos (by decide)
theorem pow_split {m : Nat} (h : m ≤ 64) : (2 : Int) ^ m * 2 ^ (64 - m) = 18446744073709551616 := by
  rw [← Int.pow_add, show m + (64 - m) = 64 by omega]; decide

theorem shl_low {hi lo : Int} (hh : Word hi) (hl : Word lo) {m : Nat} (hm : m ≤ 64) :
    Go.bits .or .u64 (IntKind.u64.wrap (hi * 2 ^ m)) (lo / 2 ^ (64 - m)) = wide hi lo * 2 ^ m / 18446744073709551616 % 18446744073709551616 := by
  unfold Word at *
  have hpq := pow_split hm
  have hp := pow_pos2 m
  have hq := pow_pos2 (64 - m)
  have hbj := bits_join .u64 64 (by decide) wraps_u64 m
  rw [w64]
  unfold wide
  generalize hP : (2 : Int) ^ m = p at *
  generalize hQ : (2 : Int) ^ (64 - m) = q at *
  have e1 : hi * p % 18446744073709551616 = p * (hi % q) := by rw [← hpq, Int.mul_comm hi p, Int.mul_emod_mul_of_pos _ _ hp]
  have e2 : (hi * 18446744073709551616 + lo) * p / 18446744073709551616 = hi * p + lo / q := by
    have : (hi * 18446744073709551616 + lo) * p = p * lo + (hi * p) * 18446744073709551616 := by rw [Int.add_mul]; rw [Int.mul_right_comm, Int.add_comm, Int.mul_comm lo p]
    rw [this, Int.add_mul_ediv_right _ _ (by decide), ← hpq, Int.mul_ediv_mul_of_pos _ _ hp, Int.add_comm]
  have y1 : lo / q < p := Int.ediv_lt_of_lt_mul hq (by rw [hpq]; omega)
  have y0 : 0 ≤ lo / q := Int.ediv_nonneg (by omega) (by omega)
  have x0 : 0 ≤ hi % q := Int.emod_nonneg _ (by omega)
  have x1 : hi % q < q := Int.emod_lt_of_pos _ hq
  have xb : p * (hi % q) ≤ p * (q - 1) := Int.mul_le_mul_of_nonneg_left (by omega) (by omega)
  have xc : p * (q - 1) = 18446744073709551616 - p := by rw [Int.mul_sub, hpq, Int.mul_one]
  have xn : 0 ≤ p * (hi % q) := Int.mul_nonneg (by omega) x0
  rw [e1, e2, hbj _ _ xn (by rw [Int.mul_emod_right]) (by omega) y0 y1 (by omega)]
  have e3 : (hi * p + lo / q) % 18446744073709551616 = (hi * p % 18446744073709551616 + lo / q) % 18446744073709551616 := by omega
  rw [e3, e1]
  omega

theorem shl_lo {hi lo : Int} (m : Nat) : IntKind.u64.wrap (lo * 2 ^ m) = wide hi lo * 2 ^ m % 18446744073709551616 := by
  rw [w64]; unfold wide
  rw [Int.add_mul, Int.mul_right_comm, Int.add_comm, Int.add_mul_emod_self_right]

theorem shl_high {hi lo : Int} {m : Nat} (h : 64 ≤ m) :
    IntKind.u64.wrap (lo * 2 ^ (m - 64)) = wide hi lo * 2 ^ m / 18446744073709551616 % 18446744073709551616 ∧ wide hi lo * 2 ^ m % 18446744073709551616 = 0 := by
  rw [w64]; unfold wide
  have e : (2 : Int) ^ m = 2 ^ (m - 64) * 18446744073709551616 := by
    rw [show (18446744073709551616 : Int) = 2 ^ 64 from by decide, ← Int.pow_add, Nat.sub_add_cancel h]
  rw [e, ← Int.mul_assoc]
  refine ⟨?_, Int.mul_emod_left _ _⟩
  rw [Int.mul_ediv_cancel _ (by decide), Int.add_mul, Int.mul_right_comm, Int.add_comm, Int.add_mul_emod_self_right]

theorem wide_bd {hi lo : Int} (hh : Word hi) (hl : Word lo) : 0 ≤ wide hi lo ∧ wide hi lo < 340282366920938463463374607431768211456 := by unfold Word wide at *; omega
theorem wide_hi {hi lo : Int} (hl : Word lo) : wide hi lo / 18446744073709551616 = hi := by unfold Word wide at *; omega
theorem wide_lo {hi lo : Int} (hl : Word lo) : wide hi lo % 18446744073709551616 = lo := by unfold Word wide at *; omega
theorem wide_inj {a b c d : Int} (hb : Word b) (hd : Word d) (h : wide a b = wide c d) : a = c ∧ b = d := by unfold Word wide at *; omega
theorem wide_div_mod (x : Int) : wide (x / 18446744073709551616) (x % 18446744073709551616) = x := by unfold wide; omega
theorem word_mod (x : Int) : Word (x % 18446744073709551616) := by unfold Word; omega

theorem shr_low {hi lo : Int} (hh : Word hi) (hl : Word lo) {m : Nat} (hm : m ≤ 64) :
    Go.bits .or .u64 (lo / 2 ^ m) (IntKind.u64.wrap (hi * 2 ^ (64 - m))) = wide hi lo / 2 ^ m % 18446744073709551616 ∧ hi / 2 ^ m = wide hi lo / 2 ^ m / 18446744073709551616 := by
  unfold Word at *
  have hpq := pow_split hm
  have hp := pow_pos2 m
  have hq := pow_pos2 (64 - m)
  have hbj := bits_join .u64 64 (by decide) wraps_u64 (64 - m)
  have hcomm : ∀ x y : Int, Go.bits .or .u64 x y = Go.bits .or .u64 y x := by
    intro x y; simp only [Go.bits]; rw [BitVec.or_comm]
  rw [w64, hcomm]
  unfold wide
  generalize hP : (2 : Int) ^ m = p at *
  generalize hQ : (2 : Int) ^ (64 - m) = q at *
  have hqp : q * p = 18446744073709551616 := by rw [Int.mul_comm]; exact hpq
  have e1 : hi * q % 18446744073709551616 = q * (hi % p) := by rw [← hqp, Int.mul_comm hi q, Int.mul_emod_mul_of_pos _ _ hq]
  have e2 : (hi * 18446744073709551616 + lo) / p = hi * q + lo / p := by
    have : hi * 18446744073709551616 + lo = lo + (hi * q) * p := by rw [Int.mul_assoc, hqp, Int.add_comm]
    rw [this, Int.add_mul_ediv_right _ _ (by omega), Int.add_comm]
  have y1 : lo / p < q := Int.ediv_lt_of_lt_mul hp (by rw [hqp]; omega)
  have y0 : 0 ≤ lo / p := Int.ediv_nonneg (by omega) (by omega)
  have x0 : 0 ≤ hi % p := Int.emod_nonneg _ (by omega)
  have x1 : hi % p < p := Int.emod_lt_of_pos _ hp
  have xb : q * (hi % p) ≤ q * (p - 1) := Int.mul_le_mul_of_nonneg_left (by omega) (by omega)
  have xc : q * (p - 1) = 18446744073709551616 - q := by rw [Int.mul_sub, hqp, Int.mul_one]
  have xn : 0 ≤ q * (hi % p) := Int.mul_nonneg (by omega) x0
  refine ⟨?_, ?_⟩
  · rw [e1, e2, hbj _ _ xn (by rw [Int.mul_emod_right]) (by omega) y0 y1 (by omega)]
    have e3 : (hi * q + lo / p) % 18446744073709551616 = (hi * q % 18446744073709551616 + lo / p) % 18446744073709551616 := by omega
    rw [e3, e1]
    omega
  · rw [e2, ← hqp, ← Int.ediv_ediv_of_nonneg (by omega)]
    have : (hi * q + lo / p) / q = hi := by
      rw [Int.add_comm, Int.add_mul_ediv_right _ _ (by omega), Int.ediv_eq_zero_of_lt y0 y1]; omega
    rw [this]

theorem shr_high {hi lo : Int} (hh : Word hi) (hl : Word lo) {m : Nat} (h : 64 ≤ m) :
    hi / 2 ^ (m - 64) = wide hi lo / 2 ^ m % 18446744073709551616 ∧ wide hi lo / 2 ^ m / 18446744073709551616 = 0 := by
  have e : (2 : Int) ^ m = 18446744073709551616 * 2 ^ (m - 64) := by
    rw [show (18446744073709551616 : Int) = 2 ^ 64 from by decide, ← Int.pow_add, show 64 + (m - 64) = m by omega]
  have hp := pow_pos2 (m - 64)
  have e2 : wide hi lo / 2 ^ m = hi / 2 ^ (m - 64) := by
    rw [e, ← Int.ediv_ediv_of_nonneg (by decide), wide_hi hl]
  have b0 : 0 ≤ hi / 2 ^ (m - 64) := Int.ediv_nonneg hh.1 (by omega)
  have b1 : hi / 2 ^ (m - 64) ≤ hi := Int.ediv_le_self _ hh.1
  rw [e2]
  unfold Word at hh
  omega

/-- Shifted to the right and back: the same just where nothing was lost. -/
theorem back_iff {x : Int} (h0 : 0 ≤ x) (h1 : x < 340282366920938463463374607431768211456) (m : Nat) :
    (x / 2 ^ m * 2 ^ m % 340282366920938463463374607431768211456 = x) ↔ x % 2 ^ m = 0 := by
  have hp := pow_pos2 m
  have e := Int.mul_ediv_add_emod x (2 ^ m)
  have r0 := Int.emod_nonneg x (show (2 : Int) ^ m ≠ 0 by omega)
  have d0 : 0 ≤ x / 2 ^ m := Int.ediv_nonneg h0 (by omega)
  have e' : x / 2 ^ m * 2 ^ m = x - x % 2 ^ m := by rw [Int.mul_comm]; omega
  rw [e']
  have : 0 ≤ x - x % 2 ^ m := by rw [← e']; exact Int.mul_nonneg d0 (by omega)
  omega

/-- What the comparison behind the shift tells. -/
theorem back_neq {hi lo : Int} (hh : Word hi) (hl : Word lo) (m : Nat) :
    (wide hi lo / 2 ^ m * 2 ^ m / 18446744073709551616 % 18446744073709551616 = hi ∧ wide hi lo / 2 ^ m * 2 ^ m % 18446744073709551616 = lo) ↔ wide hi lo % 2 ^ m = 0 := by
  obtain ⟨b0, b1⟩ := wide_bd hh hl
  rw [← back_iff b0 b1 m]
  have h1 := wide_hi (hi := hi) hl
  have h2 := wide_lo (hi := hi) hl
  have hb0 : 0 ≤ wide hi lo / 2 ^ m * 2 ^ m := Int.mul_nonneg (Int.ediv_nonneg b0 (by have := pow_pos2 m; omega)) (by have := pow_pos2 m; omega)
  have hb1 : wide hi lo / 2 ^ m * 2 ^ m ≤ wide hi lo := Int.ediv_mul_le _ (by have := pow_pos2 m; omega)
  generalize wide hi lo / 2 ^ m * 2 ^ m = y at *
  generalize wide hi lo = x at *
  omega
end Go.Proofs.YtokbmgneigdofaaDoor.Num
