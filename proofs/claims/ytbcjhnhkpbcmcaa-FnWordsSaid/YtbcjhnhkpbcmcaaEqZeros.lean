/- What both Zeros compute: 128 less the number of bits, for every word pair. -/
import Derived.Test.YtbcjhnhkpbcmcaaPA6
import Derived.Test.YtbcjhnhkpbcmcaaPA6
import Derived.Test.YtbcjhnhkpbcmcaaEqShr
namespace Go.Proofs.Ytbcjhnhkpbcmcaa.Eq
open Go.RowKit Go.Proofs.Ytbcjhnhkpbcmcaa.PA Go.Proofs.Ytbcjhnhkpbcmcaa.Given Go.Proofs.Ytbcjhnhkpbcmcaa.Num Go.Proofs.YtbcjhnhkpbcmcaaW.PrintWords Go.Proofs.YtbcjhnhkpbcmcaaW.PrintLast Go.Proofs.YtbcjhnhkpbcmcaaW.PrintMore
set_option linter.unusedVariables false

theorem clampn_one : clampn 1 = 1 := by decide

/-- How many bits a pair of words has. -/
def wlen (hi lo : Int) : Nat := if hi = 0 then Lib.bitLen lo.toNat else 64 + Lib.bitLen hi.toNat

theorem bitLen_zero : Lib.bitLen 0 = 0 := by decide

theorem bitLen_top (x : Nat) (h : 9223372036854775808 ≤ x) (h' : x < 18446744073709551616) : Lib.bitLen x = 64 := by
  have := Lib.bitLen_shift 63 x (by omega) (by omega)
  rw [this]
  have e : x / 2 ^ 63 = 1 := by omega
  rw [e]; decide

theorem wlen_half {hi lo : Int} (hh : Word hi) (hl : Word lo) (hp : 0 < hi ∨ 0 < lo) :
    wlen hi lo = wlen (wide hi lo / 2 / 18446744073709551616) (wide hi lo / 2 % 18446744073709551616) + 1 := by
  unfold Word at *
  unfold wlen
  by_cases h0 : hi = 0
  · subst h0
    have e1 : wide 0 lo / 2 / 18446744073709551616 = 0 := by unfold wide; omega
    have e2 : wide 0 lo / 2 % 18446744073709551616 = lo / 2 := by unfold wide; omega
    rw [if_pos rfl, e1, if_pos rfl, e2, Lib.bitLen_half lo.toNat (by omega) (by omega), show (lo / 2).toNat = lo.toNat / 2 by omega]
    omega
  · have e1 : wide hi lo / 2 / 18446744073709551616 = hi / 2 := by unfold wide; omega
    rw [if_neg h0, e1, Lib.bitLen_half hi.toNat (by omega) (by omega)]
    by_cases h1 : hi / 2 = 0
    · have e3 : hi = 1 := by omega
      subst e3
      have e2 : wide 1 lo / 2 % 18446744073709551616 = lo / 2 + 9223372036854775808 := by unfold wide; omega
      rw [if_pos h1, e2, bitLen_top (lo / 2 + 9223372036854775808).toNat (by omega) (by omega)]
      decide
    · rw [if_neg h1, show (hi / 2).toNat = hi.toNat / 2 by omega]
      omega

theorem wlen_le {hi lo : Int} (hh : Word hi) (hl : Word lo) : wlen hi lo ≤ 128 := by
  unfold Word at *
  unfold wlen
  have a := Lib.bitLen_le hi.toNat 64 (by omega) (by omega)
  have b := Lib.bitLen_le lo.toNat 64 (by omega) (by omega)
  split <;> omega

theorem spec_zeros_loop (d : Nat) : ∀ (k : Nat) (n hi lo : Int), 260 + d ≤ k → Word hi → Word lo → wlen hi lo = d → (d : Int) ≤ n → n ≤ 128 →
    spec_Zeros.l0 k n hi lo = some (n - d) := by
  induction d with
  | zero =>
    intro k n hi lo hk hh hl hd hn hn'
    obtain ⟨k, rfl⟩ : ∃ m, k = m + 1 := ⟨k - 1, by omega⟩
    have h0 : ¬ (0 < hi ∨ 0 < lo) := fun hp => by have := wlen_half hh hl hp; omega
    simp only [spec_Zeros.l0]
    rw [if_neg (by omega), if_neg (by omega)]
    simp
  | succ d ih =>
    intro k n hi lo hk hh hl hd hn hn'
    obtain ⟨k, rfl⟩ : ∃ m, k = m + 1 := ⟨k - 1, by omega⟩
    have hp : 0 < hi ∨ 0 < lo := by
      by_cases h : 0 < hi ∨ 0 < lo
      · exact h
      · exfalso
        unfold Word at *
        have : hi = 0 := by omega
        have : lo = 0 := by omega
        subst_vars
        unfold wlen at hd
        rw [if_pos rfl, show (0 : Int).toNat = 0 from rfl, bitLen_zero] at hd
        omega
    obtain ⟨b0, b1⟩ : 0 ≤ wide hi lo ∧ wide hi lo < 340282366920938463463374607431768211456 := wide_bd hh hl
    have hs := spec_ShiftRight_eq hh hl (n := 1) (by omega) (k := k) (by omega)
    rw [clampn_one, Int.pow_one] at hs
    have hw := wlen_half hh hl hp
    have hr := ih k (n - 1) (wide hi lo / 2 / 18446744073709551616) (wide hi lo / 2 % 18446744073709551616) (by omega) (by unfold Word; omega) (word_mod _) (by omega) (by omega) (by omega)
    simp only [spec_Zeros.l0]
    rw [hs]
    simp only [Option.bind_some]
    rw [wrap64_id (by omega) (by omega), hr]
    have e : n - 1 - (d : Int) = n - ((d + 1 : Nat) : Int) := by omega
    rw [e]
    split
    · rfl
    · rename_i h
      rw [if_pos (by omega)]

theorem spec_Zeros_eq {hi lo : Int} (hh : Word hi) (hl : Word lo) {k : Nat} (hk : 400 ≤ k) : spec_Zeros.f k hi lo = some (128 - (wlen hi lo : Int)) := by
  have := wlen_le hh hl
  unfold spec_Zeros.f
  exact spec_zeros_loop _ k 128 hi lo (by omega) hh hl rfl (by omega) (by decide)

theorem impl_Zeros_eq {hi lo : Int} (hh : Word hi) (hl : Word lo) : impl_Zeros.f hi lo = some (128 - (wlen hi lo : Int)) := by
  have hl' := hl
  unfold Word at hl'
  have a := Lib.bitLen_le lo.toNat 64 (by omega) (by omega)
  unfold impl_Zeros.f bits_LeadingZeros64.f wlen
  by_cases h : hi = 0
  · rw [if_pos h, if_pos hl, if_pos h]
    simp only [Option.bind_some]
    rw [wrap64_id (by omega) (by omega)]
    congr 1; omega
  · rw [if_neg h, if_pos hh, if_neg h]
    simp only [Option.bind_some]
    congr 1; omega
end Go.Proofs.Ytbcjhnhkpbcmcaa.Eq
