/- What both MulWide compute: the product of two words, for all words. -/
import Derived.Test.YtbcjhnhkpbcmcaaPA4
import Derived.Test.YtbcjhnhkpbcmcaaPA4
import Derived.Test.YtbcjhnhkpbcmcaaEqBase
namespace Go.Proofs.Ytbcjhnhkpbcmcaa.Eq
open Go.RowKit Go.Proofs.Ytbcjhnhkpbcmcaa.PA Go.Proofs.Ytbcjhnhkpbcmcaa.Given Go.Proofs.Ytbcjhnhkpbcmcaa.Num Go.Proofs.YtbcjhnhkpbcmcaaW.PrintWords Go.Proofs.YtbcjhnhkpbcmcaaW.PrintLast Go.Proofs.YtbcjhnhkpbcmcaaW.PrintMore
set_option linter.unusedVariables false

theorem mul_lt32 {x y : Int} (hx : 0 ≤ x) (hx' : x < 4294967296) (hy : 0 ≤ y) (hy' : y < 4294967296) : 0 ≤ x * y ∧ x * y ≤ 18446744065119617025 := by
  refine ⟨Int.mul_nonneg hx hy, ?_⟩
  have h := Int.mul_le_mul (show x ≤ 4294967295 by omega) (show y ≤ 4294967295 by omega) hy (by decide)
  simpa using h

theorem prod_split (a b : Int) : a * b = (a / 4294967296) * (b / 4294967296) * 18446744073709551616 + ((a / 4294967296) * (b % 4294967296) + (a % 4294967296) * (b / 4294967296)) * 4294967296 + (a % 4294967296) * (b % 4294967296) := by
  have ha := Int.mul_ediv_add_emod a 4294967296
  have hb := Int.mul_ediv_add_emod b 4294967296
  generalize a / 4294967296 = ah at *
  generalize a % 4294967296 = al at *
  generalize b / 4294967296 = bh at *
  generalize b % 4294967296 = bl at *
  subst ha; subst hb
  grind

theorem mul64_eq {a b : Int} (ha : Word a) (hb : Word b) : bits_Mul64.f a b = some (a * b / 18446744073709551616, a * b % 18446744073709551616) := by
  obtain ⟨h0, h1⟩ := ha
  obtain ⟨k0, k1⟩ := hb
  have hs := prod_split a b
  have b1 := mul_lt32 (x := a / 4294967296) (y := b / 4294967296) (by omega) (by omega) (by omega) (by omega)
  have b2 := mul_lt32 (x := a / 4294967296) (y := b % 4294967296) (by omega) (by omega) (by omega) (by omega)
  have b3 := mul_lt32 (x := a % 4294967296) (y := b / 4294967296) (by omega) (by omega) (by omega) (by omega)
  have b4 := mul_lt32 (x := a % 4294967296) (y := b % 4294967296) (by omega) (by omega) (by omega) (by omega)
  unfold bits_Mul64.f
  rw [and32 h0 h1, and32 k0 k1]
  generalize (a / 4294967296) * (b / 4294967296) = p at *
  generalize (a / 4294967296) * (b % 4294967296) = q at *
  generalize (a % 4294967296) * (b / 4294967296) = r at *
  generalize (a % 4294967296) * (b % 4294967296) = s at *
  generalize a * b = m at *
  simp only [w64]
  rw [and32 (by omega) (by omega)]
  congr 2
  omega

theorem spec_MulWide_eq {a b : Int} (ha : Word a) (hb : Word b) : spec_MulWide.f a b = some (a * b / 18446744073709551616, a * b % 18446744073709551616) := by
  obtain ⟨h0, h1⟩ := ha
  obtain ⟨k0, k1⟩ := hb
  have hs := prod_split a b
  have b1 := mul_lt32 (x := a / 4294967296) (y := b / 4294967296) (by omega) (by omega) (by omega) (by omega)
  have b2 := mul_lt32 (x := a / 4294967296) (y := b % 4294967296) (by omega) (by omega) (by omega) (by omega)
  have b3 := mul_lt32 (x := a % 4294967296) (y := b / 4294967296) (by omega) (by omega) (by omega) (by omega)
  have b4 := mul_lt32 (x := a % 4294967296) (y := b % 4294967296) (by omega) (by omega) (by omega) (by omega)
  unfold spec_MulWide.f
  have e1 : IntKind.u64.wrap (Int.tdiv a 4294967296) = a / 4294967296 := by rw [tdiv_id h0, w64]; omega
  have e2 : IntKind.u64.wrap (Int.tdiv b 4294967296) = b / 4294967296 := by rw [tdiv_id k0, w64]; omega
  rw [e1, e2, tmod_id h0, tmod_id k0]
  generalize (a / 4294967296) * (b / 4294967296) = p at *
  generalize (a / 4294967296) * (b % 4294967296) = q at *
  generalize (a % 4294967296) * (b / 4294967296) = r at *
  generalize (a % 4294967296) * (b % 4294967296) = s at *
  generalize a * b = m at *
  have n1 : ∀ x : Int, 0 ≤ IntKind.u64.wrap x := fun x => by rw [w64]; omega
  simp only [tdiv_id (n1 _), tmod_id (n1 _)]
  simp only [w64]
  congr 2 <;> omega

theorem impl_MulWide_eq {a b : Int} (ha : Word a) (hb : Word b) : impl_MulWide.f a b = some (a * b / 18446744073709551616, a * b % 18446744073709551616) := by
  unfold impl_MulWide.f
  rw [mul64_eq ha hb]; rfl

theorem mul_words {a b : Int} (ha : Word a) (hb : Word b) : 0 ≤ a * b ∧ a * b ≤ 340282366920938463426481119284349108225 ∧ Word (a * b / 18446744073709551616) := by
  unfold Word at *
  have h1 := Int.mul_nonneg ha.1 hb.1
  have h2 := Int.mul_le_mul (show a ≤ 18446744073709551615 by omega) (show b ≤ 18446744073709551615 by omega) hb.1 (by decide)
  have h3 : (18446744073709551615 : Int) * 18446744073709551615 = 340282366920938463426481119284349108225 := by decide
  omega
end Go.Proofs.Ytbcjhnhkpbcmcaa.Eq
