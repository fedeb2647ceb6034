/- The plain law FnWords: what the row's function computes is true of every input. -/
import Derived.Test.YtbcjhnhkpbcmcaaPA13
import Derived.Test.YtbcjhnhkpbcmcaaDraw
import Derived.Test.YtbcjhnhkpbcmcaaEqAdd
import Derived.Test.YtbcjhnhkpbcmcaaEqSub
import Derived.Test.YtbcjhnhkpbcmcaaEqMul
import Derived.Test.YtbcjhnhkpbcmcaaEqDivI
import Derived.Test.YtbcjhnhkpbcmcaaEqSqrt
import Derived.Test.YtbcjhnhkpbcmcaaEqZeros
import Derived.Test.YtbcjhnhkpbcmcaaEqShl
import Derived.Test.YtbcjhnhkpbcmcaaEqShr
namespace Go.Proofs.Ytbcjhnhkpbcmcaa.Pure
open Go.Proofs.Ytbcjhnhkpbcmcaa.Eq Go.Proofs.Ytbcjhnhkpbcmcaa.Draw Go.RowKit Go.Proofs.Ytbcjhnhkpbcmcaa.PA Go.Proofs.Ytbcjhnhkpbcmcaa.Given Go.Proofs.Ytbcjhnhkpbcmcaa.Num Go.Proofs.YtbcjhnhkpbcmcaaW.PrintWords Go.Proofs.YtbcjhnhkpbcmcaaW.PrintLast Go.Proofs.YtbcjhnhkpbcmcaaW.PrintMore
set_option linter.unusedVariables false

theorem wide_ok {l : List Int} (h : Bytes l) {p : Int} (p0 : 0 ≤ p) (p1 : p ≤ 500000) {k : Nat} (hk : 300 ≤ k) :
    ∃ a b q, spec_l1Wide.f k l p = some (a, b, q) ∧ Word a ∧ Word b ∧ 0 ≤ q ∧ q ≤ p + 60 := by
  unfold spec_l1Wide.f
  obtain ⟨x, hx, x0, x1⟩ := take_ok h (p := p) (n := 6) p0 (by omega) (by decide) (k := k) (by omega)
  obtain ⟨a, q, ha, wa, q0, q1⟩ := bits_ok h (p := p + 1) (n := 64) (by omega) (by omega) (by decide) (by decide) hk
  obtain ⟨b, z, hb, wb, z0, z1⟩ := bits_ok h (p := q) (n := 64) (by omega) (by omega) (by decide) (by decide) hk
  rw [hx, Option.bind_some]
  simp only []
  rw [ha, Option.bind_some]
  simp only []
  rw [hb, Option.bind_some]
  unfold Word at wa
  have w16 : Word (Int.tmod a 16) := by rw [tmod_id wa.1]; exact ⟨by omega, by omega⟩
  simp only []
  split
  · rw [if_neg (by omega)]; exact ⟨0, b, z, rfl, ⟨by decide, by decide⟩, wb, z0, by omega⟩
  · split
    · exact ⟨_, b, z, rfl, w16, wb, z0, by omega⟩
    · exact ⟨a, b, z, rfl, wa, wb, z0, by omega⟩

theorem drawMul {l : List Int} (h : Bytes l) {k : Nat} (hk : 300 ≤ k) : ∃ a b, spec_DrawMulWide.f k l = some (a, b) ∧ Word a ∧ Word b := by
  unfold spec_DrawMulWide.f
  obtain ⟨a, q, ha, wa, q0, q1⟩ := bits_ok h (p := 0) (n := 64) (by omega) (by omega) (by decide) (by decide) hk
  obtain ⟨b, z, hb, wb, z0, z1⟩ := bits_ok h (p := q) (n := 64) (by omega) (by omega) (by decide) (by decide) hk
  rw [ha, Option.bind_some]
  simp only []
  rw [hb, Option.bind_some]
  exact ⟨a, b, rfl, wa, wb⟩

theorem drawAdd {l : List Int} (h : Bytes l) {k : Nat} (hk : 300 ≤ k) : ∃ a b c d, spec_DrawAddWide.f k l = some (a, b, c, d) ∧ Word a ∧ Word b ∧ Word c ∧ Word d := by
  unfold spec_DrawAddWide.f
  obtain ⟨a, b, q, hab, wa, wb, q0, q1⟩ := wide_ok h (p := 0) (by omega) (by omega) hk
  obtain ⟨c, d, z, hcd, wc, wd, z0, z1⟩ := wide_ok h (p := q) (by omega) (by omega) hk
  obtain ⟨x, hx, x0, x1⟩ := take_ok h (p := z) (n := 6) z0 (by omega) (by decide) (k := k) (by omega)
  rw [hab, Option.bind_some]
  simp only []
  rw [hcd, Option.bind_some]
  simp only []
  rw [hx, Option.bind_some]
  simp only []
  repeat' split
  · exact ⟨_, _, _, _, rfl, wa, wb, wa, wb⟩
  · exact ⟨_, _, _, _, rfl, wa, wb, wa, wd⟩
  · exact ⟨_, _, _, _, rfl, wa, wb, wc, wd⟩

theorem drawDiv {l : List Int} (h : Bytes l) {k : Nat} (hk : 300 ≤ k) : ∃ a b d, spec_DrawDivWide.f k l = some (a, b, d) ∧ Word a ∧ Word b ∧ Word d := by
  unfold spec_DrawDivWide.f
  obtain ⟨a, b, q, hab, wa, wb, q0, q1⟩ := wide_ok h (p := 0) (by omega) (by omega) hk
  obtain ⟨d, z, hd, wd, z0, z1⟩ := bits_ok h (p := q) (n := 64) (by omega) (by omega) (by decide) (by decide) hk
  obtain ⟨x, hx, x0, x1⟩ := take_ok h (p := z) (n := 8) z0 (by omega) (by decide) (k := k) (by omega)
  rw [hab, Option.bind_some]
  simp only []
  rw [hd, Option.bind_some]
  simp only []
  rw [hx, Option.bind_some]
  simp only []
  unfold Word at wd
  have w8 : Word (Int.tmod d 8) := by rw [tmod_id wd.1]; exact ⟨by omega, by omega⟩
  split
  · exact ⟨_, _, _, rfl, wa, wb, w8⟩
  · exact ⟨_, _, _, rfl, wa, wb, wd⟩

theorem drawSqrt {l : List Int} (h : Bytes l) {k : Nat} (hk : 300 ≤ k) : ∃ a b, spec_DrawSqrtWide.f k l = some (a, b) ∧ Word a ∧ Word b := by
  unfold spec_DrawSqrtWide.f
  obtain ⟨a, b, q, hab, wa, wb, q0, q1⟩ := wide_ok h (p := 0) (by omega) (by omega) hk
  obtain ⟨x, hx, x0, x1⟩ := take_ok h (p := q) (n := 6) q0 (by omega) (by decide) (k := k) (by omega)
  rw [hab, Option.bind_some]
  simp only []
  rw [hx, Option.bind_some, spec_MulWide_eq wb wb, Option.bind_some]
  simp only []
  have hm := (mul_words wb wb).2.2
  have hl := word_mod (b * b)
  repeat' split
  · exact ⟨_, _, rfl, hm, hl⟩
  · exact ⟨_, _, rfl, hm, by rw [w64]; exact word_mod _⟩
  · exact ⟨_, _, rfl, wa, wb⟩
  · exact ⟨_, _, rfl, wa, wb⟩

theorem drawZeros {l : List Int} (h : Bytes l) {k : Nat} (hk : 300 ≤ k) : ∃ a b, spec_DrawZeros.f k l = some (a, b) ∧ Word a ∧ Word b := by
  unfold spec_DrawZeros.f
  obtain ⟨a, b, q, hab, wa, wb, q0, q1⟩ := wide_ok h (p := 0) (by omega) (by omega) hk
  obtain ⟨x, hx, x0, x1⟩ := take_ok h (p := q) (n := 160) q0 (by omega) (by decide) (k := k) (by omega)
  rw [hab, Option.bind_some]
  simp only []
  rw [hx, Option.bind_some]
  simp only []
  rw [wrap64_id (by omega) (by omega), spec_ShiftRight_eq wa wb (n := x - 30) ⟨by omega, by omega⟩ (by omega), Option.bind_some]
  have hw := wide_bd wa wb
  have h0 : 0 ≤ wide a b / 2 ^ clampn (x - 30) := Int.ediv_nonneg hw.1 (Int.le_of_lt (pow_pos2 _))
  have h1 : wide a b / 2 ^ clampn (x - 30) ≤ wide a b := Int.ediv_le_self _ hw.1
  exact ⟨_, _, rfl, ⟨by omega, by omega⟩, word_mod _⟩

theorem wide_lt {hi lo : Int} (hh : Word hi) (hl : Word lo) : wide hi lo < 2 ^ wlen hi lo := by
  unfold Word at hh hl
  unfold wlen wide
  have cast : ∀ n : Nat, ((2 ^ n : Nat) : Int) = (2 : Int) ^ n := fun n => by rw [Int.natCast_pow]; rfl
  by_cases h0 : hi = 0
  · subst h0
    rw [if_pos rfl]
    by_cases h1 : lo = 0
    · subst h1; decide
    · have := (bitLen_bounds lo.toNat (by omega) (by omega)).2.1
      have := cast (Lib.bitLen lo.toNat)
      omega
  · rw [if_neg h0]
    have := (bitLen_bounds hi.toNat (by omega) (by omega)).2.1
    have := cast (Lib.bitLen hi.toNat)
    rw [Int.pow_add]
    omega

theorem words_j5 {l : List Int} (h : Bytes l) {k : Nat} (hk : 500 ≤ k) : laws_FnWords.j5 k l false = some true := by
  obtain ⟨k, rfl⟩ : ∃ m, k = m + 1 := ⟨k - 1, by omega⟩
  rw [laws_FnWords.j5, if_neg (by decide)]
  obtain ⟨a, b, hab, wa, wb⟩ := drawZeros h (k := k) (by omega)
  rw [hab, Option.bind_some]
  simp only []
  have hwl := wlen_le wa wb
  have hlt := wide_lt wa wb
  have hwb := wide_bd wa wb
  rw [impl_Zeros_eq wa wb, Option.bind_some, impl_ShiftLeft_eq wa wb, Option.bind_some]
  have hc : clampn (128 - (wlen a b : Int)) = 128 - wlen a b := by rw [clampn_mid (by omega) (by omega)]; omega
  rw [hc]
  simp only []
  have hX : wide a b * 2 ^ (128 - wlen a b) < 340282366920938463463374607431768211456 := by
    calc wide a b * 2 ^ (128 - wlen a b) < 2 ^ wlen a b * 2 ^ (128 - wlen a b) := Int.mul_lt_mul_of_pos_right hlt (pow_pos2 _)
      _ = 2 ^ 128 := by rw [← Int.pow_add]; congr 1; omega
      _ = 340282366920938463463374607431768211456 := by decide
  have hX0 : 0 ≤ wide a b * 2 ^ (128 - wlen a b) := Int.mul_nonneg hwb.1 (Int.le_of_lt (pow_pos2 _))
  rw [impl_ShiftRight_eq (word_mod _) (word_mod _), Option.bind_some, hc]
  have e : wide (wide a b * 2 ^ (128 - wlen a b) / 18446744073709551616 % 18446744073709551616) (wide a b * 2 ^ (128 - wlen a b) % 18446744073709551616) = wide a b * 2 ^ (128 - wlen a b) := by
    have := wide_div_mod (wide a b * 2 ^ (128 - wlen a b))
    rw [Int.emod_eq_of_lt (a := wide a b * 2 ^ (128 - wlen a b) / 18446744073709551616) (by omega) (by omega)]
    exact this
  rw [e, Int.mul_ediv_cancel _ (Int.ne_of_gt (pow_pos2 _)), Int.mul_emod_left, wide_hi wb, wide_lo wb]
  simp only [beq_self_eq_true, Bool.and_self, if_true, ne_eq, not_true_eq_false, decide_false]
  rw [if_neg (by decide), spec_Zeros_eq wa wb (by omega), Option.bind_some]
  simp

theorem words_j4 {l : List Int} (h : Bytes l) {k : Nat} (hk : 600 ≤ k) : laws_FnWords.j4 k l = some true := by
  obtain ⟨k, rfl⟩ : ∃ m, k = m + 1 := ⟨k - 1, by omega⟩
  rw [laws_FnWords.j4]
  obtain ⟨a, b, hab, wa, wb⟩ := drawSqrt h (k := k) (by omega)
  rw [hab, Option.bind_some]
  simp only []
  obtain ⟨s, r, _, h1, h2⟩ := sqrt_same wa wb (k := k) (by omega)
  rw [h1, h2, Option.bind_some, Option.bind_some]
  simp only [if_true, bne_self_eq_false]
  exact words_j5 h (by omega)

theorem words_j3 {l : List Int} (h : Bytes l) {hi lo d : Int} (hh : Word hi) (hl : Word lo) (hd : Word d) (h0 : 0 < d) {k : Nat} (hk : 700 ≤ k) :
    laws_FnWords.j3 k l (wide hi lo % d) d (wide hi lo / d / 18446744073709551616 == 0) (wide hi lo / d / 18446744073709551616) (wide hi lo / d % 18446744073709551616) hi lo = some true := by
  obtain ⟨k, rfl⟩ : ∃ m, k = m + 1 := ⟨k - 1, by omega⟩
  rw [laws_FnWords.j3]
  by_cases hq : wide hi lo / d / 18446744073709551616 = 0
  · have hwb := wide_bd hh hl
    have q0 : 0 ≤ wide hi lo / d := Int.ediv_nonneg hwb.1 (Int.le_of_lt h0)
    have hqd : wide hi lo / d % 18446744073709551616 = wide hi lo / d := by omega
    have r0 := Int.emod_nonneg (wide hi lo) (Int.ne_of_gt h0)
    have r1 := Int.emod_lt_of_pos (wide hi lo) h0
    have hdm := Int.mul_ediv_add_emod (wide hi lo) d
    have wq : Word (wide hi lo / d) := ⟨q0, by omega⟩
    have hd' := hd
    unfold Word at hd'
    have wr : Word (wide hi lo % d) := ⟨r0, by omega⟩
    rw [if_pos (by simpa using hq), hqd, impl_MulWide_eq wq hd, Option.bind_some]
    simp only []
    have hm := mul_words wq hd
    rw [impl_AddWide_eq hm.2.2 (word_mod _) ⟨by decide, by decide⟩ wr, Option.bind_some]
    simp only []
    rw [Int.mul_comm] at hdm
    have hhi := wide_hi (hi := hi) hl
    have hlo := wide_lo (hi := hi) hl
    generalize wide hi lo / d * d = P at *
    generalize wide hi lo % d = r at *
    generalize wide hi lo = X at *
    have c1 : ((P / 18446744073709551616 + 0 + (P % 18446744073709551616 + r) / 18446744073709551616) / 18446744073709551616 == 1) = false := by
      rw [beq_eq_false_iff_ne]; omega
    have c2 : (P / 18446744073709551616 + 0 + (P % 18446744073709551616 + r) / 18446744073709551616) % 18446744073709551616 = hi := by omega
    have c3 : (P % 18446744073709551616 + r) % 18446744073709551616 = lo := by omega
    rw [c1, c2, c3, if_neg (by decide), if_neg (by simp)]
    exact words_j4 h (by omega)
  · rw [if_neg (by simpa using hq)]; exact words_j4 h (by omega)

theorem words_j1 {l : List Int} (h : Bytes l) {k : Nat} (hk : 800 ≤ k) : laws_FnWords.j1 k l false = some true := by
  obtain ⟨k, rfl⟩ : ∃ m, k = m + 2 := ⟨k - 2, by omega⟩
  rw [laws_FnWords.j1, if_neg (by decide)]
  obtain ⟨hi, lo, d, hd, w1, w2, w3⟩ := drawDiv h (k := k + 1) (by omega)
  rw [hd, Option.bind_some]
  simp only []
  rw [impl_DivWide_eq w1 w2 w3 (by omega), Option.bind_some]
  have w3' := w3
  unfold Word at w3'
  by_cases h0 : d = 0
  · subst h0
    simp only [if_true]
    rw [if_neg (by decide), laws_FnWords.j2, if_neg (by decide), if_neg (by decide)]
    obtain ⟨k, rfl⟩ : ∃ m, k = m + 1 := ⟨k - 1, by omega⟩
    rw [laws_FnWords.j3, if_neg (by decide)]
    exact words_j4 h (by omega)
  · have hp : 0 < d := by omega
    have r1 := Int.emod_lt_of_pos (wide hi lo) hp
    simp only [if_neg h0]
    rw [if_pos hp, decide_eq_false (by omega), laws_FnWords.j2, if_neg (by decide), if_pos hp]
    exact words_j3 h w1 w2 w3 hp (by omega)

theorem words_j0 {l : List Int} (h : Bytes l) {k : Nat} (hk : 900 ≤ k) : laws_FnWords.j0 k l false = some true := by
  obtain ⟨k, rfl⟩ : ∃ m, k = m + 1 := ⟨k - 1, by omega⟩
  rw [laws_FnWords.j0, if_neg (by decide)]
  obtain ⟨a, b, c, d, hd, wa, wb, wc, wd⟩ := drawAdd h (k := k) (by omega)
  rw [hd, Option.bind_some]
  simp only []
  rw [impl_AddWide_eq wa wb wc wd, spec_AddWide_eq wa wb wc wd, Option.bind_some, Option.bind_some]
  simp only []
  rw [impl_SubWide_eq (word_mod _) (word_mod _) wc wd, Option.bind_some]
  have e2 : ((b + d) % 18446744073709551616 - d) % 18446744073709551616 = b := by unfold Word at *; omega
  have e1 : ((a + c + (b + d) / 18446744073709551616) % 18446744073709551616 - c - (if (b + d) % 18446744073709551616 < d then 1 else 0)) % 18446744073709551616 = a := by
    unfold Word at *
    split <;> omega
  have e3 : decide (wide ((a + c + (b + d) / 18446744073709551616) % 18446744073709551616) ((b + d) % 18446744073709551616) < wide c d) = ((a + c + (b + d) / 18446744073709551616) / 18446744073709551616 == 1) := by
    unfold Word at *
    by_cases h : (a + c + (b + d) / 18446744073709551616) / 18446744073709551616 = 1
    · rw [beq_iff_eq.mpr h]; apply decide_eq_true; unfold wide; omega
    · rw [beq_eq_false_iff_ne.mpr h]; apply decide_eq_false; unfold wide; omega
  rw [e1, e2, e3]
  simp only [beq_self_eq_true, bne_self_eq_false, Bool.not_true, Bool.or_self, Bool.false_eq_true, if_false]
  exact words_j1 h (by omega)

theorem FnWords : ∀ (l0 : List Int), l0.length * 1 ≤ 140737488351232 → (∀ x ∈ l0, (Lit.int .u8 x).wf = true) → ∃ k, laws_FnWords.f k l0 = some true := by
  intro l h0 b0
  have h := bytes_of h0 b0
  refine ⟨1000, ?_⟩
  unfold laws_FnWords.f
  split
  · rfl
  obtain ⟨a, b, hab, wa, wb⟩ := drawMul h (k := 1000) (by decide)
  rw [hab, Option.bind_some]
  simp only []
  have hm := mul_words wa wb
  have wb' := wb
  have wa' := wa
  unfold Word at wb' wa'
  rw [impl_MulWide_eq wa wb, Option.bind_some]
  simp only []
  rw [impl_DivWide_eq hm.2.2 (word_mod _) wb (by decide), Option.bind_some, wide_div_mod, spec_MulWide_eq wa wb, Option.bind_some]
  simp only [beq_self_eq_true, Bool.not_true, Bool.or_self, Bool.false_eq_true, if_false]
  by_cases hb : b > 0
  · have hb0 : b ≠ 0 := by omega
    rw [if_pos hb]
    simp only [if_neg hb0]
    rw [Int.mul_ediv_cancel _ hb0, Int.mul_emod_left, Int.ediv_eq_zero_of_lt wa'.1 wa'.2, Int.emod_eq_of_lt wa'.1 wa'.2]
    simp only [beq_self_eq_true, bne_self_eq_false, Bool.not_true, Bool.or_self, Bool.false_eq_true, if_false]
    exact words_j0 h (by decide)
  · rw [if_neg hb]
    exact words_j0 h (by decide)
end Go.Proofs.Ytbcjhnhkpbcmcaa.Pure
