/- What bits.Div64 computes: quotient and rest, for every dividend whose high word is below the divisor. -/
import Derived.Test.YtbcjhnhkpbcmcaaPA9
import Derived.Test.YtbcjhnhkpbcmcaaEqBase
import Derived.Lib.BitFns
namespace Go.Proofs.Ytbcjhnhkpbcmcaa.Eq
open Go.RowKit Go.Proofs.Ytbcjhnhkpbcmcaa.PA Go.Proofs.Ytbcjhnhkpbcmcaa.Given Go.Proofs.Ytbcjhnhkpbcmcaa.Num Go.Proofs.YtbcjhnhkpbcmcaaW.PrintWords Go.Proofs.YtbcjhnhkpbcmcaaW.PrintLast Go.Proofs.YtbcjhnhkpbcmcaaW.PrintMore
set_option linter.unusedVariables false

theorem bitLen_bounds (x : Nat) (h0 : x ≠ 0) (h : x < 2 ^ 64) : 2 ^ (Lib.bitLen x - 1) ≤ x ∧ x < 2 ^ Lib.bitLen x ∧ 1 ≤ Lib.bitLen x := by
  suffices H : ∀ (n x : Nat), x < 2 ^ n → n ≤ 64 → x ≠ 0 → 2 ^ (Lib.bitLen x - 1) ≤ x ∧ x < 2 ^ Lib.bitLen x ∧ 1 ≤ Lib.bitLen x from H 64 x h (Nat.le_refl _) h0
  intro n
  induction n with
  | zero => intro x hx _ h0; omega
  | succ n ih =>
    intro x hx hn h0
    have hlt : x < 2 ^ 64 := Nat.lt_of_lt_of_le hx (Nat.pow_le_pow_right (by decide) hn)
    have hb := Lib.bitLen_half x h0 hlt
    by_cases h1 : x = 1
    · subst h1; decide
    · obtain ⟨a, b, c⟩ := ih (x / 2) (by rw [Nat.pow_succ] at hx; omega) (by omega) (by omega)
      rw [hb]
      obtain ⟨m, hm⟩ : ∃ m, Lib.bitLen (x / 2) = m + 1 := ⟨Lib.bitLen (x / 2) - 1, by omega⟩
      rw [hm] at a b ⊢
      simp only [Nat.add_sub_cancel] at a
      rw [show 1 + (m + 1) - 1 = m + 1 by omega, show 1 + (m + 1) = (m + 1) + 1 by omega]
      rw [Nat.pow_succ] at b ⊢
      refine ⟨?_, ?_, by omega⟩
      · rw [Nat.pow_succ] at *; omega
      · rw [Nat.pow_succ] at *; omega

/-- One digit of the quotient: what the correction's loop keeps. -/
structure Digit (Y yn1 yn0 u v q r : Int) : Prop where
  split : Y = yn1 * 4294967296 + yn0
  n1 : 2147483648 ≤ yn1 ∧ yn1 < 4294967296
  n0 : 0 ≤ yn0 ∧ yn0 < 4294967296
  vb : 0 ≤ v ∧ v < 4294967296
  ub : 0 ≤ u ∧ u < Y
  eq : q * yn1 + r = u
  r0 : 0 ≤ r
  top : q ≤ 4294967297
  low : (u * 4294967296 + v) / Y ≤ q

theorem Digit.pos {Y yn1 yn0 u v q r : Int} (h : Digit Y yn1 yn0 u v q r) : 0 < Y := by
  have := h.split; have := h.n1; have := h.n0; omega

theorem Digit.rest {Y yn1 yn0 u v q r : Int} (h : Digit Y yn1 yn0 u v q r) : u * 4294967296 + v - q * Y = r * 4294967296 + v - q * yn0 := by
  rw [← h.eq, h.split]; grind

theorem Digit.small {Y yn1 yn0 u v q r : Int} (h : Digit Y yn1 yn0 u v q r) : 0 ≤ (u * 4294967296 + v) / Y ∧ (u * 4294967296 + v) / Y < 4294967296 := by
  have hY := h.pos
  have hu := h.ub
  have hv := h.vb
  refine ⟨Int.ediv_nonneg (by omega) (by omega), Int.ediv_lt_of_lt_mul hY ?_⟩
  omega

theorem Digit.q0 {Y yn1 yn0 u v q r : Int} (h : Digit Y yn1 yn0 u v q r) : 0 ≤ q := Int.le_trans h.small.1 h.low

/-- The test says no: the digit is right. -/
theorem Digit.done {Y yn1 yn0 u v q r : Int} (h : Digit Y yn1 yn0 u v q r) (hq : q < 4294967296) (ht : ¬ q * yn0 > 4294967296 * r + v) : (u * 4294967296 + v) / Y = q := by
  have hY := h.pos
  have hr := h.rest
  have : q * Y ≤ u * 4294967296 + v := by omega
  have h1 : q ≤ (u * 4294967296 + v) / Y := (Int.le_ediv_iff_mul_le hY).2 this
  have := h.low
  omega

/-- The test says yes: the digit is too great. -/
theorem Digit.over {Y yn1 yn0 u v q r : Int} (h : Digit Y yn1 yn0 u v q r) (ht : q ≥ 4294967296 ∨ q * yn0 > 4294967296 * r + v) : (u * 4294967296 + v) / Y ≤ q - 1 := by
  have hY := h.pos
  rcases ht with ht | ht
  · have := h.small; omega
  · have hr := h.rest
    have : u * 4294967296 + v < q * Y := by omega
    have := Int.ediv_lt_of_lt_mul hY this
    omega

theorem Digit.next {Y yn1 yn0 u v q r : Int} (h : Digit Y yn1 yn0 u v q r) (ht : q ≥ 4294967296 ∨ q * yn0 > 4294967296 * r + v) : Digit Y yn1 yn0 u v (q - 1) (r + yn1) := by
  have ho := h.over ht
  have := h.n1
  refine ⟨h.split, h.n1, h.n0, h.vb, h.ub, ?_, by have := h.r0; omega, by have := h.top; omega, ho⟩
  rw [← h.eq, Int.sub_mul]; omega

/-- The rest has left its range: the digit is right. -/
theorem Digit.left {Y yn1 yn0 u v q r : Int} (h : Digit Y yn1 yn0 u v q r) (hq : q ≤ 4294967296) (hr : r ≥ 4294967296) : (u * 4294967296 + v) / Y = q := by
  have hY := h.pos
  have hrest := h.rest
  have h0 := h.q0
  have hn := h.n0
  have hv := h.vb
  have : q * yn0 ≤ 4294967296 * 4294967295 := Int.mul_le_mul hq (by omega) hn.1 (by decide)
  have h1 : q ≤ (u * 4294967296 + v) / Y := (Int.le_ediv_iff_mul_le hY).2 (by omega)
  have := h.low
  omega

theorem Digit.start {Y yn1 yn0 u v : Int} (hs : Y = yn1 * 4294967296 + yn0) (n1 : 2147483648 ≤ yn1 ∧ yn1 < 4294967296) (n0 : 0 ≤ yn0 ∧ yn0 < 4294967296) (vb : 0 ≤ v ∧ v < 4294967296) (ub : 0 ≤ u ∧ u < Y) :
    Digit Y yn1 yn0 u v (u / yn1) (u - u / yn1 * yn1) ∧ u - u / yn1 * yn1 < yn1 := by
  have hd := Int.mul_ediv_add_emod u yn1
  have r0 := Int.emod_nonneg u (show yn1 ≠ 0 by omega)
  have r1 := Int.emod_lt_of_pos u (show 0 < yn1 by omega)
  have e : u - u / yn1 * yn1 = u % yn1 := by rw [Int.mul_comm]; omega
  have q0 : 0 ≤ u / yn1 := Int.ediv_nonneg ub.1 (by omega)
  refine ⟨⟨hs, n1, n0, vb, ub, by omega, by omega, ?_, ?_⟩, by omega⟩
  · have : u / yn1 < 4294967298 := Int.ediv_lt_of_lt_mul (by omega) (by omega)
    omega
  · have hY : 0 < Y := by omega
    have : (u * 4294967296 + v) / Y < u / yn1 + 1 := by
      refine Int.ediv_lt_of_lt_mul hY ?_
      rw [hs]
      have e1 : (u / yn1 + 1) * (yn1 * 4294967296 + yn0) = (u / yn1 * yn1 + yn1) * 4294967296 + (u / yn1 + 1) * yn0 := by grind
      have e2 : 0 ≤ (u / yn1 + 1) * yn0 := Int.mul_nonneg (by omega) n0.1
      rw [e1]
      omega
    omega

theorem mulw (q y : Int) : IntKind.u64.wrap (q * y) = q * y % 18446744073709551616 := w64 _

/-- What is left behind a digit. -/
theorem digit_rest {Y u v q : Int} (hY : 0 < Y) (hY' : Y ≤ 18446744073709551616) (hq : (u * 4294967296 + v) / Y = q) :
    IntKind.u64.wrap ((IntKind.u64.wrap ((IntKind.u64.wrap (u * 4294967296)) + v)) - (IntKind.u64.wrap (q * Y))) = (u * 4294967296 + v) % Y := by
  have h := Int.mul_ediv_add_emod (u * 4294967296 + v) Y
  have r0 := Int.emod_nonneg (u * 4294967296 + v) (show Y ≠ 0 by omega)
  have r1 := Int.emod_lt_of_pos (u * 4294967296 + v) hY
  rw [hq, Int.mul_comm] at h
  simp only [w64]
  generalize q * Y = m at *
  generalize u * 4294967296 = z at *
  omega

theorem div64_loop1 {Y yn1 yn0 u v : Int} (s x14 x15 x17 : Int) (hs : 0 ≤ s) (d : Nat) : ∀ (k : Nat) (q r : Int), Digit Y yn1 yn0 u v q r → r < 4294967296 → 4294967296 - r ≤ 2147483648 * (d : Int) → 2 * d + 2 ≤ k → v = x14 → 
    bits_Div64.l1 k Y s yn1 yn0 x14 x15 r x17 q =
      some (IntKind.u64.wrap ((IntKind.u64.wrap (x15 * 4294967296)) + (u * 4294967296 + v) / Y), shr .u64 (IntKind.u64.wrap ((IntKind.u64.wrap ((IntKind.u64.wrap (x17 * 4294967296)) + x14)) - (IntKind.u64.wrap ((u * 4294967296 + v) / Y * Y)))) s) := by
  induction d with
  | zero => intro k q r h hr hd; omega
  | succ d ih =>
    intro k q r h hr hd hk hv
    subst hv
    obtain ⟨k, rfl⟩ : ∃ m, k = m + 2 := ⟨k - 2, by omega⟩
    have hq0 := h.q0
    have hn0 := h.n0
    have hn1 := h.n1
    have hr0 := h.r0
    have hvb := h.vb
    have htop := h.top
    have step : (q ≥ 4294967296 ∨ q * yn0 > 4294967296 * r + v) →
        bits_Div64.j4 (k + 1) Y s yn1 yn0 v x15 r x17 q true = some (IntKind.u64.wrap ((IntKind.u64.wrap (x15 * 4294967296)) + (u * 4294967296 + v) / Y), shr .u64 (IntKind.u64.wrap ((IntKind.u64.wrap ((IntKind.u64.wrap (x17 * 4294967296)) + v)) - (IntKind.u64.wrap ((u * 4294967296 + v) / Y * Y)))) s) := by
      intro ht
      have hn := h.next ht
      have e1 : IntKind.u64.wrap (r + yn1) = r + yn1 := w64_id (by omega) (by omega)
      have hnq := hn.q0
      have e2 : IntKind.u64.wrap (q - 1) = q - 1 := w64_id (by omega) (by omega)
      simp only [bits_Div64.j4, if_true]
      rw [e1, e2]
      by_cases hb : r + yn1 ≥ 4294967296
      · rw [if_pos hb, if_pos hs, hn.left (by omega) hb]
      · rw [if_neg hb]
        exact ih k (q - 1) (r + yn1) hn (by omega) (by omega) (by omega) rfl
    simp only [bits_Div64.l1]
    by_cases h1 : q ≥ 4294967296
    · rw [if_pos h1]; exact step (.inl h1)
    · rw [if_neg h1]
      have hm : q * yn0 ≤ 4294967295 * 4294967295 := Int.mul_le_mul (by omega) (by omega) hn0.1 (by decide)
      have hm0 : 0 ≤ q * yn0 := Int.mul_nonneg hq0 hn0.1
      have e1 : IntKind.u64.wrap (q * yn0) = q * yn0 := w64_id hm0 (by omega)
      have e2 : IntKind.u64.wrap (4294967296 * r) = 4294967296 * r := w64_id (by omega) (by omega)
      have e3 : IntKind.u64.wrap (4294967296 * r + v) = 4294967296 * r + v := w64_id (by omega) (by omega)
      rw [e1, e2, e3]
      by_cases h2 : q * yn0 > 4294967296 * r + v
      · rw [decide_eq_true h2]; exact step (.inr h2)
      · rw [decide_eq_false h2]
        simp only [bits_Div64.j4, Bool.false_eq_true, if_false]
        rw [if_pos hs, h.done (by omega) h2]

theorem div64_loop0 {Y yn1 yn0 u v : Int} (s x14 : Int) (hs : 0 ≤ s) (d : Nat) : ∀ (k : Nat) (q r : Int), Digit Y yn1 yn0 u v q r → r < 4294967296 → 4294967296 - r ≤ 2147483648 * (d : Int) → 2 * d + 2 ≤ k →
    ∃ k', k ≤ k' + 2 * d + 2 ∧ k' < k ∧ bits_Div64.l0 k Y s yn1 yn0 u v x14 q r = bits_Div64.j2 k' Y s yn1 yn0 u v x14 ((u * 4294967296 + v) / Y) := by
  induction d with
  | zero => intro k q r h hr hd; omega
  | succ d ih =>
    intro k q r h hr hd hk
    obtain ⟨k, rfl⟩ : ∃ m, k = m + 2 := ⟨k - 2, by omega⟩
    have hq0 := h.q0
    have hn0 := h.n0
    have hn1 := h.n1
    have hr0 := h.r0
    have hvb := h.vb
    have htop := h.top
    have step : (q ≥ 4294967296 ∨ q * yn0 > 4294967296 * r + v) →
        ∃ k', k + 2 ≤ k' + 2 * (d + 1) + 2 ∧ k' < k + 2 ∧ bits_Div64.j1 (k + 1) Y s yn1 yn0 u v x14 q r true = bits_Div64.j2 k' Y s yn1 yn0 u v x14 ((u * 4294967296 + v) / Y) := by
      intro ht
      have hn := h.next ht
      have e1 : IntKind.u64.wrap (r + yn1) = r + yn1 := w64_id (by omega) (by omega)
      have hnq := hn.q0
      have e2 : IntKind.u64.wrap (q - 1) = q - 1 := w64_id (by omega) (by omega)
      simp only [bits_Div64.j1, if_true]
      rw [e1, e2]
      by_cases hb : r + yn1 ≥ 4294967296
      · rw [if_pos hb, hn.left (by omega) hb]
        exact ⟨k, by omega, by omega, rfl⟩
      · rw [if_neg hb]
        obtain ⟨k', a, b, c⟩ := ih k (q - 1) (r + yn1) hn (by omega) (by omega) (by omega)
        exact ⟨k', by omega, by omega, c⟩
    simp only [bits_Div64.l0]
    by_cases h1 : q ≥ 4294967296
    · rw [if_pos h1]; exact step (.inl h1)
    · rw [if_neg h1]
      have hm : q * yn0 ≤ 4294967295 * 4294967295 := Int.mul_le_mul (by omega) (by omega) hn0.1 (by decide)
      have hm0 : 0 ≤ q * yn0 := Int.mul_nonneg hq0 hn0.1
      have e1 : IntKind.u64.wrap (q * yn0) = q * yn0 := w64_id hm0 (by omega)
      have e2 : IntKind.u64.wrap (4294967296 * r) = 4294967296 * r := w64_id (by omega) (by omega)
      have e3 : IntKind.u64.wrap (4294967296 * r + v) = 4294967296 * r + v := w64_id (by omega) (by omega)
      rw [e1, e2, e3]
      by_cases h2 : q * yn0 > 4294967296 * r + v
      · rw [decide_eq_true h2]; exact step (.inr h2)
      · rw [decide_eq_false h2]
        simp only [bits_Div64.j1, Bool.false_eq_true, if_false]
        rw [h.done (by omega) h2]
        exact ⟨k, by omega, by omega, rfl⟩

theorem shl_word {a : Int} (s : Nat) (hs : s ≤ 64) : shl .u64 a (s : Int) = a * 2 ^ s % 18446744073709551616 := by
  unfold shl
  rw [w64, show min (s : Int).toNat IntKind.u64.bits = s by simp [IntKind.bits]; omega]

theorem shr_word {a : Int} (s : Nat) (hs : s ≤ 64) : shr .u64 a (s : Int) = a / 2 ^ s := by
  unfold shr
  rw [show min (s : Int).toNat IntKind.u64.bits = s by simp [IntKind.bits]; omega]

theorem div64_eq {hi lo y : Int} (hh : Word hi) (hl : Word lo) (hy : Word y) (hlt : hi < y) {k : Nat} (hk : 30 ≤ k) :
    bits_Div64.f k hi lo y = some (wide hi lo / y, wide hi lo % y) := by
  have hh' := hh
  have hl' := hl
  have hy' := hy
  unfold Word at hh' hl' hy'
  unfold bits_Div64.f
  rw [if_neg (by omega), if_neg (by omega)]
  by_cases h0 : hi = 0
  · subst h0
    rw [if_pos rfl, tdiv_id hl'.1, tmod_id hl'.1]
    have e : wide 0 lo = lo := by unfold wide; omega
    have b0 : 0 ≤ lo / y := Int.ediv_nonneg hl'.1 (by omega)
    have b1 : lo / y ≤ lo := Int.ediv_le_self _ hl'.1
    rw [e, w64_id b0 (by omega)]
  · rw [if_neg h0]
    obtain ⟨c1, c2, c3⟩ := bitLen_bounds y.toNat (by omega) (by omega)
    have c4 := Lib.bitLen_le y.toNat 64 (by omega) (by omega)
    obtain ⟨s, hs⟩ : ∃ s : Nat, s = 64 - Lib.bitLen y.toNat := ⟨_, rfl⟩
    have hs63 : s ≤ 63 := by omega
    have elz : bits_LeadingZeros64.f y = some (s : Int) := by
      unfold bits_LeadingZeros64.f; rw [if_pos hy]; congr 1; omega
    have hp := pow_pos2 s
    have hYb : 9223372036854775808 ≤ y * 2 ^ s ∧ y * 2 ^ s < 18446744073709551616 := by
      have e1 : (2 : Nat) ^ (Lib.bitLen y.toNat - 1) * 2 ^ s = 2 ^ 63 := by rw [← Nat.pow_add]; congr 1; omega
      have e2 : (2 : Nat) ^ (Lib.bitLen y.toNat) * 2 ^ s = 2 ^ 64 := by rw [← Nat.pow_add]; congr 1; omega
      have n1 : 2 ^ 63 ≤ y.toNat * 2 ^ s := by rw [← e1]; exact Nat.mul_le_mul_right _ c1
      have n2 : y.toNat * 2 ^ s < 2 ^ 64 := by rw [← e2]; exact Nat.mul_lt_mul_of_pos_right c2 (Nat.pow_pos (by decide))
      have ey : ((y.toNat * 2 ^ s : Nat) : Int) = y * 2 ^ s := by
        rw [Int.natCast_mul, Int.natCast_pow, Int.toNat_of_nonneg hy'.1]; rfl
      omega
    have ew : IntKind.u64.wrap (s : Int) = s := w64_id (by omega) (by omega)
    have ew2 : IntKind.u64.wrap (64 - (s : Int)) = 64 - (s : Int) := w64_id (by omega) (by omega)
    rw [elz]
    simp only [Option.bind_some, ew, ew2]
    rw [if_pos (by omega), if_pos (by omega), shl_word s (by omega), shl_word s (by omega), shl_word s (by omega), show (64 - (s : Int)) = ((64 - s : Nat) : Int) by omega, shr_word (64 - s) (by omega)]
    have hU := shl_low hh hl (m := s) (by omega)
    rw [w64] at hU
    rw [hU]
    have eY : y * 2 ^ s % 18446744073709551616 = y * 2 ^ s := by omega
    have eU : wide hi lo * 2 ^ s / 18446744073709551616 % 18446744073709551616 = wide hi lo * 2 ^ s / 18446744073709551616 := by
      have : wide hi lo * 2 ^ s < y * 2 ^ s * 18446744073709551616 := by
        have h1 : wide hi lo < y * 18446744073709551616 := by unfold wide; omega
        have := Int.mul_lt_mul_of_pos_right h1 hp
        rw [Int.mul_right_comm] at this
        exact this
      have w0 : 0 ≤ wide hi lo * 2 ^ s := Int.mul_nonneg (wide_bd hh hl).1 (by omega)
      omega
    have eL : lo * 2 ^ s % 18446744073709551616 = wide hi lo * 2 ^ s % 18446744073709551616 := by rw [← shl_lo (hi := hi), w64]
    have hUY : wide hi lo * 2 ^ s / 18446744073709551616 < y * 2 ^ s := by
      have h1 : wide hi lo < y * 18446744073709551616 := by unfold wide; omega
      have h2 := Int.mul_lt_mul_of_pos_right h1 hp
      rw [Int.mul_right_comm] at h2
      exact Int.ediv_lt_of_lt_mul (by decide) h2
    rw [eY, eU, eL]
    have hquo : wide hi lo * 2 ^ s / (y * 2 ^ s) = wide hi lo / y := by
      rw [Int.mul_ediv_mul_of_pos_left _ _ hp]
    have hrem : wide hi lo * 2 ^ s % (y * 2 ^ s) = wide hi lo % y * 2 ^ s := by
      rw [Int.mul_comm (wide hi lo), Int.mul_comm y, Int.mul_emod_mul_of_pos _ _ hp, Int.mul_comm]
    have w0 : 0 ≤ wide hi lo * 2 ^ s := Int.mul_nonneg (wide_bd hh hl).1 (by omega)
    generalize hYg : y * 2 ^ s = Y at *
    generalize hUg : wide hi lo * 2 ^ s = U at *
    have eYn0 : Go.bits .and .u64 Y 4294967295 = Y % 4294967296 := and32 (by omega) (by omega)
    have eUn0 : Go.bits .and .u64 (U % 18446744073709551616) 4294967295 = U % 18446744073709551616 % 4294967296 := and32 (by omega) (by omega)
    rw [eYn0, eUn0, if_neg (by omega)]
    obtain ⟨u, hu⟩ : ∃ u, u = U / 18446744073709551616 := ⟨_, rfl⟩
    obtain ⟨v1, hv1⟩ : ∃ v, v = U % 18446744073709551616 / 4294967296 := ⟨_, rfl⟩
    obtain ⟨v0, hv0⟩ : ∃ v, v = U % 18446744073709551616 % 4294967296 := ⟨_, rfl⟩
    obtain ⟨y1, hy1⟩ : ∃ v, v = Y / 4294967296 := ⟨_, rfl⟩
    obtain ⟨y0, hy0⟩ : ∃ v, v = Y % 4294967296 := ⟨_, rfl⟩
    rw [← hu, ← hv1, ← hv0, ← hy1, ← hy0]
    have hUs : U = (u * 4294967296 + v1) * 4294967296 + v0 := by omega
    have hYs : Y = y1 * 4294967296 + y0 := by omega
    obtain ⟨d1, d1r⟩ := Digit.start (Y := Y) (yn1 := y1) (yn0 := y0) (u := u) (v := v1) hYs (by omega) (by omega) (by omega) (by omega)
    have q10 := d1.q0
    have q1t := d1.top
    have r10 := d1.r0
    have et : Int.tdiv u y1 = u / y1 := tdiv_id (by omega)
    have e1 : IntKind.u64.wrap (u / y1) = u / y1 := w64_id (by omega) (by omega)
    have e2 : IntKind.u64.wrap (u / y1 * y1) = u / y1 * y1 := w64_id (Int.mul_nonneg q10 (by omega)) (by have := d1.ub; omega)
    have e3 : IntKind.u64.wrap (u - u / y1 * y1) = u - u / y1 * y1 := w64_id (by omega) (by omega)
    rw [et, e1, e2, e3]
    obtain ⟨k', ka, kb, hl0⟩ := div64_loop0 (s : Int) v0 (by omega) 2 k _ _ d1 (by omega) (by omega) (by omega)
    rw [hl0]
    obtain ⟨k', rfl⟩ : ∃ m, k' = m + 1 := ⟨k' - 1, by omega⟩
    simp only [bits_Div64.j2]
    rw [if_neg (by omega), digit_rest (by omega) (by omega) rfl]
    have sm1 := d1.small
    obtain ⟨N, hN⟩ : ∃ N, N = u * 4294967296 + v1 := ⟨_, rfl⟩
    rw [← hN] at sm1 ⊢
    have m0 := Int.emod_nonneg N (show Y ≠ 0 by omega)
    have m1 := Int.emod_lt_of_pos N (show 0 < Y by omega)
    obtain ⟨u2, hu2⟩ : ∃ u2, u2 = N % Y := ⟨_, rfl⟩
    rw [← hu2] at m0 m1 ⊢
    obtain ⟨d2, d2r⟩ := Digit.start (Y := Y) (yn1 := y1) (yn0 := y0) (u := u2) (v := v0) hYs (by omega) (by omega) (by omega) ⟨m0, m1⟩
    have q20 := d2.q0
    have q2t := d2.top
    have r20 := d2.r0
    have et2 : Int.tdiv u2 y1 = u2 / y1 := tdiv_id (by omega)
    have f1 : IntKind.u64.wrap (u2 / y1) = u2 / y1 := w64_id (by omega) (by omega)
    have f2 : IntKind.u64.wrap (u2 / y1 * y1) = u2 / y1 * y1 := w64_id (Int.mul_nonneg q20 (by omega)) (by omega)
    have f3 : IntKind.u64.wrap (u2 - u2 / y1 * y1) = u2 - u2 / y1 * y1 := w64_id (by omega) (by omega)
    rw [et2, f1, f2, f3, div64_loop1 (s : Int) v0 (N / Y) u2 (by omega) 2 k' _ _ d2 (by omega) (by omega) (by omega) rfl]
    have sm2 := d2.small
    rw [digit_rest (by omega) (by omega) rfl, shr_word s (by omega)]
    -- the two digits together
    have hNd := Int.mul_ediv_add_emod N Y
    rw [← hu2] at hNd
    have hUd : U = Y * (N / Y * 4294967296) + (u2 * 4294967296 + v0) := by
      rw [hUs, ← hN]
      conv => lhs; rw [← hNd]
      rw [← Int.mul_assoc]; omega
    have hUq : U / Y = N / Y * 4294967296 + (u2 * 4294967296 + v0) / Y := by
      conv => lhs; rw [hUd]
      rw [Int.add_comm, Int.add_mul_ediv_left _ _ (by omega)]; omega
    have hUr : U % Y = (u2 * 4294967296 + v0) % Y := by
      conv => lhs; rw [hUd]
      rw [Int.mul_add_emod_self_left]
    have g1 : IntKind.u64.wrap (N / Y * 4294967296) = N / Y * 4294967296 := w64_id (by omega) (by omega)
    have g2 : IntKind.u64.wrap (N / Y * 4294967296 + (u2 * 4294967296 + v0) / Y) = N / Y * 4294967296 + (u2 * 4294967296 + v0) / Y := w64_id (by omega) (by omega)
    rw [g1, g2, ← hUq, ← hUr, hquo, hrem, Int.mul_ediv_cancel _ (by omega)]
end Go.Proofs.Ytbcjhnhkpbcmcaa.Eq
