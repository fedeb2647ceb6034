/- What both Decays give, and that it falls as bits are added. -/
import Derived.Test.YtbcjhnhkpbcmcaaDoorEqMul
import Derived.Test.YtbcjhnhkpbcmcaaDoorEqShr
import Derived.Test.YtbcjhnhkpbcmcaaDoorDecay
import Derived.Test.YtbcjhnhkpbcmcaaDoorPA1
namespace Go.Proofs.YtbcjhnhkpbcmcaaDoor.Eq
open Go.RowKit Go.Proofs.YtbcjhnhkpbcmcaaDoor.PA Go.Proofs.YtbcjhnhkpbcmcaaDoor.Given Go.Proofs.YtbcjhnhkpbcmcaaDoor.Num Go.Proofs.YtbcjhnhkpbcmcaaDoorW.PrintWords Go.Proofs.YtbcjhnhkpbcmcaaDoorW.PrintLast Go.Proofs.YtbcjhnhkpbcmcaaDoorW.PrintMore
set_option linter.unusedVariables false

def sc (a b : Int) : Int := a * b / 9223372036854775808 % 18446744073709551616

theorem clamp63 : clampn 63 = 63 := by decide
theorem impl_scaled_eq {a b : Int} (ha : Word a) (hb : Word b) : impl_scaled.f a b = some (sc a b) := by
  unfold impl_scaled.f
  have hm := mul_words ha hb
  rw [impl_MulWide_eq ha hb, Option.bind_some]
  simp only []
  rw [impl_ShiftRight_eq hm.2.2 (word_mod _), Option.bind_some, clamp63, wide_div_mod]
  rfl
theorem spec_l7Part_eq {a b : Int} (ha : Word a) (hb : Word b) {k : Nat} (hk : 258 ≤ k) : spec_l7Part.f k a b = some (sc a b) := by
  unfold spec_l7Part.f
  have hm := mul_words ha hb
  rw [spec_MulWide_eq ha hb, Option.bind_some]
  simp only []
  rw [spec_ShiftRight_eq hm.2.2 (word_mod _) (by decide) hk, Option.bind_some, clamp63, wide_div_mod]
  rfl
theorem sc_word (a b : Int) : Word (sc a b) := word_mod _

theorem decay_loop {t : Int} (hw : Word t) (xs : List Int) (hx : ∀ d ∈ xs, Word d) (hlen : xs.length ≤ 100) (n : Nat) : ∀ (k i : Nat) (y : Int), 400 + n < k → i + n = xs.length → Word y →
    ∃ r, spec_Decay.l0 k (t / 2 ^ i) xs y (i : Int) = some r ∧ impl_Decay.go t (xs.drop i) i y = some r := by
  induction n with
  | zero =>
    intro k i y hk hi hy
    obtain ⟨k, rfl⟩ : ∃ m, k = m + 1 := ⟨k - 1, by omega⟩
    rw [spec_Decay.l0, if_neg (by omega), List.drop_eq_nil_of_le (by omega), impl_Decay.go]
    exact ⟨y, rfl, rfl⟩
  | succ n ih =>
    intro k i y hk hi hy
    obtain ⟨k, rfl⟩ : ∃ m, k = m + 1 := ⟨k - 1, by omega⟩
    have hlt : i < xs.length := by omega
    have hr : rd xs (i : Int) = xs[i] := by unfold rd; simp [hlt]
    have w1 : wrap64 ((i : Int) + 1) = ((i + 1 : Nat) : Int) := by unfold wrap64; omega
    have q0 : 0 ≤ t / 2 ^ i := Int.ediv_nonneg hw.1 (Int.le_of_lt (pow_pos2 i))
    have q1 : t / 2 ^ i < 18446744073709551616 := Int.lt_of_le_of_lt (Int.ediv_le_self _ hw.1) hw.2
    have q2 : t / 2 ^ (i + 1) = t / 2 ^ i / 2 := by rw [Int.pow_succ, ← Int.ediv_ediv_of_nonneg (Int.le_of_lt (pow_pos2 i))]
    have hd : Word xs[i] := hx _ (List.getElem_mem hlt)
    rw [spec_Decay.l0, if_pos (by omega), hr, w1, List.drop_eq_getElem_cons hlt, impl_Decay.go, tmod_id q0, tdiv_id q0, w64_id (by omega) (by omega), ← q2]
    by_cases h : t / 2 ^ i % 2 = 1
    · rw [if_pos h, if_pos h, if_pos (by omega), spec_l7Part_eq hy hd (by omega), impl_scaled_eq hy hd, Option.bind_some, Option.bind_some]
      exact ih k (i + 1) _ (by omega) (by omega) (sc_word _ _)
    · rw [if_neg h, if_neg h]
      exact ih k (i + 1) _ (by omega) (by omega) hy

theorem lift {α : Type} {f : Nat → Option α} (hm : ∀ k, LeO (f k) (f (k + 1))) {n : Nat} {r : α} (h : f n = some r) {k : Nat} (hk : n ≤ k) : f k = some r := by
  obtain ⟨d, rfl⟩ : ∃ d, k = n + d := ⟨k - n, by omega⟩
  induction d with
  | zero => exact h
  | succ d ih => exact hm _ _ (ih (by omega))
theorem two_at (n : Int) (r : Int) (h : spec_l2Two.f 100 n = some r) {k : Nat} (hk : 100 ≤ k) : spec_l2Two.f k n = some r := lift (f := fun k => spec_l2Two.f k n) (fun k => spec_l2Two.mono n k) h hk
theorem two35 {k : Nat} (hk : 100 ≤ k) : spec_l2Two.f k 35 = some 34359738368 := two_at _ _ (by decide +kernel) hk
theorem two38 {k : Nat} (hk : 100 ≤ k) : spec_l2Two.f k 38 = some 274877906944 := two_at _ _ (by decide +kernel) hk
theorem two63 {k : Nat} (hk : 100 ≤ k) : spec_l2Two.f k 63 = some 9223372036854775808 := two_at _ _ (by decide +kernel) hk

theorem decays_words : ∀ d ∈ Gdecays.vals, 0 ≤ d ∧ d < 9223372036854775808 := by decide +kernel

theorem decay_both {t : Int} (hw : Word t) {k : Nat} (hk : 500 ≤ k) : ∃ r, spec_Decay.f k t = some r ∧ impl_Decay.f t = some r := by
  have hw' := hw
  unfold Word at hw'
  unfold spec_Decay.f impl_Decay.f spec_l7Decays.f
  rw [two38 (by omega), two63 (by omega), Option.bind_some, Option.bind_some, Option.bind_some, if_pos hw]
  by_cases h : t ≥ 274877906944
  · rw [if_pos h, if_neg (by omega)]; exact ⟨0, rfl, rfl⟩
  · rw [if_neg h, if_pos (by omega)]
    have := decay_loop hw Gdecays.vals (fun d hd => by have := decays_words d hd; exact ⟨by omega, by omega⟩) (by decide) 38 k 0 9223372036854775808 (by omega) rfl ⟨by decide, by decide⟩
    simp only [Int.pow_zero, Int.ediv_one, List.drop_zero] at this
    exact this

/-- Fewer is left the more bits are set. -/
theorem sc_le {y d : Int} (hy : 0 ≤ y) (hy' : y ≤ 9223372036854775808) (hd : 0 ≤ d) (hd' : d < 9223372036854775808) : sc y d = y * d / 9223372036854775808 ∧ 0 ≤ sc y d ∧ sc y d ≤ y := by
  have h1 := Int.mul_nonneg hy hd
  have h2 : y * d ≤ y * 9223372036854775808 := Int.mul_le_mul_of_nonneg_left (by omega) hy
  unfold sc
  omega
theorem sc_mono {y z d : Int} (hy : 0 ≤ y) (hyz : y ≤ z) (hz : z ≤ 9223372036854775808) (hd : 0 ≤ d) (hd' : d < 9223372036854775808) : sc y d ≤ sc z d := by
  rw [(sc_le hy (by omega) hd hd').1, (sc_le (y := z) (by omega) hz hd hd').1]
  have : y * d ≤ z * d := Int.mul_le_mul_of_nonneg_right hyz hd
  omega

theorem go_falls {t t' : Int} (hb : ∀ i : Nat, t / 2 ^ i % 2 = 1 → t' / 2 ^ i % 2 = 1) (xs : List Int) (hx : ∀ d ∈ xs, 0 ≤ d ∧ d < 9223372036854775808) : ∀ (i : Nat) (y y' r r' : Int), 0 ≤ y' → y' ≤ y → y ≤ 9223372036854775808 →
    impl_Decay.go t xs i y = some r → impl_Decay.go t' xs i y' = some r' → r' ≤ r := by
  induction xs with
  | nil =>
    intro i y y' r r' h0 h1 h2 h h'
    rw [impl_Decay.go] at h h'
    cases h; cases h'; exact h1
  | cons d xs ih =>
    intro i y y' r r' h0 h1 h2 h h'
    have hd := hx d (List.mem_cons_self ..)
    have ih' := ih (fun d h => hx d (List.mem_cons_of_mem _ h))
    have wy : Word y := ⟨by omega, by omega⟩
    have wy' : Word y' := ⟨by omega, by omega⟩
    have wd : Word d := ⟨by omega, by omega⟩
    rw [impl_Decay.go, impl_scaled_eq wy wd, Option.bind_some] at h
    rw [impl_Decay.go, impl_scaled_eq wy' wd, Option.bind_some] at h'
    have a1 := sc_le (y := y) (by omega) h2 hd.1 hd.2
    have a2 := sc_le h0 (by omega) hd.1 hd.2
    by_cases c : t / 2 ^ i % 2 = 1
    · rw [if_pos c] at h
      rw [if_pos (hb i c)] at h'
      exact ih' (i + 1) _ _ r r' a2.2.1 (sc_mono h0 h1 h2 hd.1 hd.2) (by omega) h h'
    · rw [if_neg c] at h
      split at h'
      · exact ih' (i + 1) _ _ r r' a2.2.1 (by omega) h2 h h'
      · exact ih' (i + 1) _ _ r r' h0 h1 h2 h h'

theorem or_bits {t : Int} (h0 : 0 ≤ t) (h1 : t < 274877906944) {m : Nat} (hm : m < 38) :
    0 ≤ Go.bits .or .u64 t (2 ^ m) ∧ Go.bits .or .u64 t (2 ^ m) < 274877906944 ∧ ∀ i : Nat, t / 2 ^ i % 2 = 1 → Go.bits .or .u64 t (2 ^ m) / 2 ^ i % 2 = 1 := by
  obtain ⟨a, rfl⟩ := Int.eq_ofNat_of_zero_le h0
  have ha : a < 2 ^ 38 := by omega
  have hp : 2 ^ m < 2 ^ 38 := Nat.pow_lt_pow_right (by decide) hm
  have e : Go.bits .or .u64 (a : Int) (2 ^ m) = ((a ||| 2 ^ m : Nat) : Int) := by
    have := (bits_nat .u64 64 (by decide) wraps_u64 a (2 ^ m) (by omega) (by omega)).2
    rw [Int.natCast_pow] at this
    exact this
  have hlt : a ||| 2 ^ m < 2 ^ 38 := Nat.or_lt_two_pow ha hp
  rw [e]
  refine ⟨by omega, by omega, fun i hi => ?_⟩
  have c1 : ((a : Int) / 2 ^ i % 2) = ((a / 2 ^ i % 2 : Nat) : Int) := by simp only [Int.natCast_emod, Int.natCast_ediv, Int.natCast_pow]; rfl
  have c2 : (((a ||| 2 ^ m : Nat) : Int) / 2 ^ i % 2) = (((a ||| 2 ^ m) / 2 ^ i % 2 : Nat) : Int) := by simp only [Int.natCast_emod, Int.natCast_ediv, Int.natCast_pow]; rfl
  rw [c1] at hi
  rw [c2]
  have hi' : a / 2 ^ i % 2 = 1 := by omega
  have t1 : a.testBit i = true := by rw [Nat.testBit_eq_decide_div_mod_eq]; simpa using hi'
  have t2 : (a ||| 2 ^ m).testBit i = true := by rw [Nat.testBit_or, t1]; rfl
  rw [Nat.testBit_eq_decide_div_mod_eq] at t2
  have : (a ||| 2 ^ m) / 2 ^ i % 2 = 1 := by simpa using t2
  omega

theorem decay_falls {t y z : Int} (h0 : 0 ≤ t) (h1 : t < 274877906944) {m : Nat} (hm : m < 38) (hy : impl_Decay.f t = some y) : ∃ z, impl_Decay.f (Go.bits .or .u64 t (2 ^ m)) = some z ∧ z ≤ y := by
  obtain ⟨b0, b1, hb⟩ := or_bits h0 h1 hm
  have w1 : Word (Go.bits .or .u64 t (2 ^ m)) := ⟨b0, by omega⟩
  obtain ⟨z, _, hz⟩ := decay_both w1 (Nat.le_refl 500)
  refine ⟨z, hz, ?_⟩
  unfold impl_Decay.f at hy hz
  have q0 : Word t := ⟨h0, by omega⟩
  have q1 : t / 274877906944 = 0 := by omega
  have q2 : Go.bits .or .u64 t (2 ^ m) / 274877906944 = 0 := by omega
  rw [if_pos q0, if_pos q1] at hy
  rw [if_pos w1, if_pos q2] at hz
  exact go_falls hb Gdecays.vals decays_words 0 _ _ y z (by decide) (Int.le_refl _) (Int.le_refl _) hy hz
end Go.Proofs.YtbcjhnhkpbcmcaaDoor.Eq
