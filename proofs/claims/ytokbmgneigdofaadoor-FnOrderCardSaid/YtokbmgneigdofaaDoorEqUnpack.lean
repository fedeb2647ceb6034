/- What the reference's and the program's Unpack give: one closed form for both, of every format number and every word. -/
import Derived.Test.YtokbmgneigdofaaDoorPA3
import Derived.Test.YtokbmgneigdofaaDoorPA1
import Derived.Laws.BitsLemmas
import Derived.Lib.BitFns
namespace Go.Proofs.YtokbmgneigdofaaDoor.Eq
open Go.RowKit Go.Proofs.YtokbmgneigdofaaDoor.PA Go.Proofs.YtokbmgneigdofaaDoor.Given Go.Proofs.YtokbmgneigdofaaDoor.Num Go.Proofs.YtokbmgneigdofaaDoorW.PrintWords Go.Proofs.YtokbmgneigdofaaDoorW.PrintLast Go.Proofs.YtokbmgneigdofaaDoorW.Z
set_option linter.unusedVariables false

theorem wrap64_id {n : Int} (h : -9223372036854775808 ≤ n) (h' : n < 9223372036854775808) : wrap64 n = n := by unfold wrap64; omega

theorem lift {α : Type} {f : Nat → Option α} (hm : ∀ k, LeO (f k) (f (k + 1))) {n : Nat} {r : α} (h : f n = some r) {k : Nat} (hk : n ≤ k) : f k = some r := by
  obtain ⟨d, rfl⟩ : ∃ d, k = n + d := ⟨k - n, by omega⟩
  induction d with
  | zero => exact h
  | succ d ih => exact hm _ _ (ih (by omega))

theorem two_at (n : Int) (r : Int) (h : spec_l2Two.f 100 n = some r) {k : Nat} (hk : 100 ≤ k) : spec_l2Two.f k n = some r := lift (f := fun k => spec_l2Two.f k n) (fun k => spec_l2Two.mono n k) h hk
theorem two22 {k : Nat} (hk : 100 ≤ k) : spec_l2Two.f k 22 = some 4194304 := two_at _ _ (by decide +kernel) hk
theorem two23 {k : Nat} (hk : 100 ≤ k) : spec_l2Two.f k 23 = some 8388608 := two_at _ _ (by decide +kernel) hk
theorem two31 {k : Nat} (hk : 100 ≤ k) : spec_l2Two.f k 31 = some 2147483648 := two_at _ _ (by decide +kernel) hk
theorem two51 {k : Nat} (hk : 100 ≤ k) : spec_l2Two.f k 51 = some 2251799813685248 := two_at _ _ (by decide +kernel) hk
theorem two52 {k : Nat} (hk : 100 ≤ k) : spec_l2Two.f k 52 = some 4503599627370496 := two_at _ _ (by decide +kernel) hk
theorem two63 {k : Nat} (hk : 100 ≤ k) : spec_l2Two.f k 63 = some 9223372036854775808 := two_at _ _ (by decide +kernel) hk

/-! ### the two formats' numbers -/
def bP (f : Int) : Nat := if f = 0 then 23 else 52
def bTop (f : Int) : Int := if f = 0 then 8388608 else 4503599627370496
def bSign (f : Int) : Int := if f = 0 then 2147483648 else 9223372036854775808
def bInf (f : Int) : Int := if f = 0 then 2139095040 else 9218868437227405312
def bNan (f : Int) : Int := if f = 0 then 2143289344 else 9221120237041090560
def bLow (f : Int) : Int := if f = 0 then -149 else -1074
def fits (f w : Int) : Bool := if f = 0 then decide (w < 4294967296) else f == 1
def kind (f w : Int) : Int :=
  if fits f w = true then (if w % bSign f = 0 then 0 else if w % bSign f > bInf f then (if w % bSign f ≥ bNan f then 3 else 4) else if w % bSign f = bInf f then 2 else 1) else 4
def sgn (f w : Int) : Int := if fits f w = true then w / bSign f else 0
/-- exponent and significand of a finite number -/
def expo (f w : Int) : Int := if kind f w = 1 then (if w % bSign f ≥ bTop f then bLow f + (w % bSign f) / bTop f - 1 else bLow f - ((bP f + 1 - Lib.bitLen (w % bSign f).toNat : Nat) : Int)) else 0
def sig (f w : Int) : Int := if kind f w = 1 then (if w % bSign f ≥ bTop f then (w % bSign f) % bTop f + bTop f else (w % bSign f) * 2 ^ (bP f + 1 - Lib.bitLen (w % bSign f).toNat)) else 0

theorem l2Sign_eq (f : Int) {k : Nat} (hk : 100 ≤ k) : spec_l2Sign.f k f = some (bSign f) := by
  unfold spec_l2Sign.f bSign
  split
  · rw [two31 hk]; rfl
  · rw [two63 hk]; rfl
theorem l2P_eq (f : Int) : spec_l2P.f f = some ((bP f : Int) + 1) := by unfold spec_l2P.f bP; split <;> rfl
theorem l2Inf_eq (f : Int) {k : Nat} (hk : 100 ≤ k) : spec_l2Inf.f k f = some (bInf f) := by
  unfold spec_l2Inf.f bInf spec_l2P.f spec_l2Max.f
  split
  · rename_i h
    simp only [Option.bind_some]
    rw [show wrap64 (24 - 1) = 23 by decide +kernel, two23 hk]; decide +kernel
  · simp only [Option.bind_some]
    rw [show wrap64 (53 - 1) = 52 by decide +kernel, two52 hk]; decide +kernel
theorem l2Nan_eq (f : Int) {k : Nat} (hk : 100 ≤ k) : spec_l2Nan.f k f = some (bNan f) := by
  unfold spec_l2Nan.f
  rw [l2Inf_eq f hk]
  unfold spec_l2P.f bNan bInf
  split
  · simp only [Option.bind_some]
    rw [show wrap64 (24 - 2) = 22 by decide +kernel, two22 hk]; decide +kernel
  · simp only [Option.bind_some]
    rw [show wrap64 (53 - 2) = 51 by decide +kernel, two51 hk]; decide +kernel
theorem l2Fits_eq (f w : Int) : spec_l2Fits.f f w = some (fits f w) := by
  unfold spec_l2Fits.f spec_l2Format.f fits
  by_cases h : f = 0
  · subst h; rfl
  · simp only [if_neg h, Option.bind_some]
    by_cases h1 : f = 1
    · subst h1; rfl
    · simp [h1]
theorem l2Top_eq (f : Int) {k : Nat} (hk : 100 ≤ k) : spec_l2Two.f k (wrap64 ((bP f : Int) + 1 - 1)) = some (bTop f) := by
  unfold bP bTop
  split
  · rw [show wrap64 (((23 : Nat) : Int) + 1 - 1) = 23 by decide +kernel, two23 hk]
  · rw [show wrap64 (((52 : Nat) : Int) + 1 - 1) = 52 by decide +kernel, two52 hk]

theorem bitLen_double (x : Nat) (h0 : 0 < x) (h : x < 2 ^ 63) : Lib.bitLen (x * 2) = Lib.bitLen x + 1 := by
  rw [Lib.bitLen_half (x * 2) (by omega) (by omega), show x * 2 / 2 = x by omega]; omega

theorem low_loop (j : Nat) (hj : j ≤ 60) (d : Nat) : ∀ (k : Nat) (c s e g : Int), d < k → 0 < g → g < 2 ^ (j + 1) → j + 1 - Lib.bitLen g.toNat = d → -100000 ≤ e - d → e ≤ 100000 →
    spec_Unpack.l0 k (2 ^ j) c s e g = some (c, s, e - d, g * 2 ^ d) := by
  have hp : (2 : Int) ^ j ≤ 2 ^ 60 := by exact_mod_cast Nat.pow_le_pow_right (by decide : 0 < 2) hj
  have hs : (2 : Int) ^ (j + 1) = 2 ^ j * 2 := Int.pow_succ _ _
  have hcast : ((2 ^ j : Nat) : Int) = (2 : Int) ^ j := by norm_cast
  induction d with
  | zero =>
    intro k c s e g hk h0 h1 hd he he'
    obtain ⟨k, rfl⟩ : ∃ m, k = m + 1 := ⟨k - 1, by omega⟩
    have : ¬ g < 2 ^ j := fun hlt => by
      have := Lib.bitLen_le g.toNat j (by omega) (by have : (g.toNat : Int) < ((2 ^ j : Nat) : Int) := by rw [hcast]; omega
                                                     exact_mod_cast this)
      omega
    rw [spec_Unpack.l0, if_neg this]; simp
  | succ d ih =>
    intro k c s e g hk h0 h1 hd he he'
    obtain ⟨k, rfl⟩ : ∃ m, k = m + 1 := ⟨k - 1, by omega⟩
    have hlt : g < 2 ^ j := by
      by_cases hlt : g < 2 ^ j
      · exact hlt
      · exfalso
        have hq : (2 ^ j : Nat) ≤ g.toNat := by
          have : ((2 ^ j : Nat) : Int) ≤ (g.toNat : Int) := by rw [hcast]; omega
          exact_mod_cast this
        have hb : Lib.bitLen g.toNat = j + Lib.bitLen (g.toNat / 2 ^ j) := Lib.bitLen_shift j g.toNat hq (by omega)
        have h2 : g.toNat / 2 ^ j ≠ 0 := by
          intro h
          have := Nat.div_pos hq (Nat.two_pow_pos j)
          omega
        have h3 := Lib.bitLen_half (g.toNat / 2 ^ j) h2 (Nat.lt_of_le_of_lt (Nat.div_le_self _ _) (by omega))
        omega
    rw [spec_Unpack.l0, if_pos hlt, w64_id (by omega) (by omega), wrap64_id (by omega) (by omega),
      ih k c s (e - 1) (g * 2) (by omega) (by omega) (by omega) (by
        rw [show (g * 2).toNat = g.toNat * 2 by omega, bitLen_double g.toNat (by omega) (by omega)]; omega) (by omega) (by omega)]
    rw [Int.pow_succ', ← Int.mul_assoc, show e - 1 - (d : Int) = e - ((d + 1 : Nat) : Int) by omega]



theorem spec_j0 (f : Int) (hf : f = 0 ∨ f = 1) (x s : Int) (h0 : 0 ≤ x) (h1 : x < bSign f) {k : Nat} (hk : 300 ≤ k) :
    spec_Unpack.j0 k f x 0 s 0 0 = some (if x = 0 then (0, s, 0, 0) else if x > bInf f then (if x ≥ bNan f then (3, s, 0, 0) else (4, s, 0, 0)) else if x = bInf f then (2, s, 0, 0) else
      (1, s, if x ≥ bTop f then bLow f + x / bTop f - 1 else bLow f - ((bP f + 1 - Lib.bitLen x.toNat : Nat) : Int), if x ≥ bTop f then x % bTop f + bTop f else x * 2 ^ (bP f + 1 - Lib.bitLen x.toNat))) := by
  obtain ⟨k, rfl⟩ : ∃ m, k = m + 1 := ⟨k - 1, by omega⟩
  rw [spec_Unpack.j0]
  by_cases hx : x = 0
  · rw [if_pos hx, if_pos hx]
  rw [if_neg hx, if_neg hx, l2Inf_eq f (by omega), Option.bind_some]
  by_cases hi : x > bInf f
  · rw [if_pos hi, if_pos hi, l2Nan_eq f (by omega), Option.bind_some]
    split <;> rfl
  rw [if_neg hi, if_neg hi, Option.bind_some]
  by_cases he : x = bInf f
  · rw [if_pos he, if_pos he]
  rw [if_neg he, if_neg he, l2P_eq, Option.bind_some, l2Top_eq f (by omega), Option.bind_some]
  have ht : bTop f = 2 ^ bP f := by rcases hf with rfl | rfl <;> decide +kernel
  have hpp : bP f ≤ 60 := by rcases hf with rfl | rfl <;> decide
  have htp : 0 < bTop f := by rcases hf with rfl | rfl <;> decide
  have htn : bTop f ≤ 4503599627370496 := by rcases hf with rfl | rfl <;> decide
  have hib : bInf f < 9223372036854775808 := by rcases hf with rfl | rfl <;> decide
  have hlo : -1074 ≤ bLow f ∧ bLow f < 0 := by rcases hf with rfl | rfl <;> decide
  rw [if_neg (by omega)]
  have hm : spec_l2Min.f f = some (bLow f + (bP f : Int)) := by rcases hf with rfl | rfl <;> decide +kernel
  have hlw : wrap64 (wrap64 (bLow f + (bP f : Int) - ((bP f : Int) + 1)) + 1) = bLow f := by rcases hf with rfl | rfl <;> decide +kernel
  rw [hm, Option.bind_some, Option.bind_some, hlw]
  have hd0 : 0 ≤ x / bTop f := Int.ediv_nonneg h0 (by omega)
  have hdx : x / bTop f ≤ x := Int.ediv_le_self _ h0
  have hdx' : x / bTop f ≤ 4096 := by
    have h2 : x / bTop f < 4097 := by
      apply Int.ediv_lt_of_lt_mul htp
      rcases hf with rfl | rfl <;> simp only [bTop, bInf, if_pos, reduceIte, Int.reduceEq] at * <;> omega
    omega
  have hm0 := Int.emod_nonneg x (by omega : bTop f ≠ 0)
  have hm1 := Int.emod_lt_of_pos x htp
  rw [tdiv_id h0, tmod_id h0]
  obtain ⟨k, rfl⟩ : ∃ m, k = m + 1 := ⟨k - 1, by omega⟩
  by_cases hn : x ≥ bTop f
  · rw [if_pos hn, if_pos hn, if_pos hn, w64_id hd0 (by omega), wrap64_id (n := x / bTop f) (by omega) (by omega), wrap64_id (n := bLow f + x / bTop f) (by omega) (by omega), wrap64_id (by omega) (by omega), w64_id (by omega) (by omega), spec_Unpack.j1]
    obtain ⟨k, rfl⟩ : ∃ m, k = m + 1 := ⟨k - 1, by omega⟩
    rw [spec_Unpack.l0, if_neg (by omega)]
  · rw [if_neg hn, if_neg hn, if_neg hn, spec_Unpack.j1, Int.emod_eq_of_lt h0 (by omega), ht]
    have hb : bP f + 1 - Lib.bitLen x.toNat ≤ 100 := by omega
    rw [low_loop (bP f) hpp _ k 1 s (bLow f) x (by omega) (by omega) (by rw [Int.pow_succ, ← ht]; omega) rfl (by omega) (by omega)]

/-- The words, class by class. -/
def parts (f w : Int) : Int × Int × Int × Int := (kind f w, sgn f w, expo f w, sig f w)

theorem parts_good (f w : Int) (h : fits f w = true) : parts f w =
    (if w % bSign f = 0 then (0, w / bSign f, 0, 0) else if w % bSign f > bInf f then (if w % bSign f ≥ bNan f then (3, w / bSign f, 0, 0) else (4, w / bSign f, 0, 0)) else if w % bSign f = bInf f then (2, w / bSign f, 0, 0) else
      (1, w / bSign f, if w % bSign f ≥ bTop f then bLow f + (w % bSign f) / bTop f - 1 else bLow f - ((bP f + 1 - Lib.bitLen (w % bSign f).toNat : Nat) : Int), if w % bSign f ≥ bTop f then (w % bSign f) % bTop f + bTop f else (w % bSign f) * 2 ^ (bP f + 1 - Lib.bitLen (w % bSign f).toNat))) := by
  unfold parts expo sig sgn kind
  simp only [h, if_true]
  repeat' split
  all_goals first | rfl | (simp_all; done) | omega

theorem parts_bad (f w : Int) (h : fits f w = false) : parts f w = (4, 0, 0, 0) := by
  unfold parts expo sig sgn kind
  simp [h]

theorem fits_good {f w : Int} (h : fits f w = true) : f = 0 ∨ f = 1 := by
  unfold fits at h
  split at h
  · exact .inl ‹_›
  · exact .inr (by simpa using h)

theorem spec_Unpack_eq (f w : Int) (hw : Word w) {k : Nat} (hk : 300 ≤ k) : spec_Unpack.f k f w = some (parts f w) := by
  unfold spec_Unpack.f
  rw [l2Fits_eq, Option.bind_some]
  by_cases h : fits f w = true
  · have hf := fits_good h
    rw [if_pos h, l2Sign_eq f (by omega), Option.bind_some, Option.bind_some, parts_good f w h]
    have hs : 0 < bSign f ∧ bSign f < 18446744073709551616 := by rcases hf with rfl | rfl <;> decide
    have hw2 : w < 2 * bSign f := by
      unfold Word at hw
      rcases hf with rfl | rfl
      · simp [fits] at h; simp only [bSign, if_pos]; omega
      · simp only [bSign, Int.reduceEq, if_false]; omega
    unfold Word at hw
    by_cases hg : w ≥ bSign f
    · have e1 : w / bSign f = 1 := by
        rw [Int.ediv_eq_iff_of_pos hs.1]; omega
      have e2 : w % bSign f = w - bSign f := by rw [Int.emod_def, e1]; omega
      rw [if_pos hg, w64_id (by omega) (by omega), spec_j0 f hf _ 1 (by omega) (by omega) hk, e1, e2]
    · have e1 : w / bSign f = 0 := Int.ediv_eq_zero_of_lt hw.1 (by omega)
      have e2 : w % bSign f = w := Int.emod_eq_of_lt hw.1 (by omega)
      rw [if_neg hg, spec_j0 f hf _ 0 (by omega) (by omega) hk, e1, e2]
  · rw [if_neg h, parts_bad f w (by simpa using h)]

theorem bitLen_bounds (x : Nat) (h0 : x ≠ 0) (h : x < 2 ^ 64) : 2 ^ (Lib.bitLen x - 1) ≤ x ∧ x < 2 ^ Lib.bitLen x ∧ 1 ≤ Lib.bitLen x := by
  suffices H : ∀ (n x : Nat), x < 2 ^ n → n ≤ 64 → x ≠ 0 → 2 ^ (Lib.bitLen x - 1) ≤ x ∧ x < 2 ^ Lib.bitLen x ∧ 1 ≤ Lib.bitLen x from H 64 x h (Nat.le_refl _) h0
  intro n
  induction n with
  | zero => intro x hx _ h0; omega
  | succ n ih =>
    intro x hx hn h0
    have hlt : x < 2 ^ 64 := Nat.lt_of_lt_of_le hx (Nat.pow_le_pow_right (by decide) hn)
    have hb := Lib.bitLen_half x h0 hlt
    by_cases h1 : x = 1
    · subst h1; decide
    · obtain ⟨a, b, c⟩ := ih (x / 2) (by rw [Nat.pow_succ] at hx; omega) (by omega) (by omega)
      rw [hb]
      obtain ⟨m, hm⟩ : ∃ m, Lib.bitLen (x / 2) = m + 1 := ⟨Lib.bitLen (x / 2) - 1, by omega⟩
      rw [hm] at a b ⊢
      simp only [Nat.add_sub_cancel] at a
      rw [show 1 + (m + 1) - 1 = m + 1 by omega, show 1 + (m + 1) = (m + 1) + 1 by omega]
      rw [Nat.pow_succ] at b ⊢
      refine ⟨?_, ?_, by omega⟩
      · rw [Nat.pow_succ] at *; omega
      · rw [Nat.pow_succ] at *; omega

theorem shr_at0 {w : Int} : shr .u64 w 31 = w / 2147483648 := by unfold shr; rfl
theorem shr_top0 {w : Int} : shr .u64 w 23 = w / 8388608 := by unfold shr; rfl
theorem shr_half0 {w : Int} : shr .u64 w 22 = w / 4194304 := by unfold shr; rfl
theorem and_all0 {x : Int} (h : Word x) : Go.bits .and .u64 x 255 = x % 256 := and_mask 8 (by decide) x h.1 h.2
theorem and_frac0 {x : Int} (h : Word x) : Go.bits .and .u64 x (IntKind.u64.wrap (shl .u64 1 23 - 1)) = x % 8388608 := by
  rw [show IntKind.u64.wrap (shl .u64 1 23 - 1) = 2 ^ 23 - 1 by decide +kernel]; exact and_mask 23 (by decide) x h.1 h.2
theorem or_top0 {x : Int} (h0 : 0 ≤ x) (h1 : x < 8388608) : Go.bits .or .u64 x (shl .u64 1 23) = x + 8388608 := by
  obtain ⟨a, rfl⟩ := Int.eq_ofNat_of_zero_le h0
  have ha : a < 8388608 := by omega
  rw [show shl .u64 1 23 = ((8388608 : Nat) : Int) by decide +kernel, (bits_nat .u64 64 (by decide) wraps_u64 a 8388608 (by omega) (by decide)).2, Nat.or_comm]
  have := Nat.two_pow_add_eq_or_of_lt (i := 23) (b := a) (by omega) 1
  simp only [Nat.mul_one] at this
  rw [show 8388608 = 2 ^ 23 by rfl, ← this]; omega

theorem impl_Unpack_0 (w : Int) (hw : Word w) (hb : w < 4294967296) {k : Nat} (hk : 10 ≤ k) : impl_Unpack.f k 0 w = some (parts 0 w) := by
  have hw' := hw
  unfold Word at hw'
  have hfit : fits 0 w = true := by simp [fits]; exact hb
  rw [parts_good 0 w hfit]
  have eS : bSign 0 = 2147483648 := rfl
  have eT : bTop 0 = 8388608 := rfl
  have eI : bInf 0 = 2139095040 := rfl
  have eN : bNan 0 = 2143289344 := rfl
  have eL : bLow 0 = (-149) := rfl
  have eP : bP 0 = 23 := rfl
  rw [eS, eT, eI, eN, eL, eP]
  obtain ⟨k, rfl⟩ : ∃ m, k = m + 4 := ⟨k - 4, by omega⟩
  unfold impl_Unpack.f
  rw [show impl_formatOf.f 0 = some (24, -126, 127) by decide +kernel, Option.bind_some, show impl_goodFormat.f 0 = some true by decide +kernel, Option.bind_some, if_pos rfl]
  simp only []
  have wid : impl_format_width.f 24 (-126) 127 = some 32 := by decide +kernel
  have all : impl_format_allExp.f 24 (-126) 127 = some 255 := by decide +kernel
  have fit : impl_format_fits.f 24 (-126) 127 w = some true := by
    unfold impl_format_fits.f; rw [wid]; rw [Option.bind_some, if_neg (by decide), Option.bind_some, if_pos (by decide), show shl .u64 1 32 = 4294967296 by decide +kernel, decide_eq_true hb]
  rw [fit, Option.bind_some, impl_Unpack.j0, if_neg (by decide), wid, Option.bind_some, if_pos (by decide +kernel), if_pos (by decide +kernel), all, Option.bind_some, Option.bind_some]
  rw [show wrap64 (32 - 1) = 31 by decide +kernel, show wrap64 (24 - 1) = 23 by decide +kernel]
  rw [shr_at0, shr_top0, and_all0 ⟨by omega, by omega⟩, and_frac0 hw, wrap64_id (by omega) (by omega)]
  have hx : w % 2147483648 = w / 8388608 % 256 * 8388608 + w % 8388608 := by omega
  have e1 := Int.emod_nonneg (w / 8388608) (by decide : (256 : Int) ≠ 0)
  have e2 := Int.emod_lt_of_pos (w / 8388608) (by decide : (0 : Int) < 256)
  have f1 := Int.emod_nonneg w (by decide : (8388608 : Int) ≠ 0)
  have f2 := Int.emod_lt_of_pos w (by decide : (0 : Int) < 8388608)
  have s1 : 0 ≤ w / 2147483648 ∧ w / 2147483648 ≤ 1 := by omega
  generalize w % 2147483648 = x at *
  generalize w / 8388608 % 256 = E at *
  generalize w % 8388608 = F at *
  generalize w / 2147483648 = s at *
  clear hw' hb hfit fit hw
  by_cases h : E = 255
  · rw [if_pos h, impl_Unpack.j1]
    by_cases hF : F = 0
    · rw [if_pos (by simpa using hF), if_neg (by omega), if_neg (by omega), if_pos (by omega)]
    · rw [if_neg (by simpa using hF), all, Option.bind_some, if_pos h, if_pos (by decide +kernel), show wrap64 (24 - 2) = 22 by decide +kernel, shr_half0, impl_Unpack.j2]
      by_cases hq : F / 4194304 = 1
      · rw [if_pos (by simpa using hq), if_neg (by omega), if_pos (by omega), if_pos (by omega)]
      · rw [if_neg (by simpa using hq), all, Option.bind_some, if_pos h, if_neg (by omega), if_pos (by omega), if_neg (by omega)]
  · rw [if_neg h, impl_Unpack.j1, if_neg (by decide), all, Option.bind_some, if_neg h, impl_Unpack.j2, if_neg (by decide), all, Option.bind_some, if_neg h]
    by_cases hE : E = 0
    · rw [if_pos hE, impl_Unpack.j3]
      by_cases hF : F = 0
      · rw [if_pos (by simpa using hF), if_pos (by omega)]
      · have hxF : x = F := by omega
        have hb := bitLen_bounds F.toNat (by omega) (by omega)
        have hl := Lib.bitLen_le F.toNat 23 (by decide) (by omega)
        rw [if_neg (by simpa using hF), if_neg (by omega)]
        unfold impl_Zeros.f bits_LeadingZeros64.f
        rw [if_pos rfl, if_pos ⟨by omega, by omega⟩, Option.bind_some, Option.bind_some]
        have hz : wrap64 (wrap64 (64 + (64 - (Lib.bitLen F.toNat : Int))) - wrap64 (128 - 24)) = ((23 + 1 - Lib.bitLen F.toNat : Nat) : Int) := by
          rw [show wrap64 (128 - 24) = 104 by decide +kernel, wrap64_id (n := 64 + (64 - (Lib.bitLen F.toNat : Int))) (by omega) (by omega), wrap64_id (by omega) (by omega)]; omega
        have hE2 : wrap64 (wrap64 ((-126) - 24) + 1) = (-149) := by decide +kernel
        have hsh : shl .u64 F ((23 + 1 - Lib.bitLen F.toNat : Nat) : Int) = F * 2 ^ (23 + 1 - Lib.bitLen F.toNat) := by
          unfold shl
          rw [Int.toNat_natCast, Nat.min_eq_left (by show _ ≤ 64; omega), w64_id]
          · exact Int.mul_nonneg (by omega) (Int.le_of_lt (pow_pos2 _))
          · have : F < (2 : Int) ^ (Lib.bitLen F.toNat) := by
              have h2 : ((F.toNat : Nat) : Int) < ((2 ^ Lib.bitLen F.toNat : Nat) : Int) := by exact_mod_cast hb.2.1
              have h3 : ((2 ^ Lib.bitLen F.toNat : Nat) : Int) = (2 : Int) ^ Lib.bitLen F.toNat := by norm_cast
              omega
            calc F * 2 ^ (23 + 1 - Lib.bitLen F.toNat) < 2 ^ (Lib.bitLen F.toNat) * 2 ^ (23 + 1 - Lib.bitLen F.toNat) := Int.mul_lt_mul_of_pos_right this (pow_pos2 _)
              _ = 2 ^ (23 + 1) := by rw [← Int.pow_add]; congr 1; omega
              _ < 18446744073709551616 := by decide
        rw [hz, if_pos (by omega), hE2, hsh, wrap64_id (by omega) (by omega), if_neg (by omega), if_neg (by omega), if_neg (by omega), if_neg (by omega), if_neg (by omega), hxF]
    · rw [if_neg hE, impl_Unpack.j3, if_neg (by decide), if_pos (by omega), if_pos (by decide +kernel), show wrap64 (24 - 1) = 23 by decide +kernel, or_top0 f1 f2]
      have q1 : x / 8388608 = E := by omega
      have q2 : x % 8388608 = F := by omega
      rw [if_neg (by omega), if_neg (by omega), if_neg (by omega), if_pos (by omega), if_pos (by omega), q1, q2]
      rw [wrap64_id (n := E) (by omega) (by omega), wrap64_id (n := E - 1) (by omega) (by omega), wrap64_id (n := E - 1 + (-126)) (by omega) (by omega), wrap64_id (n := E - 1 + (-126) - 24) (by omega) (by omega), wrap64_id (by omega) (by omega)]
      rw [show E - 1 + (-126) - 24 + 1 = (-149) + E - 1 by omega]

theorem shr_at1 {w : Int} : shr .u64 w 63 = w / 9223372036854775808 := by unfold shr; rfl
theorem shr_top1 {w : Int} : shr .u64 w 52 = w / 4503599627370496 := by unfold shr; rfl
theorem shr_half1 {w : Int} : shr .u64 w 51 = w / 2251799813685248 := by unfold shr; rfl
theorem and_all1 {x : Int} (h : Word x) : Go.bits .and .u64 x 2047 = x % 2048 := and_mask 11 (by decide) x h.1 h.2
theorem and_frac1 {x : Int} (h : Word x) : Go.bits .and .u64 x (IntKind.u64.wrap (shl .u64 1 52 - 1)) = x % 4503599627370496 := by
  rw [show IntKind.u64.wrap (shl .u64 1 52 - 1) = 2 ^ 52 - 1 by decide +kernel]; exact and_mask 52 (by decide) x h.1 h.2
theorem or_top1 {x : Int} (h0 : 0 ≤ x) (h1 : x < 4503599627370496) : Go.bits .or .u64 x (shl .u64 1 52) = x + 4503599627370496 := by
  obtain ⟨a, rfl⟩ := Int.eq_ofNat_of_zero_le h0
  have ha : a < 4503599627370496 := by omega
  rw [show shl .u64 1 52 = ((4503599627370496 : Nat) : Int) by decide +kernel, (bits_nat .u64 64 (by decide) wraps_u64 a 4503599627370496 (by omega) (by decide)).2, Nat.or_comm]
  have := Nat.two_pow_add_eq_or_of_lt (i := 52) (b := a) (by omega) 1
  simp only [Nat.mul_one] at this
  rw [show 4503599627370496 = 2 ^ 52 by rfl, ← this]; omega

theorem impl_Unpack_1 (w : Int) (hw : Word w) (hb : w < 18446744073709551616) {k : Nat} (hk : 10 ≤ k) : impl_Unpack.f k 1 w = some (parts 1 w) := by
  have hw' := hw
  unfold Word at hw'
  have hfit : fits 1 w = true := by simp [fits]
  rw [parts_good 1 w hfit]
  have eS : bSign 1 = 9223372036854775808 := rfl
  have eT : bTop 1 = 4503599627370496 := rfl
  have eI : bInf 1 = 9218868437227405312 := rfl
  have eN : bNan 1 = 9221120237041090560 := rfl
  have eL : bLow 1 = (-1074) := rfl
  have eP : bP 1 = 52 := rfl
  rw [eS, eT, eI, eN, eL, eP]
  obtain ⟨k, rfl⟩ : ∃ m, k = m + 4 := ⟨k - 4, by omega⟩
  unfold impl_Unpack.f
  rw [show impl_formatOf.f 1 = some (53, -1022, 1023) by decide +kernel, Option.bind_some, show impl_goodFormat.f 1 = some true by decide +kernel, Option.bind_some, if_pos rfl]
  simp only []
  have wid : impl_format_width.f 53 (-1022) 1023 = some 64 := by decide +kernel
  have all : impl_format_allExp.f 53 (-1022) 1023 = some 2047 := by decide +kernel
  have fit : impl_format_fits.f 53 (-1022) 1023 w = some true := by
    unfold impl_format_fits.f; rw [wid]; rfl
  rw [fit, Option.bind_some, impl_Unpack.j0, if_neg (by decide), wid, Option.bind_some, if_pos (by decide +kernel), if_pos (by decide +kernel), all, Option.bind_some, Option.bind_some]
  rw [show wrap64 (64 - 1) = 63 by decide +kernel, show wrap64 (53 - 1) = 52 by decide +kernel]
  rw [shr_at1, shr_top1, and_all1 ⟨by omega, by omega⟩, and_frac1 hw, wrap64_id (by omega) (by omega)]
  have hx : w % 9223372036854775808 = w / 4503599627370496 % 2048 * 4503599627370496 + w % 4503599627370496 := by omega
  have e1 := Int.emod_nonneg (w / 4503599627370496) (by decide : (2048 : Int) ≠ 0)
  have e2 := Int.emod_lt_of_pos (w / 4503599627370496) (by decide : (0 : Int) < 2048)
  have f1 := Int.emod_nonneg w (by decide : (4503599627370496 : Int) ≠ 0)
  have f2 := Int.emod_lt_of_pos w (by decide : (0 : Int) < 4503599627370496)
  have s1 : 0 ≤ w / 9223372036854775808 ∧ w / 9223372036854775808 ≤ 1 := by omega
  generalize w % 9223372036854775808 = x at *
  generalize w / 4503599627370496 % 2048 = E at *
  generalize w % 4503599627370496 = F at *
  generalize w / 9223372036854775808 = s at *
  clear hw' hb hfit fit hw
  by_cases h : E = 2047
  · rw [if_pos h, impl_Unpack.j1]
    by_cases hF : F = 0
    · rw [if_pos (by simpa using hF), if_neg (by omega), if_neg (by omega), if_pos (by omega)]
    · rw [if_neg (by simpa using hF), all, Option.bind_some, if_pos h, if_pos (by decide +kernel), show wrap64 (53 - 2) = 51 by decide +kernel, shr_half1, impl_Unpack.j2]
      by_cases hq : F / 2251799813685248 = 1
      · rw [if_pos (by simpa using hq), if_neg (by omega), if_pos (by omega), if_pos (by omega)]
      · rw [if_neg (by simpa using hq), all, Option.bind_some, if_pos h, if_neg (by omega), if_pos (by omega), if_neg (by omega)]
  · rw [if_neg h, impl_Unpack.j1, if_neg (by decide), all, Option.bind_some, if_neg h, impl_Unpack.j2, if_neg (by decide), all, Option.bind_some, if_neg h]
    by_cases hE : E = 0
    · rw [if_pos hE, impl_Unpack.j3]
      by_cases hF : F = 0
      · rw [if_pos (by simpa using hF), if_pos (by omega)]
      · have hxF : x = F := by omega
        have hb := bitLen_bounds F.toNat (by omega) (by omega)
        have hl := Lib.bitLen_le F.toNat 52 (by decide) (by omega)
        rw [if_neg (by simpa using hF), if_neg (by omega)]
        unfold impl_Zeros.f bits_LeadingZeros64.f
        rw [if_pos rfl, if_pos ⟨by omega, by omega⟩, Option.bind_some, Option.bind_some]
        have hz : wrap64 (wrap64 (64 + (64 - (Lib.bitLen F.toNat : Int))) - wrap64 (128 - 53)) = ((52 + 1 - Lib.bitLen F.toNat : Nat) : Int) := by
          rw [show wrap64 (128 - 53) = 75 by decide +kernel, wrap64_id (n := 64 + (64 - (Lib.bitLen F.toNat : Int))) (by omega) (by omega), wrap64_id (by omega) (by omega)]; omega
        have hE2 : wrap64 (wrap64 ((-1022) - 53) + 1) = (-1074) := by decide +kernel
        have hsh : shl .u64 F ((52 + 1 - Lib.bitLen F.toNat : Nat) : Int) = F * 2 ^ (52 + 1 - Lib.bitLen F.toNat) := by
          unfold shl
          rw [Int.toNat_natCast, Nat.min_eq_left (by show _ ≤ 64; omega), w64_id]
          · exact Int.mul_nonneg (by omega) (Int.le_of_lt (pow_pos2 _))
          · have : F < (2 : Int) ^ (Lib.bitLen F.toNat) := by
              have h2 : ((F.toNat : Nat) : Int) < ((2 ^ Lib.bitLen F.toNat : Nat) : Int) := by exact_mod_cast hb.2.1
              have h3 : ((2 ^ Lib.bitLen F.toNat : Nat) : Int) = (2 : Int) ^ Lib.bitLen F.toNat := by norm_cast
              omega
            calc F * 2 ^ (52 + 1 - Lib.bitLen F.toNat) < 2 ^ (Lib.bitLen F.toNat) * 2 ^ (52 + 1 - Lib.bitLen F.toNat) := Int.mul_lt_mul_of_pos_right this (pow_pos2 _)
              _ = 2 ^ (52 + 1) := by rw [← Int.pow_add]; congr 1; omega
              _ < 18446744073709551616 := by decide
        rw [hz, if_pos (by omega), hE2, hsh, wrap64_id (by omega) (by omega), if_neg (by omega), if_neg (by omega), if_neg (by omega), if_neg (by omega), if_neg (by omega), hxF]
    · rw [if_neg hE, impl_Unpack.j3, if_neg (by decide), if_pos (by omega), if_pos (by decide +kernel), show wrap64 (53 - 1) = 52 by decide +kernel, or_top1 f1 f2]
      have q1 : x / 4503599627370496 = E := by omega
      have q2 : x % 4503599627370496 = F := by omega
      rw [if_neg (by omega), if_neg (by omega), if_neg (by omega), if_pos (by omega), if_pos (by omega), q1, q2]
      rw [wrap64_id (n := E) (by omega) (by omega), wrap64_id (n := E - 1) (by omega) (by omega), wrap64_id (n := E - 1 + (-1022)) (by omega) (by omega), wrap64_id (n := E - 1 + (-1022) - 53) (by omega) (by omega), wrap64_id (by omega) (by omega)]
      rw [show E - 1 + (-1022) - 53 + 1 = (-1074) + E - 1 by omega]

theorem impl_Unpack_eq (f w : Int) (hw : Word w) {k : Nat} (hk : 10 ≤ k) : impl_Unpack.f k f w = some (parts f w) := by
  by_cases h : fits f w = true
  · rcases fits_good h with rfl | rfl
    · exact impl_Unpack_0 w hw (by simpa [fits] using h) hk
    · exact impl_Unpack_1 w hw hw.2 hk
  · rw [parts_bad f w (by simpa using h)]
    obtain ⟨k, rfl⟩ : ∃ m, k = m + 1 := ⟨k - 1, by omega⟩
    unfold impl_Unpack.f
    by_cases h0 : f = 0
    · subst h0
      have hn : ¬ w < 4294967296 := by simpa [fits] using h
      rw [show impl_formatOf.f 0 = some (24, -126, 127) by decide +kernel, Option.bind_some, show impl_goodFormat.f 0 = some true by decide +kernel, Option.bind_some, if_pos rfl]
      have fit : impl_format_fits.f 24 (-126) 127 w = some false := by
        unfold impl_format_fits.f
        rw [show impl_format_width.f 24 (-126) 127 = some 32 by decide +kernel, Option.bind_some, if_neg (by decide), Option.bind_some, if_pos (by decide), show shl .u64 1 32 = 4294967296 by decide +kernel, decide_eq_false hn]
      simp only []
      rw [fit, Option.bind_some, impl_Unpack.j0, if_pos (by decide)]
    · have h1 : f ≠ 1 := by rintro rfl; simp [fits] at h
      unfold impl_formatOf.f impl_goodFormat.f
      rw [if_neg h0, if_neg h0, Option.bind_some, Option.bind_some, if_neg (by simpa using h1), impl_Unpack.j0, if_pos rfl]

end Go.Proofs.YtokbmgneigdofaaDoor.Eq
