/- What NextUp and Compare give: one closed form each for the reference's and the program's. -/
import Derived.Test.YtokbmgneigdofaaDoorEqUnpack
import Derived.Test.YtokbmgneigdofaaDoorPA6
import Derived.Test.YtokbmgneigdofaaDoorPA4
import Derived.Test.YtokbmgneigdofaaDoorPA4
import Derived.Test.YtokbmgneigdofaaDoorPA5
namespace Go.Proofs.YtokbmgneigdofaaDoor.Eq
open Go.RowKit Go.Proofs.YtokbmgneigdofaaDoor.PA Go.Proofs.YtokbmgneigdofaaDoor.Given Go.Proofs.YtokbmgneigdofaaDoor.Num Go.Proofs.YtokbmgneigdofaaDoorW.PrintWords Go.Proofs.YtokbmgneigdofaaDoorW.PrintLast Go.Proofs.YtokbmgneigdofaaDoorW.Z
set_option linter.unusedVariables false

theorem parts_1 (f w : Int) : (parts f w).1 = kind f w := rfl
theorem parts_2 (f w : Int) : (parts f w).2.1 = sgn f w := rfl
theorem spec_Unpack_eq' (f w : Int) (hw : Word w) {k : Nat} (hk : 300 ≤ k) : spec_Unpack.f k f w = some (kind f w, sgn f w, expo f w, sig f w) := spec_Unpack_eq f w hw hk
theorem impl_Unpack_eq' (f w : Int) (hw : Word w) {k : Nat} (hk : 10 ≤ k) : impl_Unpack.f k f w = some (kind f w, sgn f w, expo f w, sig f w) := impl_Unpack_eq f w hw hk
theorem kind_range (f w : Int) : 0 ≤ kind f w ∧ kind f w ≤ 4 := by
  unfold kind
  repeat' split
  all_goals omega

/-- The number that stands next above. -/
def next (f w : Int) : Int := if kind f w ≥ 3 then bNan f else if kind f w = 0 then 1 else if sgn f w = 1 then IntKind.u64.wrap (w - 1) else if kind f w = 2 then w else IntKind.u64.wrap (w + 1)

theorem kind_bad {f w : Int} (h : fits f w = false) : kind f w = 4 := by unfold kind; simp [h]
theorem fits_fmt {f w : Int} (h0 : f ≠ 0) (h1 : f ≠ 1) : fits f w = false := by unfold fits; simp [h0, h1]

theorem spec_NextUp_eq (f w : Int) (hw : Word w) {k : Nat} (hk : 300 ≤ k) : spec_NextUp.f k f w = some (next f w) := by
  unfold spec_NextUp.f spec_l2Format.f
  rw [spec_Unpack_eq' f w hw hk, Option.bind_some, l2Nan_eq f (by omega), l2Nan_eq 1 (by omega)]
  simp only []
  unfold next
  by_cases h0 : f = 0
  · rw [if_pos h0, Option.bind_some, if_pos rfl]
    repeat' split
    all_goals rfl
  · rw [if_neg h0, Option.bind_some]
    by_cases h1 : f = 1
    · rw [if_pos (by simpa using h1)]
      repeat' split
      all_goals rfl
    · rw [if_neg (by simpa using h1), kind_bad (fits_fmt h0 h1), if_pos (by decide), Option.bind_some]
      unfold bNan
      rw [if_neg h0, if_neg (by decide)]

theorem nan_fmt (f : Int) : (impl_formatOf.f f).bind (fun b => impl_format_nan.f b.1 b.2.1 b.2.2) = some (bNan f) := by
  unfold impl_formatOf.f bNan
  by_cases h : f = 0
  · rw [if_pos h, if_pos h]; decide +kernel
  · rw [if_neg h, if_neg h]; decide +kernel

theorem impl_NextUp_eq (f w : Int) (hw : Word w) {k : Nat} (hk : 10 ≤ k) : impl_NextUp.f k f w = some (next f w) := by
  unfold impl_NextUp.f
  have hn := nan_fmt f
  unfold impl_formatOf.f at *
  generalize (if f = 0 then ((24 : Int), (-126 : Int), (127 : Int)) else (53, -1022, 1023)) = T at *
  obtain ⟨p, q, r⟩ := T
  rw [Option.bind_some] at hn
  rw [Option.bind_some, impl_Unpack_eq' f w hw hk, Option.bind_some]
  simp only [] at *
  have hr := kind_range f w
  obtain ⟨k, rfl⟩ : ∃ m, k = m + 1 := ⟨k - 1, by omega⟩
  unfold next
  by_cases h3 : kind f w = 3
  · rw [if_pos h3, impl_NextUp.j0, if_pos rfl, if_pos (c := kind f w ≥ 3) (by omega), hn]; rfl
  · rw [if_neg h3, impl_NextUp.j0]
    by_cases h4 : kind f w = 4
    · rw [if_pos (by simpa using h4), if_pos (c := kind f w ≥ 3) (by omega), hn]; rfl
    · rw [if_neg (by simpa using h4), if_neg (c := kind f w ≥ 3) (by omega)]
      repeat' split
      all_goals rfl

theorem andNot_top (j : Nat) (hj : j < 64) (a : Nat) (ha : a < 2 ^ (j + 1)) : Go.bits .andNot .u64 (a : Int) ((2 ^ j : Nat) : Int) = ((a % 2 ^ j : Nat) : Int) := by
  have e : BitVec.ofNat 64 a &&& ~~~ BitVec.ofNat 64 (2 ^ j) = BitVec.ofNat 64 (a % 2 ^ j) := by
    apply BitVec.eq_of_getLsbD_eq
    intro i hi
    simp only [BitVec.getLsbD_and, BitVec.getLsbD_not, BitVec.getLsbD_ofNat, hi, decide_true, Bool.true_and, Nat.testBit_mod_two_pow, Nat.testBit_two_pow]
    by_cases h : i < j
    · simp [h, show j ≠ i by omega]
    · by_cases h' : i = j
      · subst h'; simp
      · have : a.testBit i = false := Nat.testBit_lt_two_pow (Nat.lt_of_lt_of_le ha (Nat.pow_le_pow_right (by decide) (by omega)))
        simp [h, this]
  have hlt : a % 2 ^ j < 2 ^ 64 := Nat.lt_of_lt_of_le (Nat.mod_lt _ (Nat.two_pow_pos j)) (Nat.pow_le_pow_right (by decide) (by omega))
  show IntKind.u64.wrap (((BitVec.ofInt 64 (a : Int) &&& ~~~ BitVec.ofInt 64 ((2 ^ j : Nat) : Int)).toNat : Nat) : Int) = _
  rw [BitVec.ofInt_natCast, BitVec.ofInt_natCast, e, BitVec.toNat_ofNat, Nat.mod_eq_of_lt hlt, w64_id (by omega) (by omega)]

/-- The order of finite and infinite numbers, as a number: the size with its sign. -/
def key (f w : Int) : Int := if sgn f w = 1 then -(w % bSign f) else w % bSign f
def order (f a b : Int) : Int := if key f a < key f b then -1 else if key f a > key f b then 1 else 0

theorem fits_bound {f w : Int} (hw : Word w) (h : fits f w = true) : 0 ≤ w ∧ w < 2 * bSign f := by
  unfold Word at hw
  rcases fits_good h with rfl | rfl
  · simp [fits] at h; simp only [bSign, if_pos]; omega
  · simp only [bSign, Int.reduceEq, if_false]; omega

theorem andNot_sign {f w : Int} (hw : Word w) (h : fits f w = true) : Go.bits .andNot .u64 w (bSign f) = w % bSign f := by
  have hb := fits_bound hw h
  obtain ⟨a, rfl⟩ := Int.eq_ofNat_of_zero_le hb.1
  rcases fits_good h with rfl | rfl
  · have : (a : Int) < 4294967296 := by have := hb.2; simp only [bSign, if_pos] at this; omega
    have := andNot_top 31 (by decide) a (by omega)
    exact this
  · have : (a : Int) < 18446744073709551616 := hw.2
    have := andNot_top 63 (by decide) a (by omega)
    exact this

theorem impl_key_eq (f w : Int) (hw : Word w) (h : fits f w = true) {k : Nat} (hk : 10 ≤ k) : impl_key.f k f w = some (key f w) := by
  unfold impl_key.f
  have hz : (impl_formatOf.f f).bind (fun b => impl_format_zero.f b.1 b.2.1 b.2.2 1) = some (bSign f) := by rcases fits_good h with rfl | rfl <;> decide +kernel
  unfold impl_formatOf.f at *
  rw [Option.bind_some] at hz
  rw [Option.bind_some, hz, Option.bind_some, impl_Unpack_eq' f w hw hk, Option.bind_some]
  simp only []
  rw [andNot_sign hw h]
  have hs : 0 < bSign f ∧ bSign f ≤ 9223372036854775808 := by rcases fits_good h with rfl | rfl <;> decide
  have h0 := Int.emod_nonneg w (by omega : bSign f ≠ 0)
  have h1 := Int.emod_lt_of_pos w hs.1
  unfold key
  rw [wrap64_id (n := w % bSign f) (by omega) (by omega)]
  split
  · rw [wrap64_id (by omega) (by omega)]
  · rfl

theorem order_core (x y : Int) (A B q : Bool) (hx : 0 ≤ x) (hy : 0 ≤ y) (hq : q = true ↔ x = 0 ∧ y = 0) :
    (if q = true then some 0 else if (A != B) = true then (if A = true then some (-1) else some 1) else if x = y then some 0 else if (decide (x < y) == !A) = true then some (-1) else some (1 : Int)) =
    some (if (if A = true then -x else x) < (if B = true then -y else y) then -1 else if (if A = true then -x else x) > (if B = true then -y else y) then 1 else 0) := by
  by_cases h : x = 0 ∧ y = 0
  · obtain ⟨rfl, rfl⟩ := h
    rw [if_pos (hq.2 ⟨rfl, rfl⟩)]
    cases A <;> cases B <;> rfl
  · rw [if_neg (fun e => h (hq.1 e))]
    have h' : 0 < x ∨ 0 < y := by omega
    by_cases h1 : x < y
    · have hne : x ≠ y := by omega
      have h2 : ¬ y < x := by omega
      cases A <;> cases B <;> simp [h1, hne, h2] <;> omega
    · by_cases h2 : x = y
      · subst h2
        cases A <;> cases B <;> simp <;> omega
      · have h3 : y < x := by omega
        cases A <;> cases B <;> simp [h1, h2, h3] <;> omega

theorem spec_order_eq (f a b : Int) (ha : Word a) (hb : Word b) (fa : fits f a = true) (fb : fits f b = true) {k : Nat} (hk : 300 ≤ k) : spec_l5Order.f k f a b = some (order f a b) := by
  have ba := fits_bound ha fa
  have bb := fits_bound hb fb
  obtain ⟨k, rfl⟩ : ∃ m, k = m + 1 := ⟨k - 1, by omega⟩
  have hf := fits_good fa
  have hs0 : 0 < bSign f := by rcases hf with rfl | rfl <;> decide
  have sa : (sgn f a = 1) = (decide (a ≥ bSign f) = true) := by
    unfold sgn; rw [if_pos fa, Int.ediv_eq_iff_of_pos hs0]; simp only [decide_eq_true_eq, eq_iff_iff]; omega
  have sb : (sgn f b = 1) = (decide (b ≥ bSign f) = true) := by
    unfold sgn; rw [if_pos fb, Int.ediv_eq_iff_of_pos hs0]; simp only [decide_eq_true_eq, eq_iff_iff]; omega
  have la : decide (a < bSign f) = !decide (a ≥ bSign f) := by by_cases h : a < bSign f <;> simp [h] <;> omega
  unfold spec_l5Order.f order key
  simp only [sa, sb]
  rw [l2Sign_eq f (by omega), Option.bind_some, Option.bind_some]
  rw [if_neg (by omega), if_neg (by omega), tmod_id ba.1, tmod_id bb.1]
  have hX : ∀ q : Bool, (q = true ↔ a % bSign f = 0 ∧ b % bSign f = 0) → spec_l5Order.j0 (k + 1) f a b (a % bSign f) (b % bSign f) q = some (if (if decide (a ≥ bSign f) = true then -(a % bSign f) else a % bSign f) < (if decide (b ≥ bSign f) = true then -(b % bSign f) else b % bSign f) then -1 else if (if decide (a ≥ bSign f) = true then -(a % bSign f) else a % bSign f) > (if decide (b ≥ bSign f) = true then -(b % bSign f) else b % bSign f) then 1 else 0) := by
    intro q hq
    rw [spec_l5Order.j0, l2Sign_eq f (by omega)]
    simp only [Option.bind_some]
    rw [la, ← order_core _ _ (decide (a ≥ bSign f)) (decide (b ≥ bSign f)) q (Int.emod_nonneg _ (by omega)) (Int.emod_nonneg _ (by omega)) hq]
    simp only [decide_eq_true_eq]
  split
  · exact hX _ (by simp only [beq_iff_eq]; omega)
  · exact hX false (by simp; omega)

/-- What Compare gives. -/
def comp (f a b : Int) (s : Bool) : Int × Int :=
  if fits f a = true ∧ fits f b = true then (if kind f a ≥ 3 ∨ kind f b ≥ 3 then (if s = true ∨ kind f a = 4 ∨ kind f b = 4 then (2, 1) else (2, 0)) else (order f a b, 0)) else (2, 1)

theorem spec_Compare_eq (f a b : Int) (s : Bool) (ha : Word a) (hb : Word b) {k : Nat} (hk : 310 ≤ k) : spec_Compare.f k f a b s = some (comp f a b s) := by
  obtain ⟨k, rfl⟩ : ∃ m, k = m + 2 := ⟨k - 2, by omega⟩
  unfold spec_Compare.f comp
  rw [l2Fits_eq, l2Fits_eq, Option.bind_some, Option.bind_some]
  by_cases fa : fits f a = true
  · rw [if_pos fa, spec_Compare.j0]
    by_cases fb : fits f b = true
    · rw [if_neg (by simp [fb]), if_pos ⟨fa, fb⟩, spec_Unpack_eq' f a ha (by omega), spec_Unpack_eq' f b hb (by omega), Option.bind_some, Option.bind_some]
      unfold spec_l3Quiet.f
      simp only [Option.bind_some]
      by_cases qa : kind f a ≥ 3
      · rw [if_pos (by simpa using qa), spec_Compare.j1, if_neg (by decide), if_pos (c := kind f a ≥ 3 ∨ kind f b ≥ 3) (.inl qa)]
        by_cases hs : s = true
        · simp [hs]
        · by_cases h4 : kind f a = 4
          · simp [h4]
          · by_cases h5 : kind f b = 4
            · simp [h5]
            · simp [hs, h4, h5]
      · rw [if_neg (by simpa using qa), spec_Compare.j1]
        by_cases qb : kind f b ≥ 3
        · rw [if_neg (by simpa using qb), if_pos (c := kind f a ≥ 3 ∨ kind f b ≥ 3) (.inr qb)]
          by_cases hs : s = true
          · simp [hs]
          · by_cases h4 : kind f a = 4
            · simp [h4]
            · by_cases h5 : kind f b = 4
              · simp [h5]
              · simp [hs, h4, h5]
        · rw [if_pos (by simpa using qb), if_neg (by omega), spec_order_eq f a b ha hb fa fb (by omega)]; rfl
    · rw [if_pos (by simpa using fb), if_neg (fun h => fb h.2)]
  · rw [if_neg fa, spec_Compare.j0, if_pos rfl, if_neg (fun h => fa h.1)]

theorem impl_fits_eq (f w : Int) (hf : f = 0 ∨ f = 1) : (impl_formatOf.f f).bind (fun b => impl_format_fits.f b.1 b.2.1 b.2.2 w) = some (fits f w) := by
  rcases hf with rfl | rfl
  · rw [show impl_formatOf.f 0 = some (24, -126, 127) by decide +kernel, Option.bind_some]
    unfold impl_format_fits.f
    simp only []
    rw [show impl_format_width.f 24 (-126) 127 = some 32 by decide +kernel, Option.bind_some, if_neg (by decide), Option.bind_some, if_pos (by decide), show shl .u64 1 32 = 4294967296 by decide +kernel]; rfl
  · rw [show impl_formatOf.f 1 = some (53, -1022, 1023) by decide +kernel, Option.bind_some]
    unfold impl_format_fits.f
    simp only []
    rw [show impl_format_width.f 53 (-1022) 1023 = some 64 by decide +kernel, Option.bind_some, if_pos rfl]
    rfl

theorem isNaN_eq (f w b c d : Int) : impl_isNaN.f (kind f w) b c d = some (decide (kind f w ≥ 3)) := by
  have hr := kind_range f w
  unfold impl_isNaN.f
  by_cases h3 : kind f w = 3
  · rw [if_pos h3]; simp [h3]
  · rw [if_neg h3]
    by_cases h4 : kind f w = 4
    · simp [h4]
    · congr 1; rw [decide_eq_false (by omega)]; simpa using h4

theorem impl_Compare_eq (f a b : Int) (s : Bool) (ha : Word a) (hb : Word b) {k : Nat} (hk : 20 ≤ k) : impl_Compare.f k f a b s = some (comp f a b s) := by
  obtain ⟨k, rfl⟩ : ∃ m, k = m + 2 := ⟨k - 2, by omega⟩
  unfold impl_Compare.f comp
  by_cases hf : f = 0 ∨ f = 1
  · have ea := impl_fits_eq f a hf
    have eb := impl_fits_eq f b hf
    unfold impl_formatOf.f at *
    rw [Option.bind_some] at ea eb
    rw [Option.bind_some, show impl_goodFormat.f f = some true by rcases hf with rfl | rfl <;> decide +kernel, Option.bind_some, if_pos rfl, ea, eb, Option.bind_some, Option.bind_some]
    by_cases fa : fits f a = true
    · rw [if_pos fa, impl_Compare.j0]
      by_cases fb : fits f b = true
      · rw [if_neg (by simp [fb]), if_pos ⟨fa, fb⟩, impl_Unpack_eq' f a ha (by omega), impl_Unpack_eq' f b hb (by omega), Option.bind_some, Option.bind_some]
        simp only []
        rw [isNaN_eq, isNaN_eq, Option.bind_some, Option.bind_some]
        by_cases qa : kind f a ≥ 3
        · rw [if_pos (by simpa using qa), impl_Compare.j1, if_pos rfl, if_pos (c := kind f a ≥ 3 ∨ kind f b ≥ 3) (.inl qa)]
          by_cases hs : s = true
          · simp [hs]
          · by_cases h4 : kind f a = 4
            · simp [h4]
            · by_cases h5 : kind f b = 4
              · simp [h5]
              · simp [hs, h4, h5]
        · rw [if_neg (by simpa using qa), impl_Compare.j1]
          by_cases qb : kind f b ≥ 3
          · rw [if_pos (by simpa using qb), if_pos (c := kind f a ≥ 3 ∨ kind f b ≥ 3) (.inr qb)]
            by_cases hs : s = true
            · simp [hs]
            · by_cases h4 : kind f a = 4
              · simp [h4]
              · by_cases h5 : kind f b = 4
                · simp [h5]
                · simp [hs, h4, h5]
          · rw [if_neg (by simpa using qb), if_neg (by omega), impl_key_eq f a ha fa (by omega), impl_key_eq f b hb fb (by omega), Option.bind_some, Option.bind_some]
            unfold order
            repeat' split
            all_goals rfl
      · rw [if_pos (by simpa using fb), if_neg (fun h => fb h.2)]
    · rw [if_neg fa, impl_Compare.j0, if_pos rfl, if_neg (fun h => fa h.1)]
  · have h0 : f ≠ 0 := fun h => hf (.inl h)
    have h1 : f ≠ 1 := fun h => hf (.inr h)
    unfold impl_formatOf.f impl_goodFormat.f
    rw [Option.bind_some, if_neg h0, Option.bind_some, if_neg (by simpa using h1), impl_Compare.j0, if_pos rfl, if_neg (fun h => by rw [fits_fmt h0 h1] at h; cases h.1)]

end Go.Proofs.YtokbmgneigdofaaDoor.Eq
