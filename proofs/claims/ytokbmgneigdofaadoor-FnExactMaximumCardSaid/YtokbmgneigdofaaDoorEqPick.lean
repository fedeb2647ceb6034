/- What Minimum and Maximum give: one closed form for the reference's and the program's. -/
import Derived.Test.YtokbmgneigdofaaDoorEqCompare
import Derived.Test.YtokbmgneigdofaaDoorPB3
namespace Go.Proofs.YtokbmgneigdofaaDoor.Eq
open Go.RowKit Go.Proofs.YtokbmgneigdofaaDoor.PA Go.Proofs.YtokbmgneigdofaaDoor.PB Go.Proofs.YtokbmgneigdofaaDoor.Given Go.Proofs.YtokbmgneigdofaaDoor.Num Go.Proofs.YtokbmgneigdofaaDoorW.PrintWords Go.Proofs.YtokbmgneigdofaaDoorW.PrintLast Go.Proofs.YtokbmgneigdofaaDoorW.PrintMore
set_option linter.unusedVariables false

theorem l2Bad_eq (f : Int) {k : Nat} (hk : 300 ≤ k) : spec_l2Bad.f k f = some (bNan f, 1) := by
  unfold spec_l2Bad.f spec_l2Format.f
  rw [l2Nan_eq f (by omega), l2Nan_eq 1 (by omega)]
  by_cases h0 : f = 0
  · rw [if_pos h0, Option.bind_some, if_pos rfl]; rfl
  · rw [if_neg h0, Option.bind_some]
    by_cases h1 : f = 1
    · rw [if_pos (by simpa using h1)]; rfl
    · rw [if_neg (by simpa using h1), Option.bind_some]
      unfold bNan
      rw [if_neg h0, if_neg (by decide)]

theorem l3Nan_eq (f : Int) (s : Bool) {k : Nat} (hk : 300 ≤ k) : spec_l3Nan.f k f s = some (bNan f, if s = true then 1 else 0) := by
  unfold spec_l3Nan.f
  rw [l2Bad_eq f hk, l2Nan_eq f (by omega)]
  cases s <;> rfl

theorem sgn_01 (f w : Int) (hw : Word w) : sgn f w = 0 ∨ sgn f w = 1 := by
  unfold sgn
  split
  · rename_i h
    have hb := fits_bound hw h
    have hs : 0 < bSign f := by rcases fits_good h with rfl | rfl <;> decide
    have h0 := Int.ediv_nonneg hb.1 (Int.le_of_lt hs)
    have h1 : w / bSign f < 2 := Int.ediv_lt_of_lt_mul hs hb.2
    omega
  · exact .inl rfl

theorem spec_Pick_eq (f a b : Int) (last : Bool) (wa : Word a) (wb : Word b) {k : Nat} (hk : 310 ≤ k) : spec_l5Pick.f k f a b (!last) = some (chosenV f a b last) := by
  obtain ⟨k, rfl⟩ : ∃ m, k = m + 3 := ⟨k - 3, by omega⟩
  unfold spec_l5Pick.f chosenV
  rw [l2Fits_eq, l2Fits_eq, Option.bind_some, Option.bind_some]
  by_cases fa : fits f a = true
  · rw [if_pos fa, spec_l5Pick.j0]
    by_cases fb : fits f b = true
    · rw [if_neg (by simp [fb]), if_pos ⟨fa, fb⟩, spec_Unpack_eq' f a wa (by omega), spec_Unpack_eq' f b wb (by omega), Option.bind_some, Option.bind_some]
      unfold spec_l3Quiet.f
      simp only [Option.bind_some]
      by_cases qa : kind f a ≥ 3
      · rw [if_pos (by simpa using qa), spec_l5Pick.j1, if_pos rfl]
        by_cases h4 : kind f a = 4
        · rw [if_pos h4, if_pos (c := kind f a = 4 ∨ kind f b = 4) (.inl h4), l3Nan_eq f _ (by omega)]; rfl
        · rw [if_neg h4, l3Nan_eq f _ (by omega)]
          by_cases h5 : kind f b = 4
          · rw [if_pos (c := kind f a = 4 ∨ kind f b = 4) (.inr h5)]; simp [h5]
          · rw [if_neg (c := kind f a = 4 ∨ kind f b = 4) (by omega), if_pos (c := kind f a ≥ 3 ∨ kind f b ≥ 3) (.inl qa)]; simp [h5]
      · rw [if_neg (by simpa using qa), spec_l5Pick.j1]
        by_cases qb : kind f b ≥ 3
        · rw [if_pos (by simpa using qb), if_neg (by omega), l3Nan_eq f _ (by omega)]
          by_cases h5 : kind f b = 4
          · rw [if_pos (c := kind f a = 4 ∨ kind f b = 4) (.inr h5)]; simp [h5]
          · rw [if_neg (c := kind f a = 4 ∨ kind f b = 4) (by omega), if_pos (c := kind f a ≥ 3 ∨ kind f b ≥ 3) (.inr qb)]; simp [h5]
        · rw [if_neg (by simpa using qb), if_neg (c := kind f a = 4 ∨ kind f b = 4) (by omega), if_neg (c := kind f a ≥ 3 ∨ kind f b ≥ 3) (by omega), spec_order_eq f a b wa wb fa fb (by omega), Option.bind_some]
          have sa := sgn_01 f a wa
          have sb := sgn_01 f b wb
          have flip : ∀ o : Int, ((decide (o ≤ 0)) == (!last)) = ((decide (0 < o)) == last) := by
            intro o
            have : decide (o ≤ 0) = !decide (0 < o) := by by_cases h : 0 < o <;> simp [h] <;> omega
            rw [this]; cases decide (0 < o) <;> cases last <;> rfl
          unfold Given.pickOrder
          generalize order f a b = o
          generalize sgn f a = x at *
          generalize sgn f b = y at *
          by_cases ho : o = 0
          · subst ho
            rw [if_pos rfl, if_pos rfl, spec_l5Pick.j2, flip, flip]
            by_cases hxy : x = y
            · subst hxy
              rw [if_neg (by simp)]
              rw [Int.sub_self, show wrap64 0 = 0 by decide +kernel]
              split <;> rfl
            · rw [if_pos (by simpa using hxy)]
              split <;> rfl
          · rw [if_neg ho, if_neg ho, spec_l5Pick.j2, if_neg (by decide), flip]
            split <;> rfl
    · rw [if_pos (by simpa using fb), if_neg (fun h => fb h.2), l2Bad_eq f (by omega)]; rfl
  · rw [if_neg fa, spec_l5Pick.j0, if_pos rfl, if_neg (fun h => fa h.1), l2Bad_eq f (by omega)]; rfl

theorem spec_Minimum_eq (f a b : Int) (wa : Word a) (wb : Word b) {k : Nat} (hk : 310 ≤ k) : spec_Minimum.f k f a b = some (chosenV f a b false) := by
  unfold spec_Minimum.f
  have h := spec_Pick_eq f a b false wa wb hk
  rw [Bool.not_false] at h
  rw [h]; rfl
theorem spec_Maximum_eq (f a b : Int) (wa : Word a) (wb : Word b) {k : Nat} (hk : 310 ≤ k) : spec_Maximum.f k f a b = some (chosenV f a b true) := by
  unfold spec_Maximum.f
  have h := spec_Pick_eq f a b true wa wb hk
  rw [Bool.not_true] at h
  rw [h]; rfl
theorem impl_Minimum_eq (f a b : Int) (wa : Word a) (wb : Word b) : impl_Minimum.f f a b = some (chosenV f a b false) := by
  unfold impl_Minimum.f impl_chosen.f
  rw [if_pos ⟨wa, wb⟩]; rfl
theorem impl_Maximum_eq (f a b : Int) (wa : Word a) (wb : Word b) : impl_Maximum.f f a b = some (chosenV f a b true) := by
  unfold impl_Maximum.f impl_chosen.f
  rw [if_pos ⟨wa, wb⟩]; rfl

end Go.Proofs.YtokbmgneigdofaaDoor.Eq
