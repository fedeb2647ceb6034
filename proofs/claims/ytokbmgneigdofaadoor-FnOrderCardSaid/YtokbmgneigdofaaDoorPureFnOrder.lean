/- The plain law FnOrder: what the row's function computes is true of every input; ahead of it the closed forms of Minimum and Maximum, and what the reference's draws give. -/
import Derived.Test.YtokbmgneigdofaaDoorEqCompare
import Derived.Test.YtokbmgneigdofaaDoorPB3
import Derived.Test.YtokbmgneigdofaaDoorPB3
import Derived.Test.YtokbmgneigdofaaDoorPB4
import Derived.Test.YtokbmgneigdofaaDoorNum
import Derived.Laws.BitsLemmas
import Derived.Test.YtokbmgneigdofaaDoorPB7
namespace Go.Proofs.YtokbmgneigdofaaDoor.Eq
open Go.RowKit Go.Proofs.YtokbmgneigdofaaDoor.PA Go.Proofs.YtokbmgneigdofaaDoor.PB Go.Proofs.YtokbmgneigdofaaDoor.Given Go.Proofs.YtokbmgneigdofaaDoor.Num Go.Proofs.YtokbmgneigdofaaDoorW.PrintWords Go.Proofs.YtokbmgneigdofaaDoorW.PrintLast Go.Proofs.YtokbmgneigdofaaDoorW.Z
set_option linter.unusedVariables false

theorem l2Bad_eq (f : Int) {k : Nat} (hk : 300 ≤ k) : spec_l2Bad.f k f = some (bNan f, 1) := by
  unfold spec_l2Bad.f spec_l2Format.f
  rw [l2Nan_eq f (by omega), l2Nan_eq 1 (by omega)]
  by_cases h0 : f = 0
  · rw [if_pos h0, Option.bind_some, if_pos rfl]; rfl
  · rw [if_neg h0, Option.bind_some]
    by_cases h1 : f = 1
    · rw [if_pos (by simpa using h1)]; rfl
    · rw [if_neg (by simpa using h1), Option.bind_some]
      unfold bNan
      rw [if_neg h0, if_neg (by decide)]

theorem l3Nan_eq (f : Int) (s : Bool) {k : Nat} (hk : 300 ≤ k) : spec_l3Nan.f k f s = some (bNan f, if s = true then 1 else 0) := by
  unfold spec_l3Nan.f
  rw [l2Bad_eq f hk, l2Nan_eq f (by omega)]
  cases s <;> rfl

theorem sgn_01 (f w : Int) (hw : Word w) : sgn f w = 0 ∨ sgn f w = 1 := by
  unfold sgn
  split
  · rename_i h
    have hb := fits_bound hw h
    have hs : 0 < bSign f := by rcases fits_good h with rfl | rfl <;> decide
    have h0 := Int.ediv_nonneg hb.1 (Int.le_of_lt hs)
    have h1 : w / bSign f < 2 := Int.ediv_lt_of_lt_mul hs hb.2
    omega
  · exact .inl rfl

theorem spec_Pick_eq (f a b : Int) (last : Bool) (wa : Word a) (wb : Word b) {k : Nat} (hk : 310 ≤ k) : spec_l5Pick.f k f a b (!last) = some (chosenV f a b last) := by
  obtain ⟨k, rfl⟩ : ∃ m, k = m + 3 := ⟨k - 3, by omega⟩
  unfold spec_l5Pick.f chosenV
  rw [l2Fits_eq, l2Fits_eq, Option.bind_some, Option.bind_some]
  by_cases fa : fits f a = true
  · rw [if_pos fa, spec_l5Pick.j0]
    by_cases fb : fits f b = true
    · rw [if_neg (by simp [fb]), if_pos ⟨fa, fb⟩, spec_Unpack_eq' f a wa (by omega), spec_Unpack_eq' f b wb (by omega), Option.bind_some, Option.bind_some]
      unfold spec_l3Quiet.f
      simp only [Option.bind_some]
      by_cases qa : kind f a ≥ 3
      · rw [if_pos (by simpa using qa), spec_l5Pick.j1, if_pos rfl]
        by_cases h4 : kind f a = 4
        · rw [if_pos h4, if_pos (c := kind f a = 4 ∨ kind f b = 4) (.inl h4), l3Nan_eq f _ (by omega)]; rfl
        · rw [if_neg h4, l3Nan_eq f _ (by omega)]
          by_cases h5 : kind f b = 4
          · rw [if_pos (c := kind f a = 4 ∨ kind f b = 4) (.inr h5)]; simp [h5]
          · rw [if_neg (c := kind f a = 4 ∨ kind f b = 4) (by omega), if_pos (c := kind f a ≥ 3 ∨ kind f b ≥ 3) (.inl qa)]; simp [h5]
      · rw [if_neg (by simpa using qa), spec_l5Pick.j1]
        by_cases qb : kind f b ≥ 3
        · rw [if_pos (by simpa using qb), if_neg (by omega), l3Nan_eq f _ (by omega)]
          by_cases h5 : kind f b = 4
          · rw [if_pos (c := kind f a = 4 ∨ kind f b = 4) (.inr h5)]; simp [h5]
          · rw [if_neg (c := kind f a = 4 ∨ kind f b = 4) (by omega), if_pos (c := kind f a ≥ 3 ∨ kind f b ≥ 3) (.inr qb)]; simp [h5]
        · rw [if_neg (by simpa using qb), if_neg (c := kind f a = 4 ∨ kind f b = 4) (by omega), if_neg (c := kind f a ≥ 3 ∨ kind f b ≥ 3) (by omega), spec_order_eq f a b wa wb fa fb (by omega), Option.bind_some]
          have sa := sgn_01 f a wa
          have sb := sgn_01 f b wb
          have flip : ∀ o : Int, ((decide (o ≤ 0)) == (!last)) = ((decide (0 < o)) == last) := by
            intro o
            have : decide (o ≤ 0) = !decide (0 < o) := by by_cases h : 0 < o <;> simp [h] <;> omega
            rw [this]; cases decide (0 < o) <;> cases last <;> rfl
          unfold Given.pickOrder
          generalize order f a b = o
          generalize sgn f a = x at *
          generalize sgn f b = y at *
          by_cases ho : o = 0
          · subst ho
            rw [if_pos rfl, if_pos rfl, spec_l5Pick.j2, flip, flip]
            by_cases hxy : x = y
            · subst hxy
              rw [if_neg (by simp)]
              rw [Int.sub_self, show wrap64 0 = 0 by decide +kernel]
              split <;> rfl
            · rw [if_pos (by simpa using hxy)]
              split <;> rfl
          · rw [if_neg ho, if_neg ho, spec_l5Pick.j2, if_neg (by decide), flip]
            split <;> rfl
    · rw [if_pos (by simpa using fb), if_neg (fun h => fb h.2), l2Bad_eq f (by omega)]; rfl
  · rw [if_neg fa, spec_l5Pick.j0, if_pos rfl, if_neg (fun h => fa h.1), l2Bad_eq f (by omega)]; rfl

theorem spec_Minimum_eq (f a b : Int) (wa : Word a) (wb : Word b) {k : Nat} (hk : 310 ≤ k) : spec_Minimum.f k f a b = some (chosenV f a b false) := by
  unfold spec_Minimum.f
  have h := spec_Pick_eq f a b false wa wb hk
  rw [Bool.not_false] at h
  rw [h]; rfl
theorem spec_Maximum_eq (f a b : Int) (wa : Word a) (wb : Word b) {k : Nat} (hk : 310 ≤ k) : spec_Maximum.f k f a b = some (chosenV f a b true) := by
  unfold spec_Maximum.f
  have h := spec_Pick_eq f a b true wa wb hk
  rw [Bool.not_true] at h
  rw [h]; rfl
theorem impl_Minimum_eq (f a b : Int) (wa : Word a) (wb : Word b) : impl_Minimum.f f a b = some (chosenV f a b false) := by
  unfold impl_Minimum.f impl_chosen.f
  rw [if_pos ⟨wa, wb⟩]; rfl
theorem impl_Maximum_eq (f a b : Int) (wa : Word a) (wb : Word b) : impl_Maximum.f f a b = some (chosenV f a b true) := by
  unfold impl_Maximum.f impl_chosen.f
  rw [if_pos ⟨wa, wb⟩]; rfl

end Go.Proofs.YtokbmgneigdofaaDoor.Eq

namespace Go.Proofs.YtokbmgneigdofaaDoor.Draw
open Go.RowKit Go.Proofs.YtokbmgneigdofaaDoor.PA Go.Proofs.YtokbmgneigdofaaDoor.PB Go.Proofs.YtokbmgneigdofaaDoor.Num Go.Proofs.YtokbmgneigdofaaDoorW.PrintWords Go.Proofs.YtokbmgneigdofaaDoorW.PrintLast Go.Proofs.YtokbmgneigdofaaDoorW.Z
set_option linter.unusedVariables false

def Bytes (l : List Int) : Prop := l.length ≤ 140737488351232 ∧ ∀ x ∈ l, 0 ≤ x ∧ x ≤ 255

theorem bytes_of {l : List Int} (h : l.length * 1 ≤ 140737488351232) (hb : ∀ x ∈ l, (Lit.int .u8 x).wf = true) : Bytes l := by
  refine ⟨by omega, fun x hx => ?_⟩
  have := hb x hx
  simp [Lit.wf, IntKind.min, IntKind.max, IntKind.signed, IntKind.bits] at this
  omega

theorem w64d {n : Int} (h : -9223372036854775808 ≤ n) (h' : n < 9223372036854775808) : wrap64 n = n := by unfold wrap64; omega

theorem rd_byte {l : List Int} (h : Bytes l) (i : Int) : 0 ≤ rd l i ∧ rd l i ≤ 255 := by
  unfold rd
  rw [List.getD_eq_getElem?_getD]
  by_cases hi : i.toNat < l.length
  · rw [List.getElem?_eq_getElem hi]; exact h.2 _ (List.getElem_mem hi)
  · rw [List.getElem?_eq_none (by omega)]; decide

theorem xor_nonneg (a b : Int) (ha : 0 ≤ a ∧ a < 9223372036854775808) (hb : 0 ≤ b ∧ b < 9223372036854775808) : 0 ≤ Go.bits .xor .i64 a b := by
  obtain ⟨a, rfl⟩ := Int.eq_ofNat_of_zero_le ha.1
  obtain ⟨b, rfl⟩ := Int.eq_ofNat_of_zero_le hb.1
  have h1 : a < 2 ^ 63 := by omega
  have h2 : b < 2 ^ 63 := by omega
  have h3 : a ^^^ b < 2 ^ 63 := Nat.xor_lt_two_pow h1 h2
  have e : (BitVec.ofInt 64 (a : Int) ^^^ BitVec.ofInt 64 (b : Int)).toNat = a ^^^ b := by
    rw [BitVec.ofInt_natCast, BitVec.ofInt_natCast, BitVec.toNat_xor, BitVec.toNat_ofNat, BitVec.toNat_ofNat, Nat.mod_eq_of_lt (by omega), Nat.mod_eq_of_lt (by omega)]
  show 0 ≤ IntKind.i64.wrap (((BitVec.ofInt 64 (a : Int) ^^^ BitVec.ofInt 64 (b : Int)).toNat : Nat) : Int)
  rw [e, IntKind.wrap_i64]
  omega

theorem take_ok {l : List Int} (h : Bytes l) {p n : Int} (p0 : 0 ≤ p) (p1 : p ≤ 1000000) (n1 : 1 ≤ n) {k : Nat} (hk : 1 ≤ k) :
    ∃ x, spec_l1Take.f k l p n = some (x, p + 1) ∧ 0 ≤ x ∧ x < n := by
  obtain ⟨k, rfl⟩ : ∃ m, k = m + 1 := ⟨k - 1, by omega⟩
  unfold spec_l1Take.f
  rw [if_neg (by omega)]
  have hp1 : wrap64 (p + 1) = p + 1 := w64d (by omega) (by omega)
  have hlen := h.1
  by_cases he : l.length = 0
  · have : ((l.length : Int) == 0) = true := by simp [he]
    rw [this, spec_l1Take.j0, if_pos rfl, hp1]
    exact ⟨0, rfl, by omega, by omega⟩
  have hf : ((l.length : Int) == 0) = false := by simpa using he
  rw [hf, spec_l1Take.j0, if_neg (by decide), hp1]
  have hL : (0 : Int) < (l.length : Int) := by omega
  have hm0 := Int.emod_nonneg p (by omega : (l.length : Int) ≠ 0)
  have hm1 := Int.emod_lt_of_pos p hL
  have hn0 := Int.emod_nonneg (p * 7 + 3) (by omega : (l.length : Int) ≠ 0)
  have hn1 := Int.emod_lt_of_pos (p * 7 + 3) hL
  have hd0 : 0 ≤ p / (l.length : Int) := Int.ediv_nonneg p0 (by omega)
  have hd1 : p / (l.length : Int) ≤ p := Int.ediv_le_self _ p0
  have slow : ∃ x, (if (l.length : Int) = 0 then (none) else (if 0 ≤ (Int.tmod p (l.length : Int)) then (if (Int.tmod p (l.length : Int)) < (l.length : Int) then (if 0 ≤ (Int.tmod (wrap64 ((wrap64 (p * 7)) + 3)) (l.length : Int)) then (if (Int.tmod (wrap64 ((wrap64 (p * 7)) + 3)) (l.length : Int)) < (l.length : Int) then (if n = 0 then (none) else (some (Int.tmod (Go.bits .xor .i64 (wrap64 ((wrap64 ((wrap64 ((wrap64 ((wrap64 (rd l (Int.tmod p (l.length : Int)))) * 131)) + (wrap64 ((wrap64 (rd l (Int.tmod (wrap64 ((wrap64 (p * 7)) + 3)) (l.length : Int)))) * 1117)))) + (wrap64 (p * 29)))) + (wrap64 ((wrap64 (Int.tdiv p (l.length : Int))) * 53)))) (wrap64 (Int.tdiv (wrap64 ((wrap64 ((wrap64 ((wrap64 ((wrap64 (rd l (Int.tmod p (l.length : Int)))) * 131)) + (wrap64 ((wrap64 (rd l (Int.tmod (wrap64 ((wrap64 (p * 7)) + 3)) (l.length : Int)))) * 1117)))) + (wrap64 (p * 29)))) + (wrap64 ((wrap64 (Int.tdiv p (l.length : Int))) * 53)))) 64))) n, p + 1))) else (none)) else (none)) else (none)) else (none)) : Option (Int × Int)) = some (x, p + 1) ∧ 0 ≤ x ∧ x < n := by
    rw [w64d (n := p * 7) (by omega) (by omega), w64d (n := p * 7 + 3) (by omega) (by omega), tmod_id p0, tmod_id (a := p * 7 + 3) (by omega), tdiv_id p0]
    rw [if_neg (by omega), if_pos hm0, if_pos hm1, if_pos hn0, if_pos hn1, if_neg (by omega)]
    have ra := rd_byte h (p % (l.length : Int))
    have rb := rd_byte h ((p * 7 + 3) % (l.length : Int))
    generalize rd l (p % (l.length : Int)) = a at *
    generalize rd l ((p * 7 + 3) % (l.length : Int)) = b at *
    generalize p / (l.length : Int) = d at *
    rw [w64d (n := a) (by omega) (by omega), w64d (n := b) (by omega) (by omega), w64d (n := d) (by omega) (by omega), w64d (n := a * 131) (by omega) (by omega), w64d (n := b * 1117) (by omega) (by omega), w64d (n := p * 29) (by omega) (by omega), w64d (n := d * 53) (by omega) (by omega),
      w64d (n := a * 131 + b * 1117) (by omega) (by omega), w64d (n := a * 131 + b * 1117 + p * 29) (by omega) (by omega), w64d (n := a * 131 + b * 1117 + p * 29 + d * 53) (by omega) (by omega), tdiv_id (by omega), w64d (by omega) (by omega)]
    have hx := xor_nonneg (a * 131 + b * 1117 + p * 29 + d * 53) ((a * 131 + b * 1117 + p * 29 + d * 53) / 64) (by omega) (by omega)
    rw [tmod_id hx]
    exact ⟨_, rfl, Int.emod_nonneg _ (by omega), Int.emod_lt_of_pos _ (by omega)⟩
  by_cases hpl : p < (l.length : Int)
  · rw [if_pos hpl]
    by_cases hn : n ≤ 256
    · rw [if_pos hn, if_pos p0, if_neg (by omega)]
      have ra := rd_byte h p
      rw [w64d (by omega) (by omega), tmod_id ra.1]
      exact ⟨_, rfl, Int.emod_nonneg _ (by omega), Int.emod_lt_of_pos _ (by omega)⟩
    · rw [if_neg hn]; exact slow
  · rw [if_neg hpl]; exact slow

theorem bits_l3 (d : Nat) : ∀ (k : Nat) (p w i : Int), d < k → Word w → i ≤ 64 → 0 ≤ i → 64 - i = d → ∃ v, spec_l1Bits.l3 k p w i = some (v, p) ∧ Word v := by
  induction d with
  | zero =>
    intro k p w i hk hw h1 h2 hd
    obtain ⟨k, rfl⟩ : ∃ m, k = m + 1 := ⟨k - 1, by omega⟩
    rw [spec_l1Bits.l3, if_neg (by omega)]; exact ⟨w, rfl, hw⟩
  | succ d ih =>
    intro k p w i hk hw h1 h2 hd
    obtain ⟨k, rfl⟩ : ∃ m, k = m + 1 := ⟨k - 1, by omega⟩
    rw [spec_l1Bits.l3, if_pos (by omega), w64d (by omega) (by omega)]
    exact ih k p _ (i + 1) (by omega) (by rw [w64]; exact word_mod _) (by omega) (by omega) (by omega)

theorem bits_l2 (d : Nat) : ∀ (k : Nat) (p n w i : Int), d + 70 < k → Word w → 0 ≤ n → n ≤ 64 → i ≤ 64 → 0 ≤ i → 64 - i = d → ∃ v, spec_l1Bits.l2 k p n w i = some (v, p) ∧ Word v := by
  induction d with
  | zero =>
    intro k p n w i hk hw hn hn' h1 h2 hd
    obtain ⟨k, rfl⟩ : ∃ m, k = m + 1 := ⟨k - 1, by omega⟩
    rw [spec_l1Bits.l2, if_neg (by omega)]
    exact bits_l3 (64 - n).toNat k p w n (by omega) hw hn' hn (by omega)
  | succ d ih =>
    intro k p n w i hk hw hn hn' h1 h2 hd
    obtain ⟨k, rfl⟩ : ∃ m, k = m + 1 := ⟨k - 1, by omega⟩
    rw [spec_l1Bits.l2, if_pos (by omega), w64d (by omega) (by omega)]
    exact ih k p n _ (i + 1) (by omega) (by rw [w64]; exact word_mod _) hn hn' (by omega) (by omega) (by omega)

theorem bits_j3 {k : Nat} {p n w : Int} (hk : 150 ≤ k) (hw : Word w) (hn : 0 ≤ n) (hn' : n ≤ 64) : ∃ v, spec_l1Bits.j3 k p n w = some (v, p) ∧ Word v := by
  obtain ⟨k, rfl⟩ : ∃ m, k = m + 1 := ⟨k - 1, by omega⟩
  rw [spec_l1Bits.j3]
  exact bits_l2 (64 - n).toNat k p n w n (by omega) hw hn hn' hn' hn (by omega)

theorem bits_l1 (d : Nat) : ∀ (k : Nat) (p n a w i : Int), d + 160 < k → Word w → 0 ≤ n → n ≤ 64 → a ≤ 64 → i ≤ a → 0 ≤ i → a - i = d → ∃ v, spec_l1Bits.l1 k p n a w i = some (v, p) ∧ Word v := by
  induction d with
  | zero =>
    intro k p n a w i hk hw hn hn' h0 h1 h2 hd
    obtain ⟨k, rfl⟩ : ∃ m, k = m + 1 := ⟨k - 1, by omega⟩
    rw [spec_l1Bits.l1, if_neg (by omega)]
    exact bits_j3 (by omega) hw hn hn'
  | succ d ih =>
    intro k p n a w i hk hw hn hn' h0 h1 h2 hd
    obtain ⟨k, rfl⟩ : ∃ m, k = m + 1 := ⟨k - 1, by omega⟩
    rw [spec_l1Bits.l1, if_pos (by omega), w64d (by omega) (by omega)]
    exact ih k p n a _ (i + 1) (by omega) (by rw [w64]; exact word_mod _) hn hn' h0 (by omega) (by omega) (by omega)

theorem bits_j1 {k : Nat} {l : List Int} {p n x8 x9 x10 i : Int} {b : Bool} (h1 : 0 ≤ i) (h2 : i < 8) : ∃ w, spec_l1Bits.j1 (k + 1) l p n x8 x9 x10 i b = spec_l1Bits.l0 k l p n x8 w (i + 1) ∧ Word w := by
  rw [spec_l1Bits.j1, w64d (by omega) (by omega)]
  repeat' split
  all_goals exact ⟨_, rfl, by rw [w64 (_ : Int)]; exact word_mod _⟩

theorem bits_l0 {l : List Int} (h : Bytes l) (d : Nat) : ∀ (k : Nat) (p n x8 w i : Int), 2 * d + 240 < k → Word w → 0 ≤ n → n ≤ 64 → 0 ≤ p → p ≤ 900000 - d → i ≤ 8 → 0 ≤ i → 8 - i = d → ∃ v q, spec_l1Bits.l0 k l p n x8 w i = some (v, q) ∧ Word v ∧ p ≤ q ∧ q ≤ p + d + 1 := by
  induction d with
  | zero =>
    intro k p n x8 w i hk hw hn hn' hp hp' h1 h2 hd
    obtain ⟨k, rfl⟩ : ∃ m, k = m + 1 := ⟨k - 1, by omega⟩
    rw [spec_l1Bits.l0, if_neg (by omega)]
    split
    · obtain ⟨x, hx, x0, x1⟩ := take_ok h (p := p) (n := 64) hp (by omega) (by omega) (k := k) (by omega)
      rw [hx, Option.bind_some]
      obtain ⟨v, hv, hw'⟩ := bits_l1 x.toNat k (p + 1) n x w 0 (by omega) hw hn hn' (by omega) (by omega) (by omega) (by omega)
      exact ⟨v, p + 1, hv, hw', by omega, by omega⟩
    · obtain ⟨v, hv, hw'⟩ := bits_j3 (k := k) (p := p) (by omega) hw hn hn'
      exact ⟨v, p, hv, hw', by omega, by omega⟩
  | succ d ih =>
    intro k p n x8 w i hk hw hn hn' hp hp' h1 h2 hd
    obtain ⟨k, rfl⟩ : ∃ m, k = m + 2 := ⟨k - 2, by omega⟩
    rw [spec_l1Bits.l0, if_pos (by omega)]
    obtain ⟨x, hx, x0, x1⟩ := take_ok h (p := p) (n := 256) hp (by omega) (by omega) (k := k + 1) (by omega)
    rw [hx, Option.bind_some]
    have key : ∀ b, ∃ v q, spec_l1Bits.j1 (k + 1) l (p + 1) n x8 x w i b = some (v, q) ∧ Word v ∧ p ≤ q ∧ q ≤ p + ((d + 1 : Nat) : Int) + 1 := by
      intro b
      obtain ⟨w', hw', hW⟩ := bits_j1 (k := k) (l := l) (p := p + 1) (n := n) (x8 := x8) (x9 := x) (x10 := w) (i := i) (b := b) h2 (by omega)
      rw [hw']
      obtain ⟨v, q, hv, a, b', c⟩ := ih k (p + 1) n x8 w' (i + 1) (by omega) hW hn hn' (by omega) (by omega) (by omega) (by omega) (by omega)
      exact ⟨v, q, hv, a, by omega, by omega⟩
    repeat' split
    all_goals exact key _

theorem bits_ok {l : List Int} (h : Bytes l) {p n : Int} (p0 : 0 ≤ p) (p1 : p ≤ 800000) (n0 : 0 ≤ n) (n1 : n ≤ 64) {k : Nat} (hk : 300 ≤ k) :
    ∃ v q, spec_l1Bits.f k l p n = some (v, q) ∧ Word v ∧ 0 ≤ q ∧ q ≤ p + 20 := by
  unfold spec_l1Bits.f
  obtain ⟨x, hx, x0, x1⟩ := take_ok h (p := p) (n := 5) p0 (by omega) (by omega) (k := k) (by omega)
  rw [hx, Option.bind_some]
  obtain ⟨v, q, hv, a, b, c⟩ := bits_l0 h 8 k (p + 1) n x 0 0 (by omega) ⟨by omega, by omega⟩ n0 n1 (by omega) (by omega) (by omega) (by omega) (by omega)
  exact ⟨v, q, hv, a, by omega, by omega⟩
end Go.Proofs.YtokbmgneigdofaaDoor.Draw

namespace Go.Proofs.YtokbmgneigdofaaDoor.Pure
open Go.Proofs.YtokbmgneigdofaaDoor.Eq Go.Proofs.YtokbmgneigdofaaDoor.Draw Go.RowKit Go.Proofs.YtokbmgneigdofaaDoor.PA Go.Proofs.YtokbmgneigdofaaDoor.PB Go.Proofs.YtokbmgneigdofaaDoor.Given Go.Proofs.YtokbmgneigdofaaDoor.Num Go.Proofs.YtokbmgneigdofaaDoorW.PrintWords Go.Proofs.YtokbmgneigdofaaDoorW.PrintLast Go.Proofs.YtokbmgneigdofaaDoorW.Z
set_option linter.unusedVariables false

theorem word_wrap (n : Int) : Word (IntKind.u64.wrap n) := by rw [w64]; exact word_mod _

/-! ### the draws -/
theorem drawFormat_ok {l : List Int} (h : Bytes l) {p : Int} (p0 : 0 ≤ p) (p1 : p ≤ 1000) {k : Nat} (hk : 300 ≤ k) : ∃ f m, spec_l2DrawFormat.f k l p = some (f, m, p + 2) := by
  unfold spec_l2DrawFormat.f
  obtain ⟨x, hx, x0, x1⟩ := take_ok h (p := p) (n := 40) p0 (by omega) (by omega) (k := k) (by omega)
  obtain ⟨y, hy, y0, y1⟩ := take_ok h (p := p + 1) (n := 100) (by omega) (by omega) (by omega) (k := k) (by omega)
  rw [hx, Option.bind_some]
  simp only []
  rw [hy, Option.bind_some]
  simp only [Int.add_assoc]
  repeat' split
  all_goals exact ⟨_, _, rfl⟩

theorem l2Max_eq (f : Int) : spec_l2Max.f f = some (if f = 0 then 127 else 1023) := by unfold spec_l2Max.f; split <;> rfl

theorem drawExp_ok {l : List Int} (h : Bytes l) {p f : Int} (p0 : 0 ≤ p) (p1 : p ≤ 1000) {k : Nat} (hk : 300 ≤ k) : ∃ e, spec_l2DrawExp.f k l p f = some (e, p + 2) := by
  unfold spec_l2DrawExp.f
  obtain ⟨x, hx, x0, x1⟩ := take_ok h (p := p) (n := 16) p0 (by omega) (by omega) (k := k) (by omega)
  obtain ⟨y, hy, y0, y1⟩ := take_ok h (p := p + 1) (n := 256) (by omega) (by omega) (by omega) (k := k) (by omega)
  rw [hx, Option.bind_some]
  simp only []
  rw [hy, Option.bind_some, l2Max_eq, l2P_eq]
  simp only [Option.bind_some, Int.add_assoc]
  have hb : ¬ IntKind.u64.wrap (2 * IntKind.u64.wrap (if f = 0 then 127 else 1023)) = 0 := by
    split <;> decide +kernel
  rw [if_neg hb]
  repeat' split
  all_goals exact ⟨_, rfl⟩

theorem two33 {k : Nat} (hk : 100 ≤ k) : spec_l2Two.f k 33 = some 8589934592 := two_at _ _ (by decide +kernel) hk
theorem l2Half_eq (f : Int) {k : Nat} (hk : 100 ≤ k) : ∃ v, spec_l2Two.f k (wrap64 ((bP f : Int) + 1 - 2)) = some v := by
  unfold bP
  split
  · rw [show wrap64 (((23 : Nat) : Int) + 1 - 2) = 22 by decide +kernel, two22 hk]; exact ⟨_, rfl⟩
  · rw [show wrap64 (((52 : Nat) : Int) + 1 - 2) = 51 by decide +kernel, two51 hk]; exact ⟨_, rfl⟩
theorem put_ok (f s n : Int) {k : Nat} (hk : 100 ≤ k) : ∃ v, spec_l2Put.f k f s (IntKind.u64.wrap n) = some v ∧ Word v := by
  unfold spec_l2Put.f
  rw [l2Sign_eq f hk]
  split
  · exact ⟨_, rfl, word_wrap _⟩
  · exact ⟨_, rfl, word_wrap _⟩

theorem drawWord_j2 (f x8 x9 x10 x12 q : Int) {k : Nat} (hk : 300 ≤ k) : ∃ v, spec_l2DrawWord.j2 k f x8 x9 x10 x12 q = some (v, q) ∧ Word v := by
  obtain ⟨k, rfl⟩ : ∃ m, k = m + 1 := ⟨k - 1, by omega⟩
  rw [spec_l2DrawWord.j2, l2P_eq]
  simp only [Option.bind_some]
  rw [l2Top_eq f (by omega)]
  simp only [Option.bind_some]
  split
  · obtain ⟨v, hv, w⟩ := put_ok f x9 (IntKind.u64.wrap (x10 * bTop f) + 1) (k := k) (by omega)
    rw [hv]; exact ⟨v, rfl, w⟩
  · obtain ⟨v, hv, w⟩ := put_ok f x9 (IntKind.u64.wrap (x10 * bTop f) + x12) (k := k) (by omega)
    rw [hv]; exact ⟨v, rfl, w⟩
theorem drawWord_j1 (f x8 x9 x10 x12 q : Int) {k : Nat} (hk : 301 ≤ k) : ∃ v, spec_l2DrawWord.j1 k f x8 x9 x10 x12 q = some (v, q) ∧ Word v := by
  obtain ⟨k, rfl⟩ : ∃ m, k = m + 1 := ⟨k - 1, by omega⟩
  rw [spec_l2DrawWord.j1, l2P_eq]
  simp only [Option.bind_some]
  obtain ⟨u, hu⟩ := l2Half_eq f (k := k) (by omega)
  rw [hu]
  simp only [Option.bind_some]
  split
  · exact drawWord_j2 f _ _ _ _ _ (by omega)
  · exact drawWord_j2 f _ _ _ _ _ (by omega)
theorem drawWord_j0 (f x8 x9 x10 x12 q : Int) {k : Nat} (hk : 302 ≤ k) : ∃ v, spec_l2DrawWord.j0 k f x8 x9 x10 x12 q = some (v, q) ∧ Word v := by
  obtain ⟨k, rfl⟩ : ∃ m, k = m + 1 := ⟨k - 1, by omega⟩
  rw [spec_l2DrawWord.j0, l2P_eq]
  simp only [Option.bind_some]
  rw [l2Top_eq f (by omega)]
  simp only [Option.bind_some]
  split
  · exact drawWord_j1 f _ _ _ _ _ (by omega)
  · exact drawWord_j1 f _ _ _ _ _ (by omega)
theorem drawWord_ok {l : List Int} (h : Bytes l) {p f : Int} (p0 : 0 ≤ p) (p1 : p ≤ 500) {k : Nat} (hk : 302 ≤ k) : ∃ v q, spec_l2DrawWord.f k l p f = some (v, q) ∧ Word v ∧ 0 ≤ q ∧ q ≤ p + 30 := by
  unfold spec_l2DrawWord.f
  obtain ⟨e, he⟩ := drawExp_ok h (p := p) (f := f) p0 (by omega) (k := k) (by omega)
  rw [he, l2P_eq]
  simp only [Option.bind_some]
  have hn : wrap64 ((bP f : Int) + 1 - 1) = (bP f : Int) := by
    rw [wrap64_id]
    · omega
    · omega
    · unfold bP; split <;> omega
  have hb : bP f ≤ 64 := by unfold bP; split <;> omega
  rw [hn]
  obtain ⟨w, z, hw, ww, z0, z1⟩ := bits_ok h (p := p + 2) (n := (bP f : Int)) (by omega) (by omega) (by omega) (by omega) (k := k) (by omega)
  rw [hw]
  simp only [Option.bind_some]
  obtain ⟨x, hx, x0, x1⟩ := take_ok h (p := z) (n := 12) z0 (by omega) (by omega) (k := k) (by omega)
  rw [hx]
  simp only [Option.bind_some]
  obtain ⟨y, hy, y0, y1⟩ := take_ok h (p := z + 1) (n := 2) (by omega) (by omega) (by omega) (k := k) (by omega)
  rw [hy]
  simp only [Option.bind_some]
  split
  all_goals
    obtain ⟨v, hv, wv⟩ := drawWord_j0 f x y e _ (z + 1 + 1) (k := k) hk
    exact ⟨v, _, hv, wv, by omega, by omega⟩

theorem any_j0 {l : List Int} (h : Bytes l) {p g : Int} (p0 : 0 ≤ p) (p1 : p ≤ 400) {k : Nat} (hk : 310 ≤ k) : ∃ v q, spec_l2Any.j0 k l p g = some (v, q) ∧ Word v ∧ 0 ≤ q ∧ q ≤ p + 40 := by
  obtain ⟨k, rfl⟩ : ∃ m, k = m + 1 := ⟨k - 1, by omega⟩
  rw [spec_l2Any.j0]
  obtain ⟨v, q, hv, wv, q0, q1⟩ := drawWord_ok h (p := p) (f := g) p0 (by omega) (k := k) (by omega)
  rw [hv]
  simp only [Option.bind_some]
  obtain ⟨x, hx, x0, x1⟩ := take_ok h (p := q) (n := 50) q0 (by omega) (by omega) (k := k) (by omega)
  rw [hx]
  simp only [Option.bind_some]
  split
  · rename_i e
    subst e
    rw [show wrap64 (32 + Int.tmod 49 3) = 33 by decide +kernel, two33 (by omega)]
    exact ⟨_, _, rfl, word_wrap _, by omega, by omega⟩
  · exact ⟨_, _, rfl, wv, by omega, by omega⟩
theorem any_ok {l : List Int} (h : Bytes l) {p f : Int} (p0 : 0 ≤ p) (p1 : p ≤ 400) {k : Nat} (hk : 310 ≤ k) : ∃ v q, spec_l2Any.f k l p f = some (v, q) ∧ Word v ∧ 0 ≤ q ∧ q ≤ p + 40 := by
  unfold spec_l2Any.f
  split
  · exact any_j0 h p0 p1 hk
  · exact any_j0 h p0 p1 hk

theorem sign_pos (f : Int) : 0 < bSign f := by unfold bSign; split <;> decide
theorem turned_ok (f w : Int) {k : Nat} (hk : 100 ≤ k) : ∃ v, spec_l3Turned.f k f w = some v ∧ Word v := by
  unfold spec_l3Turned.f
  rw [l2Sign_eq f hk]
  simp only [Option.bind_some]
  split
  · exact ⟨_, rfl, word_wrap _⟩
  · exact ⟨_, rfl, word_wrap _⟩

theorem two_j1 (f m x12 x14 a b q : Int) (wa : Word a) (wb : Word b) {k : Nat} (hk : 310 ≤ k) : ∃ b', spec_l3DrawTwo.j1 k f m x12 x14 a b q = some (f, m, a, b', q) ∧ Word b' := by
  obtain ⟨k, rfl⟩ : ∃ m, k = m + 1 := ⟨k - 1, by omega⟩
  rw [spec_l3DrawTwo.j1, l2P_eq, l2Sign_eq f (by omega), l2Inf_eq f (by omega)]
  obtain ⟨t, ht, wt⟩ := turned_ok f a (k := k) (by omega)
  rw [ht]
  simp only [Option.bind_some]
  rw [l2Top_eq f (by omega)]
  simp only [Option.bind_some]
  rw [if_neg (c := bSign f = 0) (by have := sign_pos f; omega)]
  repeat' split
  · exact ⟨_, rfl, word_wrap _⟩
  · exact ⟨_, rfl, wt⟩
  · exact ⟨_, rfl, wb⟩
theorem two_j0 (f m x12 x14 a b q : Int) (wa : Word a) (wb : Word b) {k : Nat} (hk : 311 ≤ k) : ∃ b', spec_l3DrawTwo.j0 k f m x12 x14 a b q = some (f, m, a, b', q) ∧ Word b' := by
  obtain ⟨k, rfl⟩ : ∃ m, k = m + 1 := ⟨k - 1, by omega⟩
  rw [spec_l3DrawTwo.j0]
  split
  · exact two_j1 f m x12 x14 a a q wa wa (by omega)
  · exact two_j1 f m x12 x14 a b q wa wb (by omega)

theorem drawTwo_ok {l : List Int} (h : Bytes l) {k : Nat} (hk : 320 ≤ k) : ∃ f m a b q, spec_l3DrawTwo.f k l 0 = some (f, m, a, b, q) ∧ Word a ∧ Word b := by
  unfold spec_l3DrawTwo.f
  obtain ⟨f, m, hf⟩ := drawFormat_ok h (p := 0) (by omega) (by omega) (k := k) (by omega)
  rw [hf]
  simp only [Option.bind_some]
  obtain ⟨x, hx, x0, x1⟩ := take_ok h (p := 0 + 2) (n := 8) (by omega) (by omega) (by omega) (k := k) (by omega)
  rw [hx]
  simp only [Option.bind_some]
  obtain ⟨y, hy, y0, y1⟩ := take_ok h (p := 0 + 2 + 1) (n := 16) (by omega) (by omega) (by omega) (k := k) (by omega)
  rw [hy]
  simp only [Option.bind_some]
  obtain ⟨a, q, ha, wa, q0, q1⟩ := any_ok h (p := 0 + 2 + 1 + 1) (f := f) (by omega) (by omega) (k := k) (by omega)
  rw [ha]
  simp only [Option.bind_some]
  obtain ⟨b, z, hb, wb, z0, z1⟩ := any_ok h (p := q) (f := f) (by omega) (by omega) (k := k) (by omega)
  rw [hb, l2Fits_eq, l2Sign_eq f (by omega), l2Inf_eq f (by omega)]
  obtain ⟨t, ht, wt⟩ := turned_ok f a (k := k) (by omega)
  rw [ht]
  simp only [Option.bind_some]
  have hz : ¬ bSign f = 0 := by have := sign_pos f; omega
  rw [if_neg hz, if_neg hz]
  have key : ∀ b, Word b → ∃ f' m' a' b' q', spec_l3DrawTwo.j0 k f m x y a b z = some (f', m', a', b', q') ∧ Word a' ∧ Word b' := by
    intro b wb
    obtain ⟨b', hb', w⟩ := two_j0 f m x y a b z wa wb (k := k) (by omega)
    exact ⟨_, _, _, _, _, hb', wa, w⟩
  repeat' split
  · exact key _ (word_wrap _)
  · exact key _ wt
  · exact key _ wt
  · exact key _ wb
  · exact ⟨_, _, _, _, _, rfl, wa, wb⟩

theorem drawCompare_ok {l : List Int} (h : Bytes l) {k : Nat} (hk : 320 ≤ k) : ∃ f a b s, spec_DrawCompare.f k l = some (f, a, b, s) ∧ Word a ∧ Word b := by
  unfold spec_DrawCompare.f
  obtain ⟨f, m, a, b, q, hd, wa, wb⟩ := drawTwo_ok h hk
  rw [hd]
  exact ⟨_, _, _, _, rfl, wa, wb⟩

/-! ### one order -/
theorem order_swap (f a b : Int) : order f b a = - order f a b := by
  unfold order
  generalize key f a = x
  generalize key f b = y
  repeat' split
  all_goals omega

theorem comp_swap (f a b : Int) (s : Bool) : (comp f b a s).2 = (comp f a b s).2 ∧ ((comp f a b s).1 = 2 → (comp f b a s).1 = 2) ∧ ((comp f a b s).1 ≠ 2 → (comp f b a s).1 = wrap64 (-(comp f a b s).1)) := by
  have ho : order f a b = -1 ∨ order f a b = 0 ∨ order f a b = 1 := by
    unfold order
    repeat' split
    all_goals omega
  have hs := order_swap f a b
  unfold comp
  have e1 : (fits f b = true ∧ fits f a = true) = (fits f a = true ∧ fits f b = true) := propext and_comm
  have e2 : (kind f b ≥ 3 ∨ kind f a ≥ 3) = (kind f a ≥ 3 ∨ kind f b ≥ 3) := propext or_comm
  have e3 : (kind f b = 4 ∨ kind f a = 4) = (kind f a = 4 ∨ kind f b = 4) := propext or_comm
  simp only [hs, e1, e2, e3]
  clear e1 e2 e3
  generalize order f a b = o at *
  repeat' split
  all_goals (refine ⟨rfl, fun h => ?_, fun h => ?_⟩ <;> simp only [] at * <;> first | rfl | omega | (rw [wrap64_id (by omega) (by omega)]))

theorem kind_fits {f w : Int} (h : kind f w < 3) : fits f w = true := by
  by_cases hf : fits f w = true
  · exact hf
  · rw [kind_bad (by simpa using hf)] at h; omega

theorem wClass_eq (f w : Int) (hw : Word w) {k : Nat} (hk : 300 ≤ k) : laws_wClass.f k f w = some (kind f w) := by
  unfold laws_wClass.f
  rw [spec_Unpack_eq' f w hw hk]; rfl

/-- A number with a given magnitude and sign. -/
theorem of_mag {f w x s : Int} (hf : f = 0 ∨ f = 1) (hs : s = 0 ∨ s = 1) (hx : 0 ≤ x) (hx' : x ≤ bInf f) (hw : w = x + s * bSign f) :
    Word w ∧ fits f w = true ∧ kind f w < 3 ∧ key f w = (if s = 1 then -x else x) := by
  have hb : bInf f < bSign f := by rcases hf with rfl | rfl <;> decide
  have hn : 2 * bSign f ≤ 18446744073709551616 := by rcases hf with rfl | rfl <;> decide
  have hfit : fits f w = true := by
    rcases hf with rfl | rfl
    · have e1 : bSign 0 = 2147483648 := rfl
      have e2 : bInf 0 = 2139095040 := rfl
      have : w < 4294967296 := by
        rw [e1] at hw
        rw [e2] at hx'
        clear hb hn
        rcases hs with rfl | rfl <;> omega
      simp [fits, this]
    · rfl
  have hmod : w % bSign f = x := by
    rw [hw, Int.add_mul_emod_self_right]; exact Int.emod_eq_of_lt hx (by omega)
  have hdiv : w / bSign f = s := by
    rw [hw, Int.add_mul_ediv_right _ _ (by omega), Int.ediv_eq_zero_of_lt hx (by omega), Int.zero_add]
  refine ⟨?_, hfit, ?_, ?_⟩
  · unfold Word
    rcases hs with rfl | rfl <;> omega
  · unfold kind
    rw [if_pos hfit, hmod]
    split
    · decide
    · rw [if_neg (by omega)]
      split <;> decide
  · unfold key sgn
    rw [if_pos hfit, hmod, hdiv]

/-- A number's magnitude and sign. -/
theorem mag_of {f w : Int} (hw : Word w) (h : kind f w < 3) : ∃ x s, (f = 0 ∨ f = 1) ∧ (s = 0 ∨ s = 1) ∧ 0 ≤ x ∧ x ≤ bInf f ∧ w = x + s * bSign f ∧ sgn f w = s ∧ (kind f w = 0 ↔ x = 0) ∧ (kind f w = 2 ↔ x = bInf f) ∧ key f w = (if s = 1 then -x else x) := by
  have hfit := kind_fits h
  have hs := sgn_01 f w hw
  have hp := sign_pos f
  have hf := fits_good hfit
  have hI : 0 < bInf f := by rcases hf with rfl | rfl <;> decide
  have he := Int.mul_ediv_add_emod w (bSign f)
  have h0 := Int.emod_nonneg w (by omega : bSign f ≠ 0)
  refine ⟨w % bSign f, sgn f w, hf, hs, h0, ?_, ?_, rfl, ?_, ?_, rfl⟩
  · unfold kind at h
    rw [if_pos hfit] at h
    repeat' split at h
    all_goals omega
  · unfold sgn
    rw [if_pos hfit, Int.mul_comm]; omega
  · unfold kind
    rw [if_pos hfit]
    repeat' split
    all_goals omega
  · unfold kind
    rw [if_pos hfit]
    unfold kind at h
    rw [if_pos hfit] at h
    repeat' split
    all_goals (simp only [*] at h; omega)

theorem comp_next (f a : Int) (wa : Word a) (ha : kind f a < 3) : next f a = a ∨ (Word (next f a) ∧ (comp f a (next f a) true).1 = -1) := by
  obtain ⟨x, s, hf, hs, x0, x1, e, hsg, k0, k2, hk⟩ := mag_of wa ha
  have hp := sign_pos f
  have hI : bInf f < bSign f ∧ 1 ≤ bInf f := by rcases hf with rfl | rfl <;> decide
  have hn : 2 * bSign f ≤ 18446744073709551616 := by rcases hf with rfl | rfl <;> decide
  have step : ∀ y t : Int, (t = 0 ∨ t = 1) → 0 ≤ y → y ≤ bInf f → next f a = y + t * bSign f → key f a < (if t = 1 then -y else y) → Word (next f a) ∧ (comp f a (next f a) true).1 = -1 := by
    intro y t ht y0 y1 hnx hlt
    obtain ⟨ww, ff, kk, ky⟩ := of_mag hf ht y0 y1 hnx
    refine ⟨ww, ?_⟩
    unfold comp order
    rw [if_pos ⟨kind_fits ha, ff⟩, if_neg (by omega), ky, if_pos hlt]
  have hnext : next f a = if kind f a = 0 then 1 else if s = 1 then IntKind.u64.wrap (a - 1) else if kind f a = 2 then a else IntKind.u64.wrap (a + 1) := by
    unfold next
    rw [if_neg (by omega), hsg]
  by_cases z : kind f a = 0
  · rw [if_pos z] at hnext
    have hx := k0.1 z
    right
    refine step 1 0 (.inl rfl) (by omega) hI.2 (by rw [hnext]; omega) ?_
    rw [hk, hx]
    rcases hs with rfl | rfl <;> decide
  · have hx : x ≠ 0 := fun h => z (k0.2 h)
    rw [if_neg z] at hnext
    by_cases h1 : s = 1
    · subst h1
      have hw1 : IntKind.u64.wrap (a - 1) = a - 1 := w64_id (by omega) (by omega)
      rw [if_pos rfl, hw1] at hnext
      right
      refine step (x - 1) 1 (.inr rfl) (by omega) (by omega) (by rw [hnext]; omega) ?_
      rw [hk, if_pos rfl, if_pos rfl]; omega
    · have h0 : s = 0 := by omega
      subst h0
      rw [if_neg (by decide)] at hnext
      by_cases h2 : kind f a = 2
      · left; rw [hnext, if_pos h2]
      · right
        have hx2 : x ≠ bInf f := fun h => h2 (k2.2 h)
        have hw1 : IntKind.u64.wrap (a + 1) = a + 1 := w64_id (by omega) (by omega)
        rw [if_neg h2, hw1] at hnext
        refine step (x + 1) 0 (.inl rfl) (by omega) (by omega) (by rw [hnext]; omega) ?_
        rw [hk, if_neg (by decide), if_neg (by decide)]; omega

theorem chosen_two (f a b : Int) (ha : kind f a < 3) (hb : kind f b < 3) (wa : Word a) (wb : Word b) :
    ((chosenV f a b false).1 = a ∧ (chosenV f a b true).1 = b ∨ (chosenV f a b false).1 = b ∧ (chosenV f a b true).1 = a) ∧ (comp f (chosenV f a b false).1 (chosenV f a b true).1 true).1 ≤ 0 := by
  have fa := kind_fits ha
  have fb := kind_fits hb
  have sa := sgn_01 f a wa
  have sb := sgn_01 f b wb
  have ho : order f a b = -1 ∨ order f a b = 0 ∨ order f a b = 1 := by
    unfold order
    repeat' split
    all_goals omega
  have hs := order_swap f a b
  have c1 : comp f a b true = (order f a b, 0) := by unfold comp; rw [if_pos ⟨fa, fb⟩, if_neg (by omega)]
  have c2 : comp f b a true = (order f b a, 0) := by unfold comp; rw [if_pos ⟨fb, fa⟩, if_neg (by omega)]
  have v : ∀ last, chosenV f a b last = (if decide (0 < Given.pickOrder (order f a b) (sgn f a) (sgn f b)) == last then a else b, 0) := by
    intro last
    unfold chosenV
    rw [if_pos ⟨fa, fb⟩, if_neg (by omega), if_neg (by omega)]
  have hpos : 0 < order f a b → 0 < Given.pickOrder (order f a b) (sgn f a) (sgn f b) := by
    intro h; unfold Given.pickOrder; rw [if_neg (by omega)]; exact h
  have hneg : order f a b < 0 → ¬ 0 < Given.pickOrder (order f a b) (sgn f a) (sgn f b) := by
    intro h; unfold Given.pickOrder; rw [if_neg (by omega)]; omega
  rw [v, v]
  by_cases hp : 0 < Given.pickOrder (order f a b) (sgn f a) (sgn f b)
  · rw [decide_eq_true hp]
    refine ⟨.inr ⟨rfl, rfl⟩, ?_⟩
    show (comp f b a true).1 ≤ 0
    rw [c2]
    show order f b a ≤ 0
    have : ¬ order f a b < 0 := fun h => hneg h hp
    omega
  · rw [decide_eq_false hp]
    refine ⟨.inl ⟨rfl, rfl⟩, ?_⟩
    show (comp f a b true).1 ≤ 0
    rw [c1]
    show order f a b ≤ 0
    have : ¬ 0 < order f a b := fun h => hp (hpos h)
    omega

theorem order_j2 (f a b : Int) (wa : Word a) (wb : Word b) (ha : kind f a < 3) {k : Nat} (hk : 340 ≤ k) :
    laws_FnOrder.j2 k f a b false (chosenV f a b false).1 (chosenV f a b false).2 (chosenV f a b true).1 (chosenV f a b true).2 = some true := by
  obtain ⟨k, rfl⟩ : ∃ m, k = m + 1 := ⟨k - 1, by omega⟩
  rw [laws_FnOrder.j2, if_neg (by decide), wClass_eq f b wb (by omega), Option.bind_some]
  by_cases hb : kind f b ≥ 3
  · rw [if_pos hb]
  · rw [if_neg hb]
    obtain ⟨h1, h2⟩ := chosen_two f a b ha (by omega) wa wb
    have wl : Word (chosenV f a b false).1 := by rcases h1 with ⟨e, _⟩ | ⟨e, _⟩ <;> rw [e] <;> assumption
    have wh : Word (chosenV f a b true).1 := by rcases h1 with ⟨_, e⟩ | ⟨_, e⟩ <;> rw [e] <;> assumption
    rw [impl_Compare_eq f _ _ true wl wh (by omega), Option.bind_some, if_pos h2]
    rcases h1 with ⟨e1, e2⟩ | ⟨e1, e2⟩
    · rw [if_pos e1, if_pos e2]
    · have : ((chosenV f a b true).1 == a) = true := by simpa using e2
      rw [this]
      try rw [if_pos e1]
      repeat' split
      all_goals rfl

theorem order_j0 (f a b : Int) (wa : Word a) (wb : Word b) {k : Nat} (hk : 350 ≤ k) : laws_FnOrder.j0 k f a b false = some true := by
  obtain ⟨k, rfl⟩ : ∃ m, k = m + 2 := ⟨k - 2, by omega⟩
  rw [laws_FnOrder.j0, if_neg (by decide), impl_NextUp_eq f a wa (by omega), impl_Minimum_eq f a b wa wb, impl_Maximum_eq f a b wa wb, spec_NextUp_eq f a wa (by omega), spec_Minimum_eq f a b wa wb (by omega), spec_Maximum_eq f a b wa wb (by omega)]
  simp only [Option.bind_some]
  rw [if_pos trivial, if_neg (by simp)]
  have e : (!((chosenV f a b true).1 == (chosenV f a b true).1) || !((chosenV f a b true).2 == (chosenV f a b true).2)) = false := by simp
  rw [e, laws_FnOrder.j1, if_neg (by decide), wClass_eq f a wa (by omega), Option.bind_some]
  by_cases ha : kind f a ≥ 3
  · rw [if_pos ha]
  · rw [if_neg ha]
    rcases comp_next f a wa (by omega) with hn | ⟨wn, hn⟩
    · rw [hn, impl_Compare_eq f a a true wa wa (by omega), Option.bind_some]
      have : (a != a) = false := by simp
      rw [this]
      split
      all_goals exact order_j2 f a b wa wb (by omega) (by omega)
    · rw [impl_Compare_eq f a _ true wa wn (by omega), Option.bind_some, if_pos hn]
      exact order_j2 f a b wa wb (by omega) (by omega)

theorem FnOrder : ∀ (l0 : List Int), l0.length * 1 ≤ 140737488351232 → (∀ x ∈ l0, (Lit.int .u8 x).wf = true) → ∃ k, laws_FnOrder.f k l0 = some true := by
  intro l hl hb
  have h := bytes_of hl hb
  refine ⟨400, ?_⟩
  unfold laws_FnOrder.f
  split
  · rfl
  obtain ⟨f, a, b, s, hd, wa, wb⟩ := drawCompare_ok h (k := 400) (by decide)
  rw [hd]
  simp only [Option.bind_some]
  rw [spec_Compare_eq f a b s wa wb (by decide), impl_Compare_eq f a b s wa wb (by decide), impl_Compare_eq f b a s wb wa (by decide)]
  simp only [Option.bind_some]
  obtain ⟨h1, h2, h3⟩ := comp_swap f a b s
  rw [if_pos trivial, if_pos trivial, if_pos h1]
  have j0 := order_j0 f a b wa wb (k := 400) (by decide)
  by_cases e : (comp f a b s).1 = 2
  · rw [if_pos e, if_pos (h2 e)]; exact j0
  · rw [if_neg e, h3 e]
    have : (wrap64 (-(comp f a b s).1) != wrap64 (-(comp f a b s).1)) = false := by simp
    rw [this]; exact j0

end Go.Proofs.YtokbmgneigdofaaDoor.Pure
