/- What the reference's draws give: always a number in its range. -/
import Derived.Test.YtbcjhnhkpbcmcaaPA10
import Derived.Test.YtbcjhnhkpbcmcaaPA11
import Derived.Test.YtbcjhnhkpbcmcaaNum
import Derived.Laws.BitsLemmas
namespace Go.Proofs.Ytbcjhnhkpbcmcaa.Draw
open Go.RowKit Go.Proofs.Ytbcjhnhkpbcmcaa.PA Go.Proofs.Ytbcjhnhkpbcmcaa.Num Go.Proofs.YtbcjhnhkpbcmcaaW.PrintWords Go.Proofs.YtbcjhnhkpbcmcaaW.PrintLast Go.Proofs.YtbcjhnhkpbcmcaaW.PrintMore
set_option linter.unusedVariables false

def Bytes (l : List Int) : Prop := l.length ≤ 140737488351232 ∧ ∀ x ∈ l, 0 ≤ x ∧ x ≤ 255

theorem bytes_of {l : List Int} (h : l.length * 1 ≤ 140737488351232) (hb : ∀ x ∈ l, (Lit.int .u8 x).wf = true) : Bytes l := by
  refine ⟨by omega, fun x hx => ?_⟩
  have := hb x hx
  simp [Lit.wf, IntKind.min, IntKind.max, IntKind.signed, IntKind.bits] at this
  omega

theorem w64d {n : Int} (h : -9223372036854775808 ≤ n) (h' : n < 9223372036854775808) : wrap64 n = n := by unfold wrap64; omega

theorem rd_byte {l : List Int} (h : Bytes l) (i : Int) : 0 ≤ rd l i ∧ rd l i ≤ 255 := by
  unfold rd
  rw [List.getD_eq_getElem?_getD]
  by_cases hi : i.toNat < l.length
  · rw [List.getElem?_eq_getElem hi]; exact h.2 _ (List.getElem_mem hi)
  · rw [List.getElem?_eq_none (by omega)]; decide

theorem xor_nonneg (a b : Int) (ha : 0 ≤ a ∧ a < 9223372036854775808) (hb : 0 ≤ b ∧ b < 9223372036854775808) : 0 ≤ Go.bits .xor .i64 a b := by
  obtain ⟨a, rfl⟩ := Int.eq_ofNat_of_zero_le ha.1
  obtain ⟨b, rfl⟩ := Int.eq_ofNat_of_zero_le hb.1
  have h1 : a < 2 ^ 63 := by omega
  have h2 : b < 2 ^ 63 := by omega
  have h3 : a ^^^ b < 2 ^ 63 := Nat.xor_lt_two_pow h1 h2
  have e : (BitVec.ofInt 64 (a : Int) ^^^ BitVec.ofInt 64 (b : Int)).toNat = a ^^^ b := by
    rw [BitVec.ofInt_natCast, BitVec.ofInt_natCast, BitVec.toNat_xor, BitVec.toNat_ofNat, BitVec.toNat_ofNat, Nat.mod_eq_of_lt (by omega), Nat.mod_eq_of_lt (by omega)]
  show 0 ≤ IntKind.i64.wrap (((BitVec.ofInt 64 (a : Int) ^^^ BitVec.ofInt 64 (b : Int)).toNat : Nat) : Int)
  rw [e, IntKind.wrap_i64]
  omega

theorem take_ok {l : List Int} (h : Bytes l) {p n : Int} (p0 : 0 ≤ p) (p1 : p ≤ 1000000) (n1 : 1 ≤ n) {k : Nat} (hk : 1 ≤ k) :
    ∃ x, spec_l1Take.f k l p n = some (x, p + 1) ∧ 0 ≤ x ∧ x < n := by
  obtain ⟨k, rfl⟩ : ∃ m, k = m + 1 := ⟨k - 1, by omega⟩
  unfold spec_l1Take.f
  rw [if_neg (by omega)]
  have hp1 : wrap64 (p + 1) = p + 1 := w64d (by omega) (by omega)
  have hlen := h.1
  by_cases he : l.length = 0
  · have : ((l.length : Int) == 0) = true := by simp [he]
    rw [this, spec_l1Take.j0, if_pos rfl, hp1]
    exact ⟨0, rfl, by omega, by omega⟩
  have hf : ((l.length : Int) == 0) = false := by simpa using he
  rw [hf, spec_l1Take.j0, if_neg (by decide), hp1]
  have hL : (0 : Int) < (l.length : Int) := by omega
  have hm0 := Int.emod_nonneg p (by omega : (l.length : Int) ≠ 0)
  have hm1 := Int.emod_lt_of_pos p hL
  have hn0 := Int.emod_nonneg (p * 7 + 3) (by omega : (l.length : Int) ≠ 0)
  have hn1 := Int.emod_lt_of_pos (p * 7 + 3) hL
  have hd0 : 0 ≤ p / (l.length : Int) := Int.ediv_nonneg p0 (by omega)
  have hd1 : p / (l.length : Int) ≤ p := Int.ediv_le_self _ p0
  have slow : ∃ x, (if (l.length : Int) = 0 then (none) else (if 0 ≤ (Int.tmod p (l.length : Int)) then (if (Int.tmod p (l.length : Int)) < (l.length : Int) then (if 0 ≤ (Int.tmod (wrap64 ((wrap64 (p * 7)) + 3)) (l.length : Int)) then (if (Int.tmod (wrap64 ((wrap64 (p * 7)) + 3)) (l.length : Int)) < (l.length : Int) then (if n = 0 then (none) else (some (Int.tmod (Go.bits .xor .i64 (wrap64 ((wrap64 ((wrap64 ((wrap64 ((wrap64 (rd l (Int.tmod p (l.length : Int)))) * 131)) + (wrap64 ((wrap64 (rd l (Int.tmod (wrap64 ((wrap64 (p * 7)) + 3)) (l.length : Int)))) * 1117)))) + (wrap64 (p * 29)))) + (wrap64 ((wrap64 (Int.tdiv p (l.length : Int))) * 53)))) (wrap64 (Int.tdiv (wrap64 ((wrap64 ((wrap64 ((wrap64 ((wrap64 (rd l (Int.tmod p (l.length : Int)))) * 131)) + (wrap64 ((wrap64 (rd l (Int.tmod (wrap64 ((wrap64 (p * 7)) + 3)) (l.length : Int)))) * 1117)))) + (wrap64 (p * 29)))) + (wrap64 ((wrap64 (Int.tdiv p (l.length : Int))) * 53)))) 64))) n, p + 1))) else (none)) else (none)) else (none)) else (none)) : Option (Int × Int)) = some (x, p + 1) ∧ 0 ≤ x ∧ x < n := by
    rw [w64d (n := p * 7) (by omega) (by omega), w64d (n := p * 7 + 3) (by omega) (by omega), tmod_id p0, tmod_id (a := p * 7 + 3) (by omega), tdiv_id p0]
    rw [if_neg (by omega), if_pos hm0, if_pos hm1, if_pos hn0, if_pos hn1, if_neg (by omega)]
    have ra := rd_byte h (p % (l.length : Int))
    have rb := rd_byte h ((p * 7 + 3) % (l.length : Int))
    generalize rd l (p % (l.length : Int)) = a at *
    generalize rd l ((p * 7 + 3) % (l.length : Int)) = b at *
    generalize p / (l.length : Int) = d at *
    rw [w64d (n := a) (by omega) (by omega), w64d (n := b) (by omega) (by omega), w64d (n := d) (by omega) (by omega), w64d (n := a * 131) (by omega) (by omega), w64d (n := b * 1117) (by omega) (by omega), w64d (n := p * 29) (by omega) (by omega), w64d (n := d * 53) (by omega) (by omega),
      w64d (n := a * 131 + b * 1117) (by omega) (by omega), w64d (n := a * 131 + b * 1117 + p * 29) (by omega) (by omega), w64d (n := a * 131 + b * 1117 + p * 29 + d * 53) (by omega) (by omega), tdiv_id (by omega), w64d (by omega) (by omega)]
    have hx := xor_nonneg (a * 131 + b * 1117 + p * 29 + d * 53) ((a * 131 + b * 1117 + p * 29 + d * 53) / 64) (by omega) (by omega)
    rw [tmod_id hx]
    exact ⟨_, rfl, Int.emod_nonneg _ (by omega), Int.emod_lt_of_pos _ (by omega)⟩
  by_cases hpl : p < (l.length : Int)
  · rw [if_pos hpl]
    by_cases hn : n ≤ 256
    · rw [if_pos hn, if_pos p0, if_neg (by omega)]
      have ra := rd_byte h p
      rw [w64d (by omega) (by omega), tmod_id ra.1]
      exact ⟨_, rfl, Int.emod_nonneg _ (by omega), Int.emod_lt_of_pos _ (by omega)⟩
    · rw [if_neg hn]; exact slow
  · rw [if_neg hpl]; exact slow

theorem bits_l3 (d : Nat) : ∀ (k : Nat) (p w i : Int), d < k → Word w → i ≤ 64 → 0 ≤ i → 64 - i = d → ∃ v, spec_l1Bits.l3 k p w i = some (v, p) ∧ Word v := by
  induction d with
  | zero =>
    intro k p w i hk hw h1 h2 hd
    obtain ⟨k, rfl⟩ : ∃ m, k = m + 1 := ⟨k - 1, by omega⟩
    rw [spec_l1Bits.l3, if_neg (by omega)]; exact ⟨w, rfl, hw⟩
  | succ d ih =>
    intro k p w i hk hw h1 h2 hd
    obtain ⟨k, rfl⟩ : ∃ m, k = m + 1 := ⟨k - 1, by omega⟩
    rw [spec_l1Bits.l3, if_pos (by omega), w64d (by omega) (by omega)]
    exact ih k p _ (i + 1) (by omega) (by rw [w64]; exact word_mod _) (by omega) (by omega) (by omega)

theorem bits_l2 (d : Nat) : ∀ (k : Nat) (p n w i : Int), d + 70 < k → Word w → 0 ≤ n → n ≤ 64 → i ≤ 64 → 0 ≤ i → 64 - i = d → ∃ v, spec_l1Bits.l2 k p n w i = some (v, p) ∧ Word v := by
  induction d with
  | zero =>
    intro k p n w i hk hw hn hn' h1 h2 hd
    obtain ⟨k, rfl⟩ : ∃ m, k = m + 1 := ⟨k - 1, by omega⟩
    rw [spec_l1Bits.l2, if_neg (by omega)]
    exact bits_l3 (64 - n).toNat k p w n (by omega) hw hn' hn (by omega)
  | succ d ih =>
    intro k p n w i hk hw hn hn' h1 h2 hd
    obtain ⟨k, rfl⟩ : ∃ m, k = m + 1 := ⟨k - 1, by omega⟩
    rw [spec_l1Bits.l2, if_pos (by omega), w64d (by omega) (by omega)]
    exact ih k p n _ (i + 1) (by omega) (by rw [w64]; exact word_mod _) hn hn' (by omega) (by omega) (by omega)

theorem bits_j3 {k : Nat} {p n w : Int} (hk : 150 ≤ k) (hw : Word w) (hn : 0 ≤ n) (hn' : n ≤ 64) : ∃ v, spec_l1Bits.j3 k p n w = some (v, p) ∧ Word v := by
  obtain ⟨k, rfl⟩ : ∃ m, k = m + 1 := ⟨k - 1, by omega⟩
  rw [spec_l1Bits.j3]
  exact bits_l2 (64 - n).toNat k p n w n (by omega) hw hn hn' hn' hn (by omega)

theorem bits_l1 (d : Nat) : ∀ (k : Nat) (p n a w i : Int), d + 160 < k → Word w → 0 ≤ n → n ≤ 64 → a ≤ 64 → i ≤ a → 0 ≤ i → a - i = d → ∃ v, spec_l1Bits.l1 k p n a w i = some (v, p) ∧ Word v := by
  induction d with
  | zero =>
    intro k p n a w i hk hw hn hn' h0 h1 h2 hd
    obtain ⟨k, rfl⟩ : ∃ m, k = m + 1 := ⟨k - 1, by omega⟩
    rw [spec_l1Bits.l1, if_neg (by omega)]
    exact bits_j3 (by omega) hw hn hn'
  | succ d ih =>
    intro k p n a w i hk hw hn hn' h0 h1 h2 hd
    obtain ⟨k, rfl⟩ : ∃ m, k = m + 1 := ⟨k - 1, by omega⟩
    rw [spec_l1Bits.l1, if_pos (by omega), w64d (by omega) (by omega)]
    exact ih k p n a _ (i + 1) (by omega) (by rw [w64]; exact word_mod _) hn hn' h0 (by omega) (by omega) (by omega)

theorem bits_j1 {k : Nat} {l : List Int} {p n x8 x9 x10 i : Int} {b : Bool} (h1 : 0 ≤ i) (h2 : i < 8) : ∃ w, spec_l1Bits.j1 (k + 1) l p n x8 x9 x10 i b = spec_l1Bits.l0 k l p n x8 w (i + 1) ∧ Word w := by
  rw [spec_l1Bits.j1, w64d (by omega) (by omega)]
  repeat' split
  all_goals exact ⟨_, rfl, by rw [w64 (_ : Int)]; exact word_mod _⟩

theorem bits_l0 {l : List Int} (h : Bytes l) (d : Nat) : ∀ (k : Nat) (p n x8 w i : Int), 2 * d + 240 < k → Word w → 0 ≤ n → n ≤ 64 → 0 ≤ p → p ≤ 900000 - d → i ≤ 8 → 0 ≤ i → 8 - i = d → ∃ v q, spec_l1Bits.l0 k l p n x8 w i = some (v, q) ∧ Word v ∧ p ≤ q ∧ q ≤ p + d + 1 := by
  induction d with
  | zero =>
    intro k p n x8 w i hk hw hn hn' hp hp' h1 h2 hd
    obtain ⟨k, rfl⟩ : ∃ m, k = m + 1 := ⟨k - 1, by omega⟩
    rw [spec_l1Bits.l0, if_neg (by omega)]
    split
    · obtain ⟨x, hx, x0, x1⟩ := take_ok h (p := p) (n := 64) hp (by omega) (by omega) (k := k) (by omega)
      rw [hx, Option.bind_some]
      obtain ⟨v, hv, hw'⟩ := bits_l1 x.toNat k (p + 1) n x w 0 (by omega) hw hn hn' (by omega) (by omega) (by omega) (by omega)
      exact ⟨v, p + 1, hv, hw', by omega, by omega⟩
    · obtain ⟨v, hv, hw'⟩ := bits_j3 (k := k) (p := p) (by omega) hw hn hn'
      exact ⟨v, p, hv, hw', by omega, by omega⟩
  | succ d ih =>
    intro k p n x8 w i hk hw hn hn' hp hp' h1 h2 hd
    obtain ⟨k, rfl⟩ : ∃ m, k = m + 2 := ⟨k - 2, by omega⟩
    rw [spec_l1Bits.l0, if_pos (by omega)]
    obtain ⟨x, hx, x0, x1⟩ := take_ok h (p := p) (n := 256) hp (by omega) (by omega) (k := k + 1) (by omega)
    rw [hx, Option.bind_some]
    have key : ∀ b, ∃ v q, spec_l1Bits.j1 (k + 1) l (p + 1) n x8 x w i b = some (v, q) ∧ Word v ∧ p ≤ q ∧ q ≤ p + ((d + 1 : Nat) : Int) + 1 := by
      intro b
      obtain ⟨w', hw', hW⟩ := bits_j1 (k := k) (l := l) (p := p + 1) (n := n) (x8 := x8) (x9 := x) (x10 := w) (i := i) (b := b) h2 (by omega)
      rw [hw']
      obtain ⟨v, q, hv, a, b', c⟩ := ih k (p + 1) n x8 w' (i + 1) (by omega) hW hn hn' (by omega) (by omega) (by omega) (by omega) (by omega)
      exact ⟨v, q, hv, a, by omega, by omega⟩
    repeat' split
    all_goals exact key _

theorem bits_ok {l : List Int} (h : Bytes l) {p n : Int} (p0 : 0 ≤ p) (p1 : p ≤ 800000) (n0 : 0 ≤ n) (n1 : n ≤ 64) {k : Nat} (hk : 300 ≤ k) :
    ∃ v q, spec_l1Bits.f k l p n = some (v, q) ∧ Word v ∧ 0 ≤ q ∧ q ≤ p + 20 := by
  unfold spec_l1Bits.f
  obtain ⟨x, hx, x0, x1⟩ := take_ok h (p := p) (n := 5) p0 (by omega) (by omega) (k := k) (by omega)
  rw [hx, Option.bind_some]
  obtain ⟨v, q, hv, a, b, c⟩ := bits_l0 h 8 k (p + 1) n x 0 0 (by omega) ⟨by omega, by omega⟩ n0 n1 (by omega) (by omega) (by omega) (by omega) (by omega)
  exact ⟨v, q, hv, a, by omega, by omega⟩
end Go.Proofs.Ytbcjhnhkpbcmcaa.Draw
