/- What the reference's Base gives: how many of the shares stand above; and that it falls. -/
import Derived.Test.YtbcjhnhkpbcmcaaDoorPA1
import Derived.Test.YtbcjhnhkpbcmcaaDoorNum
namespace Go.Proofs.YtbcjhnhkpbcmcaaDoor.Eq
open Go.RowKit Go.Proofs.YtbcjhnhkpbcmcaaDoor.PA Go.Proofs.YtbcjhnhkpbcmcaaDoor.Given Go.Proofs.YtbcjhnhkpbcmcaaDoor.Num Go.Proofs.YtbcjhnhkpbcmcaaDoorW.PrintWords Go.Proofs.YtbcjhnhkpbcmcaaDoorW.PrintLast Go.Proofs.YtbcjhnhkpbcmcaaDoorW.PrintMore
set_option linter.unusedVariables false

theorem above_cons (s : Int) (xs : List Int) (u : Int) : above (s :: xs) u = (if u < s then 1 else 0) + above xs u := by
  unfold above
  by_cases h : u < s
  · simp [h]; omega
  · simp [h]

theorem spec_Base_loop (u : Int) (xs : List Int) (hx : xs.length ≤ 100) (d : Nat) : ∀ (k i : Nat) (n : Int), d < k → i + d = xs.length → 0 ≤ n → n + d ≤ 1000 → spec_Base.l0 k u xs n (i : Int) = some (n + above (xs.drop i) u) := by
  induction d with
  | zero =>
    intro k i n hk hi hn hn'
    obtain ⟨k, rfl⟩ : ∃ m, k = m + 1 := ⟨k - 1, by omega⟩
    rw [spec_Base.l0, if_neg (by omega), List.drop_eq_nil_of_le (by omega), above_nil]; simp
  | succ d ih =>
    intro k i n hk hi hn hn'
    obtain ⟨k, rfl⟩ : ∃ m, k = m + 1 := ⟨k - 1, by omega⟩
    have hlt : i < xs.length := by omega
    have hr : rd xs (i : Int) = xs[i] := by unfold rd; simp [hlt]
    have w1 : wrap64 ((i : Int) + 1) = ((i + 1 : Nat) : Int) := by unfold wrap64; omega
    have w2 : wrap64 (n + 1) = n + 1 := by unfold wrap64; omega
    rw [spec_Base.l0, if_pos (by omega), if_pos (by omega), hr, w1, w2, List.drop_eq_getElem_cons hlt, above_cons]
    by_cases h : xs[i] > u
    · rw [if_pos h, if_pos h, ih k (i + 1) (n + 1) (by omega) (by omega) (by omega) (by omega)]; congr 1; omega
    · rw [if_neg h, if_neg h, ih k (i + 1) n (by omega) (by omega) (by omega) (by omega)]; congr 1; omega

theorem spec_Base_eq (u : Int) {k : Nat} (hk : 100 ≤ k) : spec_Base.f k u = some (above Gshares.vals u) := by
  unfold spec_Base.f spec_l7Shares.f
  rw [Option.bind_some, show (0 : Int) = ((0 : Nat) : Int) by rfl]
  have := spec_Base_loop u Gshares.vals (by decide) 18 k 0 0 (by omega) rfl (by omega) (by omega)
  simp only [Int.zero_add, List.drop_zero] at this
  exact this

theorem above_falls (xs : List Int) {u v : Int} (h : u < v) : above xs v ≤ above xs u := by
  induction xs with
  | nil => exact Int.le_refl _
  | cons s r ih =>
    rw [above_cons, above_cons]
    split <;> split <;> omega
end Go.Proofs.YtbcjhnhkpbcmcaaDoor.Eq
