/- The plain law FnDecay: what the row's function computes is true of every input. -/
import Derived.Test.YtbcjhnhkpbcmcaaDoorEqDecay
import Derived.Test.YtbcjhnhkpbcmcaaDoorEqBaseOf
import Derived.Test.YtbcjhnhkpbcmcaaDoorDraw
import Derived.Test.YtbcjhnhkpbcmcaaDoorPB
namespace Go.Proofs.YtbcjhnhkpbcmcaaDoor.Pure
open Go.Proofs.YtbcjhnhkpbcmcaaDoor.Eq Go.Proofs.YtbcjhnhkpbcmcaaDoor.Draw Go.RowKit Go.Proofs.YtbcjhnhkpbcmcaaDoor.PA Go.Proofs.YtbcjhnhkpbcmcaaDoor.PB Go.Proofs.YtbcjhnhkpbcmcaaDoor.Given Go.Proofs.YtbcjhnhkpbcmcaaDoor.Num Go.Proofs.YtbcjhnhkpbcmcaaDoorW.PrintWords Go.Proofs.YtbcjhnhkpbcmcaaDoorW.PrintLast Go.Proofs.YtbcjhnhkpbcmcaaDoorW.PrintMore

theorem drawBase_ok {l : List Int} (h : Bytes l) {k : Nat} (hk : 300 ≤ k) : ∃ u, spec_DrawBase.f k l = some u := by
  unfold spec_DrawBase.f spec_l7Shares.f
  obtain ⟨v, q, hv, _, q0, q1⟩ := bits_ok h (p := 0) (n := 64) (by decide) (by decide) (by decide) (by decide) hk
  obtain ⟨x, hx, x0, x1⟩ := take_ok h (p := q) (n := 30) q0 (by omega) (by decide) (k := k) (by omega)
  obtain ⟨y, hy, _, _⟩ := take_ok h (p := q + 1) (n := 3) (by omega) (by omega) (by decide) (k := k) (by omega)
  rw [hv, Option.bind_some]
  simp only []
  rw [hx, Option.bind_some]
  simp only []
  rw [hy, Option.bind_some, Option.bind_some]
  simp only []
  split
  · (try rw [if_pos x0]); rw [if_pos (by simp; omega)]; exact ⟨_, rfl⟩
  · exact ⟨_, rfl⟩

theorem drawDecay_ok {l : List Int} (h : Bytes l) {k : Nat} (hk : 300 ≤ k) : ∃ t, spec_DrawDecay.f k l = some t ∧ Word t := by
  unfold spec_DrawDecay.f
  obtain ⟨v, q, hv, hw, q0, q1⟩ := bits_ok h (p := 0) (n := 38) (by decide) (by decide) (by decide) (by decide) hk
  obtain ⟨x, hx, x0, x1⟩ := take_ok h (p := q) (n := 16) q0 (by omega) (by decide) (k := k) (by omega)
  rw [hv, Option.bind_some]
  simp only []
  rw [hx, Option.bind_some, two38 (by omega), two35 (by omega), Option.bind_some, Option.bind_some]
  simp only []
  unfold Word at hw
  split
  · exact ⟨_, rfl, by rw [w64]; exact word_mod _⟩
  · split
    · rw [if_neg (by decide), tmod_id hw.1]; exact ⟨_, rfl, by omega, by omega⟩
    · exact ⟨_, rfl, hw⟩

theorem wPick_ok {l : List Int} (h : Bytes l) : ∃ n, laws_wPick.f l 0 = some n ∧ 0 ≤ n := by
  unfold laws_wPick.f
  split
  · exact ⟨0, rfl, by decide⟩
  · rename_i hl
    have e : Int.tmod 0 (l.length : Int) = 0 := by rw [tmod_id (by decide)]; simp
    rw [e, if_pos (by decide), if_pos (by omega)]
    have := rd_byte h 0
    exact ⟨_, rfl, by rw [w64d (by omega) (by omega)]; omega⟩

theorem walk_l0 {l : List Int} {n : Int} (hn : laws_wPick.f l 0 = some n) (n0 : 0 ≤ n) {t y : Int} (ht : Word t) (hy : impl_Decay.f t = some y) (d : Nat) : ∀ (k i : Nat), d < k → i ≤ 37 → (i : Int) + d = n % 38 →
    laws_FnDecay.l0 k l t y (2 ^ i) (i : Int) = some true := by
  unfold Word at ht
  induction d with
  | zero =>
    intro k i hk hi hd
    obtain ⟨k, rfl⟩ : ∃ m, k = m + 1 := ⟨k - 1, by omega⟩
    rw [laws_FnDecay.l0, hn, Option.bind_some, tmod_id n0, if_neg (by omega)]
    by_cases h : t ≥ 274877906944
    · rw [if_pos h]
    · obtain ⟨z, hz, hle⟩ := decay_falls (z := 0) ht.1 (by omega) (m := i) (by omega) hy
      rw [if_neg h, hz, Option.bind_some, decide_eq_true hle]
  | succ d ih =>
    intro k i hk hi hd
    obtain ⟨k, rfl⟩ : ∃ m, k = m + 1 := ⟨k - 1, by omega⟩
    have hp : (2 : Int) ^ i * 2 = 2 ^ (i + 1) := (Int.pow_succ _ _).symm
    have hb : (2 : Int) ^ (i + 1) ≤ 2 ^ 38 := by
      have := Nat.pow_le_pow_right (by decide : 0 < 2) (by omega : i + 1 ≤ 38)
      have h1 : ((2 ^ (i + 1) : Nat) : Int) ≤ ((2 ^ 38 : Nat) : Int) := by omega
      rw [Int.natCast_pow, Int.natCast_pow] at h1
      exact h1
    have h0 := pow_pos2 (i + 1)
    have hb' : (2 : Int) ^ 38 = 274877906944 := by decide
    rw [laws_FnDecay.l0, hn, Option.bind_some, tmod_id n0, if_pos (by omega), hp, w64_id (by omega) (by omega), w64d (by omega) (by omega)]
    have := ih k (i + 1) (by omega) (by omega) (by omega)
    exact this

theorem FnDecay : ∀ (l0 : List Int) (l1 : List Int), l0.length * 1 ≤ 140737488351232 → (∀ x ∈ l0, (Lit.int .u8 x).wf = true) → l1.length * 1 ≤ 140737488351232 → (∀ x ∈ l1, (Lit.int .u8 x).wf = true) → ∃ k, laws_FnDecay.f k l0 l1 = some true := by
  intro l0 l1 h0 b0 h1 b1
  have B0 := bytes_of h0 b0
  have B1 := bytes_of h1 b1
  have key : laws_FnDecay.j0 600 l0 l1 false = some true := by
    obtain ⟨u, hu⟩ := drawBase_ok B0 (k := 599) (by decide)
    obtain ⟨v, hv⟩ := drawBase_ok B1 (k := 599) (by decide)
    rw [laws_FnDecay.j0, if_neg (by decide), hu, hv]
    simp only [Option.bind_some, impl_Base.f]
    rw [spec_Base_eq u (by decide), spec_Base_eq v (by decide)]
    simp only [Option.bind_some, if_true]
    have e1 : laws_FnDecay.j1 599 l0 l1 false = some true := by
      obtain ⟨t, ht, wt⟩ := drawDecay_ok B0 (k := 598) (by decide)
      obtain ⟨y, y1, y2⟩ := decay_both wt (k := 598) (by decide)
      obtain ⟨n, hn, n0⟩ := wPick_ok B1
      rw [laws_FnDecay.j1, if_neg (by decide), ht, Option.bind_some, y2, y1, Option.bind_some, Option.bind_some, if_pos rfl]
      exact walk_l0 hn n0 wt y2 (n % 38).toNat 598 0 (by omega) (by decide) (by omega)
    by_cases c : u < v
    · have f1 := above_falls Gshares.vals c
      rw [if_pos c, if_neg (by omega), if_neg (by omega)]; exact e1
    · rw [if_neg c]
      by_cases c2 : v < u
      · have f1 := above_falls Gshares.vals c2
        rw [if_pos c2, decide_eq_false (by omega)]; exact e1
      · rw [if_neg c2]; exact e1
  have top : laws_FnDecay.j0 600 l0 l1 true = some true := by rw [laws_FnDecay.j0, if_pos rfl]
  refine ⟨600, ?_⟩
  unfold laws_FnDecay.f
  split
  · exact top
  · cases decide ((l1.length : Int) > 1048576)
    · exact key
    · exact top

end Go.Proofs.YtbcjhnhkpbcmcaaDoor.Pure
