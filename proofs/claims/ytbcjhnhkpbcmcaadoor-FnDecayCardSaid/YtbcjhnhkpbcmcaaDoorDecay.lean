/- The contract of impl.Decay over the listed variable impl.decays, in the form in which the printed texts take it. -/
import Derived.Test.YtbcjhnhkpbcmcaaDoorPA1
import Derived.Laws.BitsLemmas
namespace Go.Proofs.YtbcjhnhkpbcmcaaDoor.Given
open Go.RowKit Go.Shelf Go.Proofs.YtbcjhnhkpbcmcaaDoor.PA Go.Proofs.YtbcjhnhkpbcmcaaDoorW.PrintWords Go.Proofs.YtbcjhnhkpbcmcaaDoorW.PrintLast Go.Proofs.YtbcjhnhkpbcmcaaDoorW.PrintMore Go.Proofs.YtbcjhnhkpbcmcaaDoor.Num
set_option linter.unusedVariables false

/-- The numbers from the i-th on, each times y where t's bit is set. -/
def impl_Decay.go (t : Int) : List Int → Nat → Int → Option Int
  | [], _, y => some y
  | d :: r, i, y => if t / 2 ^ i % 2 = 1 then (impl_scaled.f y d).bind fun z => impl_Decay.go t r (i + 1) z else impl_Decay.go t r (i + 1) y
def impl_Decay.f (t : Int) : Option Int := if Word t then (if t / 274877906944 = 0 then impl_Decay.go t Gdecays.vals 0 9223372036854775808 else some 0) else none

theorem and_one {x : Int} (h0 : 0 ≤ x) (h1 : x < 18446744073709551616) : Go.bits .and .u64 x 1 = x % 2 := and_mask 1 (by decide) x h0 h1

set_option maxHeartbeats 1000000 in
theorem impl_Decay.calls (t r : Int) (w : World) (hGdecays : Gdecays w) (h : impl_Decay.f t = some r) :
    Calls Tryd.prog 9 #[.int .u64 t] w fun e w' => e = .returned (.int .u64 r) ∧ Below w.heap.size w w' := by
  unfold impl_Decay.f at h
  split at h
  case isFalse => cases h
  rename_i hw
  by_cases hz : t / 274877906944 = 0
  · rw [if_pos hz] at h
    have hs38 : t / 2 ^ 38 = 0 := hz
    obtain ⟨tt, fr, hg⟩ := hGdecays.row
    have hc : Gdecays.cells.size = 38 := rfl
    have ix := Gdecays.index
    generalize Gdecays.cells = C at hg ix hc
    have H := Aside0.mk h
    have HG := Aside0.mk hGdecays
    have HX := Aside0.mk ix
    clear h hGdecays ix hz
    go_enter Tryd.func9, Tryd.ntmps9
    go_wp2_with (refine wpList_load_row rfl 36 _ rfl 1 rfl tt C fr _ hg Tryd.underlying36 rfl (by rw [hc]; kernel_rfl) ?_)
    go_loopw [3, 10] (fun y i wr => ∃ (k : Nat) (z : Int), k ≤ 38 ∧ i = .int .i64 k ∧ y = .int .u64 z ∧ Aside0 (impl_Decay.go t (Gdecays.vals.drop k) k z = some r) ∧ Aside0 (Below w.heap.size w wr)) (fun _ i _ => 38 - (intOf i).toNat)
    case atStart => exact ⟨0, 9223372036854775808, by decide, rfl, rfl, H, ⟨Below.refl _ _⟩⟩
    case round =>
      clear H hg
      obtain ⟨k, z, hk, rfl, rfl, H, HB⟩ := hrel
      by_cases hlt : k < 38
      · have hi := HX.out k hlt
        have hb : decide ((k : Int) < 38) = true := decide_eq_true (by omega)
        have hd : Gdecays.vals.drop k = Gdecays.vals.getD k 0 :: Gdecays.vals.drop (k + 1) := by
          rw [List.drop_eq_getElem_cons hlt, List.getD_eq_getElem?_getD, List.getElem?_eq_getElem (by exact hlt)]; rfl
        have H1 := H.out
        rw [hd, impl_Decay.go] at H1
        generalize Gdecays.vals.getD k 0 = d at hi H1
        clear hd H HX
        have hkn : ((k : Int)).toNat = k := Int.toNat_natCast k
        have hk64 : min k 64 = k := by omega
        have q0 : 0 ≤ t / 2 ^ k := Int.ediv_nonneg hw.1 (Int.le_of_lt (pow_pos2 k))
        have q1 : t / 2 ^ k < 18446744073709551616 := Int.lt_of_le_of_lt (Int.ediv_le_self _ hw.1) hw.2
        have ha := and_one q0 q1
        clear q0 q1
        by_cases hu : t / 2 ^ k % 2 = 1
        · rw [if_pos hu] at H1
          replace H1 := Option.bind_eq_some_iff.mp H1
          obtain ⟨z', hz', H1⟩ := H1
          have A1 := Aside0.mk hz'
          have A2 := Aside0.mk H1
          clear hz' H1
          go_wp2_with ((with_reducible refine gate_callee (f := 17) rfl ?_); refine goesL_ (some 21) rfl rfl Tryd.func17 (by kernel_rfl) rfl #[.int .u64 z, .int .u64 d] rfl (by (try simp only [List.map_toArray, List.map_cons, List.map_nil]); first | done | rfl) ?_; (with_reducible refine (impl_scaled.calls z d z' _ A1.out).mono ?_); rintro e w5 ⟨rfl, hb5⟩; refine ⟨_, rfl, ?_⟩; have n0_ := Aside0.mk (below_step HB.out hb5); clear HB; have HB := n0_; clear n0_ hb5)
          exact ⟨⟨k + 1, z', by omega, by simp, rfl, A2, HB⟩, by simp [intOf]; omega⟩
        · rw [if_neg hu] at H1
          have A2 := Aside0.mk H1
          have hm : t / 2 ^ k % 2 = 0 := by omega
          clear H1 hu
          go_wp2
          exact ⟨⟨k + 1, z, by omega, by simp, rfl, A2, HB⟩, by simp [intOf]; omega⟩
      · obtain rfl : k = 38 := by omega
        have H1 := H.out
        rw [show Gdecays.vals.drop 38 = [] from rfl, impl_Decay.go] at H1
        obtain rfl := Option.some.inj H1
        clear H H1
        go_wp2
        exact bodyPost_ret (v := .int .u64 z) (by simp [results, Tryd.results9, go_sem]) rfl ⟨rfl, HB.out⟩
  · rw [if_neg hz] at h
    obtain rfl := Option.some.inj h
    clear h
    have hs38 : (t / 2 ^ 38 != 0) = true := by
      have : t / 2 ^ 38 ≠ 0 := hz
      simpa using this
    clear hz
    go_enter Tryd.func9, Tryd.ntmps9
    go_wp2
    exact bodyPost_ret (v := .int .u64 0) (by simp [results, Tryd.results9, go_sem]) rfl ⟨rfl, Below.refl _ _⟩
end Go.Proofs.YtbcjhnhkpbcmcaaDoor.Given
