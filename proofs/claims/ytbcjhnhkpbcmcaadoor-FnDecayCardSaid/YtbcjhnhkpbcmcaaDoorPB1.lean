-- Written by gprint.py (this session's program) through the kit's print.py. Lean checks it.
import Derived.Test.YtbcjhnhkpbcmcaaDoorPB0
namespace Go.Proofs.YtbcjhnhkpbcmcaaDoor.PB
open Go.Proofs.YtbcjhnhkpbcmcaaDoorW.Z
open Go.Proofs.YtbcjhnhkpbcmcaaDoor.Given
open Go.Proofs.YtbcjhnhkpbcmcaaDoor.PA
open Go.RowKit Go.Proofs.YtbcjhnhkpbcmcaaDoorW.PrintWords Go.Proofs.YtbcjhnhkpbcmcaaDoorW.PrintLast Go.Proofs.YtbcjhnhkpbcmcaaDoorW.PrintMore
attribute [local go_sem] max2_int min2_int max_two min_two max_three min_three max_four min_four   -- for this text's walks alone
set_option linter.unusedVariables false
set_option linter.unusedSimpArgs false

/-! ### laws_FnExactDecay: function 4 -/
def laws_FnExactDecay.f (k : Nat) (a0 : Int) : Option (Bool) := (spec_Decay.f k a0).bind fun t101 => ((impl_Decay.f a0).bind fun t102 => (if t102 = t101 then (some true) else (none)))
theorem laws_FnExactDecay.mono : ∀ a0 k, LeO (laws_FnExactDecay.f k a0) (laws_FnExactDecay.f (k + 1) a0) := by
  intro a0 k
  unfold laws_FnExactDecay.f
  repeat' first
      | (with_reducible exact spec_Decay.mono _ _)
      | (with_reducible exact LeO.refl _)
      | (with_reducible exact LeO.none _)
      | (with_reducible refine LeO.ite ?_ ?_)
      | (with_reducible refine LeO.bind ?_ (fun _ => ?_))
      | exact spec_Decay.mono _ _
      | exact LeO.none _
      | refine LeO.ite ?_ ?_
      | refine LeO.bind ?_ (fun _ => ?_)
set_option maxHeartbeats 8000000 in
set_option maxRecDepth 100000 in
theorem laws_FnExactDecay.calls (k : Nat) (a0 : Int) (r : Bool) (w : World) (hGdecays : Gdecays w) (h : laws_FnExactDecay.f k a0 = some r) :
    Calls Tryd.prog 4 #[.int .u64 a0] w fun e w' => e = .returned (.bool r) ∧ Below w.heap.size w w' := by
  have HB := Aside0.mk (Below.refl w.heap.size w)
  have H : ((spec_Decay.f k a0).bind fun t101 => ((impl_Decay.f a0).bind fun t102 => (if t102 = t101 then (some true) else (none)))) = some r := h
  clear h
  replace H := Option.bind_eq_some_iff.mp H
  obtain ⟨t101, A20, H⟩ := H
  replace H : ((impl_Decay.f a0).bind fun t102 => (if t102 = t101 then (some true) else (none))) = some r := H
  have A2 := Aside0.mk A20
  clear A20
  replace H := Option.bind_eq_some_iff.mp H
  obtain ⟨t102, A30, H⟩ := H
  replace H : (if t102 = t101 then (some true) else (none)) = some r := H
  have A3 := Aside0.mk A30
  clear A30
  by_cases c4 : t102 = t101
  · rw [if_pos c4] at H
    have c4b0 : (t102 == t101) = true := beq_iff_eq.mpr c4
    have c4b1 : (t102 != t101) = false := bne_eq_false_iff_eq.mpr c4
    clear c4
    obtain rfl := Option.some.inj H
    go_enter Tryd.func4, Tryd.ntmps4
    go_wp2_with (first | ((with_reducible refine gate_callee (f := 8) rfl ?_); refine goesL_ (some 6) rfl rfl Tryd.func8 (by kernel_rfl) rfl #[.int .u64 a0] rfl (by (try simp only [List.map_toArray, List.map_cons, List.map_nil]); first | done | rfl | (simp only [List.length_drop, List.length_take]; rfl)) ?_; (with_reducible refine (spec_Decay.calls k a0 t101 _ A2.out).mono ?_); rintro e w5 ⟨rfl, hb⟩; refine ⟨_, rfl, ?_⟩; have n0_ := Aside0.mk (below_step zb hb); clear HB; have HB := n0_; clear n0_; (try clear hb); (try clear hb2); (try clear hk); (try clear hi)) | ((with_reducible refine gate_callee (f := 9) rfl ?_); refine goesL_ (some 8) rfl rfl Tryd.func9 (by kernel_rfl) rfl #[.int .u64 a0] rfl (by (try simp only [List.map_toArray, List.map_cons, List.map_nil]); first | done | rfl | (simp only [List.length_drop, List.length_take]; rfl)) ?_; (with_reducible refine (impl_Decay.calls a0 t102 _ ?side1 A3.out).mono ?_); (case side1 => exact Gdecays.below hGdecays zb); rintro e w6 ⟨rfl, hb⟩; refine ⟨_, rfl, ?_⟩; have n0_ := Aside0.mk (below_step zb hb); clear HB; have HB := n0_; clear n0_; (try clear hb); (try clear hb2); (try clear hk); (try clear hi)))
    go_ret
    exact ⟨by first | rfl | (simp [errW_none, errW_some] <;> rfl) | (simp [*, errW_none, errW_some] <;> rfl), zb⟩
  · rw [if_neg c4] at H
    exact absurd H (by simp)

/-! ### laws_FnDecay: function 5 -/
mutual
def laws_FnDecay.j0 : Nat → List Int → List Int → Bool → Option (Bool)
  | 0, _, _, _ => none
  | k + 1, x0, x1, x20 => if x20 = true then (some true) else ((spec_DrawBase.f k x0).bind fun t103 => ((spec_DrawBase.f k x1).bind fun t104 => ((impl_Base.f t103).bind fun t105 => ((impl_Base.f t104).bind fun t106 => ((spec_Base.f k t103).bind fun t107 => (if t105 = t107 then ((spec_Base.f k t104).bind fun t108 => (if t106 = t108 then (if t103 < t104 then (if t105 < t106 then (laws_FnDecay.j1 k x0 x1 true) else (if t104 < t103 then (laws_FnDecay.j1 k x0 x1 (decide (t106 < t105))) else (laws_FnDecay.j1 k x0 x1 false))) else (if t104 < t103 then (laws_FnDecay.j1 k x0 x1 (decide (t106 < t105))) else (laws_FnDecay.j1 k x0 x1 false))) else (laws_FnDecay.j1 k x0 x1 true))) else (laws_FnDecay.j1 k x0 x1 true)))))))
def laws_FnDecay.j1 : Nat → List Int → List Int → Bool → Option (Bool)
  | 0, _, _, _ => none
  | k + 1, x0, x1, x58 => if x58 = true then (none) else ((spec_DrawDecay.f k x0).bind fun t109 => ((impl_Decay.f t109).bind fun t110 => ((spec_Decay.f k t109).bind fun t111 => (if t110 = t111 then (laws_FnDecay.l0 k x1 t109 t110 1 0) else (none)))))
def laws_FnDecay.l0 : Nat → List Int → Int → Int → Int → Int → Option (Bool)
  | 0, _, _, _, _, _ => none
  | k + 1, x1, x9, x10, x11, x12 => (laws_wPick.f x1 0).bind fun t112 => (if x12 < (Int.tmod t112 38) then (laws_FnDecay.l0 k x1 x9 x10 (IntKind.u64.wrap (x11 * 2)) (wrap64 (x12 + 1))) else (if x9 ≥ 274877906944 then (some true) else ((impl_Decay.f (Go.bits .or .u64 x9 x11)).bind fun t113 => (some (decide (t113 ≤ x10))))))
end
def laws_FnDecay.f (k : Nat) (l0 : List Int) (l1 : List Int) : Option (Bool) := if (l0.length : Int) > 1048576 then (laws_FnDecay.j0 k l0 l1 true) else (laws_FnDecay.j0 k l0 l1 (decide ((l1.length : Int) > 1048576)))
theorem laws_FnDecay.mono_l : ∀ k, (∀ y0 y1 y2, LeO (laws_FnDecay.j0 k y0 y1 y2) (laws_FnDecay.j0 (k + 1) y0 y1 y2)) ∧ (∀ y0 y1 y2, LeO (laws_FnDecay.j1 k y0 y1 y2) (laws_FnDecay.j1 (k + 1) y0 y1 y2)) ∧ (∀ y0 y1 y2 y3 y4, LeO (laws_FnDecay.l0 k y0 y1 y2 y3 y4) (laws_FnDecay.l0 (k + 1) y0 y1 y2 y3 y4))
  | 0 => ⟨fun _ _ _ r h => by simp [laws_FnDecay.j0] at h, fun _ _ _ r h => by simp [laws_FnDecay.j1] at h, fun _ _ _ _ _ r h => by simp [laws_FnDecay.l0] at h⟩
  | k + 1 => by
    obtain ⟨ih0, ih1, ih2⟩ := laws_FnDecay.mono_l k
    refine ⟨?_, ?_, ?_⟩
    · intro y0 y1 y2
      unfold laws_FnDecay.j0
      repeat' first
      | (with_reducible exact ih0 _ _ _)
      | (with_reducible exact ih1 _ _ _)
      | (with_reducible exact ih2 _ _ _ _ _)
      | (with_reducible exact spec_Base.mono _ _)
      | (with_reducible exact spec_Decay.mono _ _)
      | (with_reducible exact spec_DrawBase.mono _ _)
      | (with_reducible exact spec_DrawDecay.mono _ _)
      | (with_reducible exact LeO.refl _)
      | (with_reducible exact LeO.none _)
      | (with_reducible refine LeO.ite ?_ ?_)
      | (with_reducible refine LeO.bind ?_ (fun _ => ?_))
      | exact ih0 _ _ _
      | exact ih1 _ _ _
      | exact ih2 _ _ _ _ _
      | exact spec_Base.mono _ _
      | exact spec_Decay.mono _ _
      | exact spec_DrawBase.mono _ _
      | exact spec_DrawDecay.mono _ _
      | exact LeO.none _
      | refine LeO.ite ?_ ?_
      | refine LeO.bind ?_ (fun _ => ?_)
    · intro y0 y1 y2
      unfold laws_FnDecay.j1
      repeat' first
      | (with_reducible exact ih0 _ _ _)
      | (with_reducible exact ih1 _ _ _)
      | (with_reducible exact ih2 _ _ _ _ _)
      | (with_reducible exact spec_Base.mono _ _)
      | (with_reducible exact spec_Decay.mono _ _)
      | (with_reducible exact spec_DrawBase.mono _ _)
      | (with_reducible exact spec_DrawDecay.mono _ _)
      | (with_reducible exact LeO.refl _)
      | (with_reducible exact LeO.none _)
      | (with_reducible refine LeO.ite ?_ ?_)
      | (with_reducible refine LeO.bind ?_ (fun _ => ?_))
      | exact ih0 _ _ _
      | exact ih1 _ _ _
      | exact ih2 _ _ _ _ _
      | exact spec_Base.mono _ _
      | exact spec_Decay.mono _ _
      | exact spec_DrawBase.mono _ _
      | exact spec_DrawDecay.mono _ _
      | exact LeO.none _
      | refine LeO.ite ?_ ?_
      | refine LeO.bind ?_ (fun _ => ?_)
    · intro y0 y1 y2 y3 y4
      unfold laws_FnDecay.l0
      repeat' first
      | (with_reducible exact ih0 _ _ _)
      | (with_reducible exact ih1 _ _ _)
      | (with_reducible exact ih2 _ _ _ _ _)
      | (with_reducible exact spec_Base.mono _ _)
      | (with_reducible exact spec_Decay.mono _ _)
      | (with_reducible exact spec_DrawBase.mono _ _)
      | (with_reducible exact spec_DrawDecay.mono _ _)
      | (with_reducible exact LeO.refl _)
      | (with_reducible exact LeO.none _)
      | (with_reducible refine LeO.ite ?_ ?_)
      | (with_reducible refine LeO.bind ?_ (fun _ => ?_))
      | exact ih0 _ _ _
      | exact ih1 _ _ _
      | exact ih2 _ _ _ _ _
      | exact spec_Base.mono _ _
      | exact spec_Decay.mono _ _
      | exact spec_DrawBase.mono _ _
      | exact spec_DrawDecay.mono _ _
      | exact LeO.none _
      | refine LeO.ite ?_ ?_
      | refine LeO.bind ?_ (fun _ => ?_)
theorem laws_FnDecay.mono : ∀ a0 a1 k, LeO (laws_FnDecay.f k a0 a1) (laws_FnDecay.f (k + 1) a0 a1) := by
  intro a0 a1 k
  obtain ⟨ih0, ih1, ih2⟩ := laws_FnDecay.mono_l k
  unfold laws_FnDecay.f
  repeat' first
      | (with_reducible exact ih0 _ _ _)
      | (with_reducible exact ih1 _ _ _)
      | (with_reducible exact ih2 _ _ _ _ _)
      | (with_reducible exact spec_Base.mono _ _)
      | (with_reducible exact spec_Decay.mono _ _)
      | (with_reducible exact spec_DrawBase.mono _ _)
      | (with_reducible exact spec_DrawDecay.mono _ _)
      | (with_reducible exact LeO.refl _)
      | (with_reducible exact LeO.none _)
      | (with_reducible refine LeO.ite ?_ ?_)
      | (with_reducible refine LeO.bind ?_ (fun _ => ?_))
      | exact ih0 _ _ _
      | exact ih1 _ _ _
      | exact ih2 _ _ _ _ _
      | exact spec_Base.mono _ _
      | exact spec_Decay.mono _ _
      | exact spec_DrawBase.mono _ _
      | exact spec_DrawDecay.mono _ _
      | exact LeO.none _
      | refine LeO.ite ?_ ?_
      | refine LeO.bind ?_ (fun _ => ?_)
set_option maxHeartbeats 8000000 in
set_option maxRecDepth 100000 in
theorem laws_FnDecay.calls (k : Nat) (A0 : Option Addr) (c0 : Nat) (l0 : List Int) (A1 : Option Addr) (c1 : Nat) (l1 : List Int) (r : Bool) (w : World) (hr0 : Kd.C (Kd.int .u8) w A0 l0.length l0) (hc0 : l0.length ≤ c0) (hr1 : Kd.C (Kd.int .u8) w A1 l1.length l1) (hc1 : l1.length ≤ c1) (hGdecays : Gdecays w) (hGshares : Gshares w) (h : laws_FnDecay.f k l0 l1 = some r) :
    Calls Tryd.prog 5 #[.slice A0 l0.length c0, .slice A1 l1.length c1] w fun e w' => e = .returned (.bool r) ∧ Below w.heap.size w w' := by
  have HR0 := Aside0.mk hr0
  have HC0 := Aside0.mk hc0
  clear hr0 hc0
  have HR1 := Aside0.mk hr1
  have HC1 := Aside0.mk hc1
  clear hr1 hc1
  have HB := Aside0.mk (Below.refl w.heap.size w)
  have H : (if (l0.length : Int) > 1048576 then (laws_FnDecay.j0 k l0 l1 true) else (laws_FnDecay.j0 k l0 l1 (decide ((l1.length : Int) > 1048576)))) = some r := h
  clear h
  have HC3 := Aside0.mk H
  clear H
  go_enter Tryd.func5, Tryd.ntmps5
  go_upto_region 1 with (fail)
  go_cut [20] (fun v20 wc => ∃ (kq : Nat) (x20_2 : Bool), v20 = .bool x20_2 ∧ Aside0 (laws_FnDecay.j0 kq l0 l1 x20_2 = some r) ∧ Aside0 (kq ≤ k) ∧ Aside0 (Below w.heap.size w wc))
  case first =>
    have H := HC3.out
    clear HC3
    by_cases c4 : (l0.length : Int) > 1048576
    · rw [if_pos c4] at H
      have c4b0 : decide (1048576 < (l0.length : Int)) = true := decide_eq_true c4
      have c4b1 : decide (1048576 < l0.length) = true := decide_eq_true (by omega)
      clear c4
      (first | rw [c4b0] | (simp only [i64_w, i32_w]; rw [c4b0]) | skip)
      have H' := Aside0.mk H
      clear H
      go_wp2
      go_meet
      case rel => exact ⟨_, (true), (by first | rfl | (simp; done) | (simp [*]; done)), H', ⟨by first | omega | exact Nat.le_refl _⟩, ⟨zb⟩⟩
    · rw [if_neg c4] at H
      have c4b0 : decide (1048576 < (l0.length : Int)) = false := decide_eq_false c4
      have c4b1 : decide (1048576 < l0.length) = false := decide_eq_false (by omega)
      clear c4
      (first | rw [c4b0] | (simp only [i64_w, i32_w]; rw [c4b0]) | skip)
      have H' := Aside0.mk H
      clear H
      go_wp2
      go_meet
      case rel => exact ⟨_, (decide ((l1.length : Int) > 1048576)), (by first | rfl | (simp; done) | (simp [*]; done)), H', ⟨by first | omega | exact Nat.le_refl _⟩, ⟨zb⟩⟩
  case rest =>
    clear HC3
    try clear c1
    try clear p2
    try clear c4
    try clear c4b0
    try clear c4b1
    obtain ⟨kq, x20_2, rfl, HA, HJ2, HB⟩ := hcut
    cases kq with
    | zero => exact absurd HA.out (by simp [laws_FnDecay.j0])
    | succ kj2 =>
      have H := HA.out
      clear HA
      simp only [laws_FnDecay.j0] at H
      by_cases c5 : x20_2 = true
      · subst c5
        have H1 : (some true) = some r := by rw [if_pos rfl] at H; exact H
        clear H
        have H := H1
        clear H1
        obtain rfl := Option.some.inj H
        go_wp2
        go_ret
        exact ⟨by first | rfl | (simp [errW_none, errW_some] <;> rfl) | (simp [*, errW_none, errW_some] <;> rfl), zb⟩
      · replace c5 := Bool.eq_false_iff.mpr c5
        subst c5
        have H1 : ((spec_DrawBase.f kj2 l0).bind fun t103 => ((spec_DrawBase.f kj2 l1).bind fun t104 => ((impl_Base.f t103).bind fun t105 => ((impl_Base.f t104).bind fun t106 => ((spec_Base.f kj2 t103).bind fun t107 => (if t105 = t107 then ((spec_Base.f kj2 t104).bind fun t108 => (if t106 = t108 then (if t103 < t104 then (if t105 < t106 then (laws_FnDecay.j1 kj2 l0 l1 true) else (if t104 < t103 then (laws_FnDecay.j1 kj2 l0 l1 (decide (t106 < t105))) else (laws_FnDecay.j1 kj2 l0 l1 false))) else (if t104 < t103 then (laws_FnDecay.j1 kj2 l0 l1 (decide (t106 < t105))) else (laws_FnDecay.j1 kj2 l0 l1 false))) else (laws_FnDecay.j1 kj2 l0 l1 true))) else (laws_FnDecay.j1 kj2 l0 l1 true))))))) = some r := by rw [if_neg (show ¬ (false = true) by decide)] at H; exact H
        clear H
        have H := H1
        clear H1
        replace H := Option.bind_eq_some_iff.mp H
        obtain ⟨t103, A60, H⟩ := H
        replace H : ((spec_DrawBase.f kj2 l1).bind fun t104 => ((impl_Base.f t103).bind fun t105 => ((impl_Base.f t104).bind fun t106 => ((spec_Base.f kj2 t103).bind fun t107 => (if t105 = t107 then ((spec_Base.f kj2 t104).bind fun t108 => (if t106 = t108 then (if t103 < t104 then (if t105 < t106 then (laws_FnDecay.j1 kj2 l0 l1 true) else (if t104 < t103 then (laws_FnDecay.j1 kj2 l0 l1 (decide (t106 < t105))) else (laws_FnDecay.j1 kj2 l0 l1 false))) else (if t104 < t103 then (laws_FnDecay.j1 kj2 l0 l1 (decide (t106 < t105))) else (laws_FnDecay.j1 kj2 l0 l1 false))) else (laws_FnDecay.j1 kj2 l0 l1 true))) else (laws_FnDecay.j1 kj2 l0 l1 true)))))) = some r := H
        have A6 := Aside0.mk A60
        clear A60
        replace H := Option.bind_eq_some_iff.mp H
        obtain ⟨t104, A70, H⟩ := H
        replace H : ((impl_Base.f t103).bind fun t105 => ((impl_Base.f t104).bind fun t106 => ((spec_Base.f kj2 t103).bind fun t107 => (if t105 = t107 then ((spec_Base.f kj2 t104).bind fun t108 => (if t106 = t108 then (if t103 < t104 then (if t105 < t106 then (laws_FnDecay.j1 kj2 l0 l1 true) else (if t104 < t103 then (laws_FnDecay.j1 kj2 l0 l1 (decide (t106 < t105))) else (laws_FnDecay.j1 kj2 l0 l1 false))) else (if t104 < t103 then (laws_FnDecay.j1 kj2 l0 l1 (decide (t106 < t105))) else (laws_FnDecay.j1 kj2 l0 l1 false))) else (laws_FnDecay.j1 kj2 l0 l1 true))) else (laws_FnDecay.j1 kj2 l0 l1 true))))) = some r := H
        have A7 := Aside0.mk A70
        clear A70
        replace H := Option.bind_eq_some_iff.mp H
        obtain ⟨t105, A80, H⟩ := H
        replace H : ((impl_Base.f t104).bind fun t106 => ((spec_Base.f kj2 t103).bind fun t107 => (if t105 = t107 then ((spec_Base.f kj2 t104).bind fun t108 => (if t106 = t108 then (if t103 < t104 then (if t105 < t106 then (laws_FnDecay.j1 kj2 l0 l1 true) else (if t104 < t103 then (laws_FnDecay.j1 kj2 l0 l1 (decide (t106 < t105))) else (laws_FnDecay.j1 kj2 l0 l1 false))) else (if t104 < t103 then (laws_FnDecay.j1 kj2 l0 l1 (decide (t106 < t105))) else (laws_FnDecay.j1 kj2 l0 l1 false))) else (laws_FnDecay.j1 kj2 l0 l1 true))) else (laws_FnDecay.j1 kj2 l0 l1 true)))) = some r := H
        have A8 := Aside0.mk A80
        clear A80
        replace H := Option.bind_eq_some_iff.mp H
        obtain ⟨t106, A90, H⟩ := H
        replace H : ((spec_Base.f kj2 t103).bind fun t107 => (if t105 = t107 then ((spec_Base.f kj2 t104).bind fun t108 => (if t106 = t108 then (if t103 < t104 then (if t105 < t106 then (laws_FnDecay.j1 kj2 l0 l1 true) else (if t104 < t103 then (laws_FnDecay.j1 kj2 l0 l1 (decide (t106 < t105))) else (laws_FnDecay.j1 kj2 l0 l1 false))) else (if t104 < t103 then (laws_FnDecay.j1 kj2 l0 l1 (decide (t106 < t105))) else (laws_FnDecay.j1 kj2 l0 l1 false))) else (laws_FnDecay.j1 kj2 l0 l1 true))) else (laws_FnDecay.j1 kj2 l0 l1 true))) = some r := H
        have A9 := Aside0.mk A90
        clear A90
        have HC10 := Aside0.mk H
        clear H
        go_upto_region 7 with (first | ((with_reducible refine gate_callee (f := 10) rfl ?_); refine goesL_ (some 22) rfl rfl Tryd.func10 (by kernel_rfl) rfl #[.slice A0 l0.length c0] rfl (by (try simp only [List.map_toArray, List.map_cons, List.map_nil]); first | done | rfl | (simp only [List.length_drop, List.length_take]; rfl)) ?_; (with_reducible refine (spec_DrawBase.calls kj2 _ _ l0 t103 _ ?side1 ?side2 A6.out).mono ?_); (case side1 => repeat (first | exact (Kd.C_below HR0.out HB.out) | (with_reducible refine Kd.C_alloc ?_ _) | (with_reducible refine Kd.C_drewN ?_ _) | (with_reducible refine Kd.C_drew ?_))); (case side2 => exact HC0.out); rintro e w11 ⟨rfl, hb⟩; refine ⟨_, rfl, ?_⟩; have n0_ := Aside0.mk (below_step zb hb); clear HB; have HB := n0_; clear n0_; (try clear hb); (try clear hb2); (try clear hk); (try clear hi)) | ((with_reducible refine gate_callee (f := 10) rfl ?_); refine goesL_ (some 24) rfl rfl Tryd.func10 (by kernel_rfl) rfl #[.slice A1 l1.length c1] rfl (by (try simp only [List.map_toArray, List.map_cons, List.map_nil]); first | done | rfl | (simp only [List.length_drop, List.length_take]; rfl)) ?_; (with_reducible refine (spec_DrawBase.calls kj2 _ _ l1 t104 _ ?side1 ?side2 A7.out).mono ?_); (case side1 => repeat (first | exact (Kd.C_below HR1.out HB.out) | (with_reducible refine Kd.C_alloc ?_ _) | (with_reducible refine Kd.C_drewN ?_ _) | (with_reducible refine Kd.C_drew ?_))); (case side2 => exact HC1.out); rintro e w12 ⟨rfl, hb⟩; refine ⟨_, rfl, ?_⟩; have n0_ := Aside0.mk (below_step zb hb); clear HB; have HB := n0_; clear n0_; (try clear hb); (try clear hb2); (try clear hk); (try clear hi)) | ((with_reducible refine gate_callee (f := 7) rfl ?_); refine goesL_ (some 26) rfl rfl Tryd.func7 (by kernel_rfl) rfl #[.int .u64 t103] rfl (by (try simp only [List.map_toArray, List.map_cons, List.map_nil]); first | done | rfl | (simp only [List.length_drop, List.length_take]; rfl)) ?_; (with_reducible refine (impl_Base.calls t103 t105 _ ?side1 A8.out).mono ?_); (case side1 => exact Gshares.below hGshares zb); rintro e w13 ⟨rfl, hb⟩; refine ⟨_, rfl, ?_⟩; have n0_ := Aside0.mk (below_step zb hb); clear HB; have HB := n0_; clear n0_; (try clear hb); (try clear hb2); (try clear hk); (try clear hi)) | ((with_reducible refine gate_callee (f := 7) rfl ?_); refine goesL_ (some 28) rfl rfl Tryd.func7 (by kernel_rfl) rfl #[.int .u64 t104] rfl (by (try simp only [List.map_toArray, List.map_cons, List.map_nil]); first | done | rfl | (simp only [List.length_drop, List.length_take]; rfl)) ?_; (with_reducible refine (impl_Base.calls t104 t106 _ ?side1 A9.out).mono ?_); (case side1 => exact Gshares.below hGshares zb); rintro e w14 ⟨rfl, hb⟩; refine ⟨_, rfl, ?_⟩; have n0_ := Aside0.mk (below_step zb hb); clear HB; have HB := n0_; clear n0_; (try clear hb); (try clear hb2); (try clear hk); (try clear hi)))
        (try simp only [Act.put, List.setIfInBounds_toArray, List.set_cons_zero, List.set_cons_succ])
        go_cut [58] (fun v58 wc => ∃ (kq : Nat) (x58_9 : Bool), v58 = .bool x58_9 ∧ Aside0 (laws_FnDecay.j1 kq l0 l1 x58_9 = some r) ∧ Aside0 (kq ≤ kj2) ∧ Aside0 (Below w.heap.size w wc))
        case first =>
          have H := HC10.out
          clear HC10
          replace H := Option.bind_eq_some_iff.mp H
          obtain ⟨t107, A150, H⟩ := H
          replace H : (if t105 = t107 then ((spec_Base.f kj2 t104).bind fun t108 => (if t106 = t108 then (if t103 < t104 then (if t105 < t106 then (laws_FnDecay.j1 kj2 l0 l1 true) else (if t104 < t103 then (laws_FnDecay.j1 kj2 l0 l1 (decide (t106 < t105))) else (laws_FnDecay.j1 kj2 l0 l1 false))) else (if t104 < t103 then (laws_FnDecay.j1 kj2 l0 l1 (decide (t106 < t105))) else (laws_FnDecay.j1 kj2 l0 l1 false))) else (laws_FnDecay.j1 kj2 l0 l1 true))) else (laws_FnDecay.j1 kj2 l0 l1 true)) = some r := H
          have A15 := Aside0.mk A150
          clear A150
          by_cases c16 : t105 = t107
          · rw [if_pos c16] at H
            have c16b0 : (t105 == t107) = true := beq_iff_eq.mpr c16
            have c16b1 : (t105 != t107) = false := bne_eq_false_iff_eq.mpr c16
            clear c16
            (first | rw [c16b0] | (simp only [i64_w, i32_w]; rw [c16b0]) | skip)
            replace H := Option.bind_eq_some_iff.mp H
            obtain ⟨t108, A170, H⟩ := H
            replace H : (if t106 = t108 then (if t103 < t104 then (if t105 < t106 then (laws_FnDecay.j1 kj2 l0 l1 true) else (if t104 < t103 then (laws_FnDecay.j1 kj2 l0 l1 (decide (t106 < t105))) else (laws_FnDecay.j1 kj2 l0 l1 false))) else (if t104 < t103 then (laws_FnDecay.j1 kj2 l0 l1 (decide (t106 < t105))) else (laws_FnDecay.j1 kj2 l0 l1 false))) else (laws_FnDecay.j1 kj2 l0 l1 true)) = some r := H
            have A17 := Aside0.mk A170
            clear A170
            by_cases c18 : t106 = t108
            · rw [if_pos c18] at H
              have c18b0 : (t106 == t108) = true := beq_iff_eq.mpr c18
              have c18b1 : (t106 != t108) = false := bne_eq_false_iff_eq.mpr c18
              clear c18
              by_cases c19 : t103 < t104
              · rw [if_pos c19] at H
                have c19b0 : decide (t103 < t104) = true := decide_eq_true c19
                clear c19
                by_cases c20 : t105 < t106
                · rw [if_pos c20] at H
                  have c20b0 : decide (t105 < t106) = true := decide_eq_true c20
                  clear c20
                  have H' := Aside0.mk H
                  clear H
                  go_wp2_with (first | ((with_reducible refine gate_callee (f := 6) rfl ?_); refine goesL_ (some 31) rfl rfl Tryd.func6 (by kernel_rfl) rfl #[.int .u64 t103] rfl (by (try simp only [List.map_toArray, List.map_cons, List.map_nil]); first | done | rfl | (simp only [List.length_drop, List.length_take]; rfl)) ?_; (with_reducible refine (spec_Base.calls kj2 t103 t107 _ A15.out).mono ?_); rintro e w21 ⟨rfl, hb⟩; refine ⟨_, rfl, ?_⟩; have n0_ := Aside0.mk (below_step zb hb); clear HB; have HB := n0_; clear n0_; (try clear hb); (try clear hb2); (try clear hk); (try clear hi)) | (go_at_call 6; (with_reducible refine (spec_Base.calls kj2 t104 t108 _ A17.out).mono ?_); rintro e w22 ⟨rfl, hb⟩; have n0_ := Aside0.mk (below_step zb hb); clear HB; have HB := n0_; clear n0_; (try clear hb); (try clear hb2); (try clear hk); (try clear hi)))
                  go_meet
                  case rel => exact ⟨_, (true), (by first | rfl | (simp; done) | (simp [*]; done)), H', ⟨by have := HJ2.out; first | omega | exact Nat.le_refl _⟩, ⟨zb⟩⟩
                · rw [if_neg c20] at H
                  have c20b0 : decide (t105 < t106) = false := decide_eq_false c20
                  clear c20
                  by_cases c23 : t104 < t103
                  · rw [if_pos c23] at H
                    have c23b0 : decide (t104 < t103) = true := decide_eq_true c23
                    clear c23
                    have H' := Aside0.mk H
                    clear H
                    go_wp2_with (first | ((with_reducible refine gate_callee (f := 6) rfl ?_); refine goesL_ (some 31) rfl rfl Tryd.func6 (by kernel_rfl) rfl #[.int .u64 t103] rfl (by (try simp only [List.map_toArray, List.map_cons, List.map_nil]); first | done | rfl | (simp only [List.length_drop, List.length_take]; rfl)) ?_; (with_reducible refine (spec_Base.calls kj2 t103 t107 _ A15.out).mono ?_); rintro e w24 ⟨rfl, hb⟩; refine ⟨_, rfl, ?_⟩; have n0_ := Aside0.mk (below_step zb hb); clear HB; have HB := n0_; clear n0_; (try clear hb); (try clear hb2); (try clear hk); (try clear hi)) | (go_at_call 6; (with_reducible refine (spec_Base.calls kj2 t104 t108 _ A17.out).mono ?_); rintro e w25 ⟨rfl, hb⟩; have n0_ := Aside0.mk (below_step zb hb); clear HB; have HB := n0_; clear n0_; (try clear hb); (try clear hb2); (try clear hk); (try clear hi)))
                    go_meet
                    case rel => exact ⟨_, (decide (t106 < t105)), (by first | rfl | (simp; done) | (simp [*]; done)), H', ⟨by have := HJ2.out; first | omega | exact Nat.le_refl _⟩, ⟨zb⟩⟩
                  · rw [if_neg c23] at H
                    have c23b0 : decide (t104 < t103) = false := decide_eq_false c23
                    clear c23
                    have H' := Aside0.mk H
                    clear H
                    go_wp2_with (first | ((with_reducible refine gate_callee (f := 6) rfl ?_); refine goesL_ (some 31) rfl rfl Tryd.func6 (by kernel_rfl) rfl #[.int .u64 t103] rfl (by (try simp only [List.map_toArray, List.map_cons, List.map_nil]); first | done | rfl | (simp only [List.length_drop, List.length_take]; rfl)) ?_; (with_reducible refine (spec_Base.calls kj2 t103 t107 _ A15.out).mono ?_); rintro e w26 ⟨rfl, hb⟩; refine ⟨_, rfl, ?_⟩; have n0_ := Aside0.mk (below_step zb hb); clear HB; have HB := n0_; clear n0_; (try clear hb); (try clear hb2); (try clear hk); (try clear hi)) | (go_at_call 6; (with_reducible refine (spec_Base.calls kj2 t104 t108 _ A17.out).mono ?_); rintro e w27 ⟨rfl, hb⟩; have n0_ := Aside0.mk (below_step zb hb); clear HB; have HB := n0_; clear n0_; (try clear hb); (try clear hb2); (try clear hk); (try clear hi)))
                    go_meet
                    case rel => exact ⟨_, (false), (by first | rfl | (simp; done) | (simp [*]; done)), H', ⟨by have := HJ2.out; first | omega | exact Nat.le_refl _⟩, ⟨zb⟩⟩
              · rw [if_neg c19] at H
                have c19b0 : decide (t103 < t104) = false := decide_eq_false c19
                clear c19
                by_cases c28 : t104 < t103
                · rw [if_pos c28] at H
                  have c28b0 : decide (t104 < t103) = true := decide_eq_true c28
                  clear c28
                  have H' := Aside0.mk H
                  clear H
                  go_wp2_with (first | ((with_reducible refine gate_callee (f := 6) rfl ?_); refine goesL_ (some 31) rfl rfl Tryd.func6 (by kernel_rfl) rfl #[.int .u64 t103] rfl (by (try simp only [List.map_toArray, List.map_cons, List.map_nil]); first | done | rfl | (simp only [List.length_drop, List.length_take]; rfl)) ?_; (with_reducible refine (spec_Base.calls kj2 t103 t107 _ A15.out).mono ?_); rintro e w29 ⟨rfl, hb⟩; refine ⟨_, rfl, ?_⟩; have n0_ := Aside0.mk (below_step zb hb); clear HB; have HB := n0_; clear n0_; (try clear hb); (try clear hb2); (try clear hk); (try clear hi)) | (go_at_call 6; (with_reducible refine (spec_Base.calls kj2 t104 t108 _ A17.out).mono ?_); rintro e w30 ⟨rfl, hb⟩; have n0_ := Aside0.mk (below_step zb hb); clear HB; have HB := n0_; clear n0_; (try clear hb); (try clear hb2); (try clear hk); (try clear hi)))
                  go_meet
                  case rel => exact ⟨_, (decide (t106 < t105)), (by first | rfl | (simp; done) | (simp [*]; done)), H', ⟨by have := HJ2.out; first | omega | exact Nat.le_refl _⟩, ⟨zb⟩⟩
                · rw [if_neg c28] at H
                  have c28b0 : decide (t104 < t103) = false := decide_eq_false c28
                  clear c28
                  have H' := Aside0.mk H
                  clear H
                  go_wp2_with (first | ((with_reducible refine gate_callee (f := 6) rfl ?_); refine goesL_ (some 31) rfl rfl Tryd.func6 (by kernel_rfl) rfl #[.int .u64 t103] rfl (by (try simp only [List.map_toArray, List.map_cons, List.map_nil]); first | done | rfl | (simp only [List.length_drop, List.length_take]; rfl)) ?_; (with_reducible refine (spec_Base.calls kj2 t103 t107 _ A15.out).mono ?_); rintro e w31 ⟨rfl, hb⟩; refine ⟨_, rfl, ?_⟩; have n0_ := Aside0.mk (below_step zb hb); clear HB; have HB := n0_; clear n0_; (try clear hb); (try clear hb2); (try clear hk); (try clear hi)) | (go_at_call 6; (with_reducible refine (spec_Base.calls kj2 t104 t108 _ A17.out).mono ?_); rintro e w32 ⟨rfl, hb⟩; have n0_ := Aside0.mk (below_step zb hb); clear HB; have HB := n0_; clear n0_; (try clear hb); (try clear hb2); (try clear hk); (try clear hi)))
                  go_meet
                  case rel => exact ⟨_, (false), (by first | rfl | (simp; done) | (simp [*]; done)), H', ⟨by have := HJ2.out; first | omega | exact Nat.le_refl _⟩, ⟨zb⟩⟩
            · rw [if_neg c18] at H
              have c18b0 : (t106 == t108) = false := beq_eq_false_iff_ne.mpr c18
              have c18b1 : (t106 != t108) = true := bne_iff_ne.mpr c18
              have H' := Aside0.mk H
              clear H
              go_wp2_with (first | ((with_reducible refine gate_callee (f := 6) rfl ?_); refine goesL_ (some 31) rfl rfl Tryd.func6 (by kernel_rfl) rfl #[.int .u64 t103] rfl (by (try simp only [List.map_toArray, List.map_cons, List.map_nil]); first | done | rfl | (simp only [List.length_drop, List.length_take]; rfl)) ?_; (with_reducible refine (spec_Base.calls kj2 t103 t107 _ A15.out).mono ?_); rintro e w33 ⟨rfl, hb⟩; refine ⟨_, rfl, ?_⟩; have n0_ := Aside0.mk (below_step zb hb); clear HB; have HB := n0_; clear n0_; (try clear hb); (try clear hb2); (try clear hk); (try clear hi)) | (go_at_call 6; (with_reducible refine (spec_Base.calls kj2 t104 t108 _ A17.out).mono ?_); rintro e w34 ⟨rfl, hb⟩; have n0_ := Aside0.mk (below_step zb hb); clear HB; have HB := n0_; clear n0_; (try clear hb); (try clear hb2); (try clear hk); (try clear hi)))
              go_meet
              case rel => exact ⟨_, (true), (by first | rfl | (simp; done) | (simp [*]; done)), H', ⟨by have := HJ2.out; first | omega | exact Nat.le_refl _⟩, ⟨zb⟩⟩
          · rw [if_neg c16] at H
            have c16b0 : (t105 == t107) = false := beq_eq_false_iff_ne.mpr c16
            have c16b1 : (t105 != t107) = true := bne_iff_ne.mpr c16
            (first | rw [c16b0] | (simp only [i64_w, i32_w]; rw [c16b0]) | skip)
            have H' := Aside0.mk H
            clear H
            go_wp2_with (first | ((with_reducible refine gate_callee (f := 6) rfl ?_); refine goesL_ (some 31) rfl rfl Tryd.func6 (by kernel_rfl) rfl #[.int .u64 t103] rfl (by (try simp only [List.map_toArray, List.map_cons, List.map_nil]); first | done | rfl | (simp only [List.length_drop, List.length_take]; rfl)) ?_; (with_reducible refine (spec_Base.calls kj2 t103 t107 _ A15.out).mono ?_); rintro e w35 ⟨rfl, hb⟩; refine ⟨_, rfl, ?_⟩; have n0_ := Aside0.mk (below_step zb hb); clear HB; have HB := n0_; clear n0_; (try clear hb); (try clear hb2); (try clear hk); (try clear hi)))
            go_meet
            case rel => exact ⟨_, (true), (by first | rfl | (simp; done) | (simp [*]; done)), H', ⟨by have := HJ2.out; first | omega | exact Nat.le_refl _⟩, ⟨zb⟩⟩
        case rest =>
          clear HC10
          try clear c1
          try clear c2
          try clear p2
          try clear c4
          try clear c4b0
          try clear c4b1
          try clear c5
          try clear c6
          try clear c7
          try clear c10
          try clear c16
          try clear c16b0
          try clear c16b1
          try clear c18
          try clear c18b0
          try clear c18b1
          try clear c19
          try clear c19b0
          try clear c20
          try clear c20b0
          try clear c23
          try clear c23b0
          try clear c28
          try clear c28b0
          try clear p2
          obtain ⟨kq, x58_9, rfl, HA, HJ9, HB⟩ := hcut
          cases kq with
          | zero => exact absurd HA.out (by simp [laws_FnDecay.j1])
          | succ kj9 =>
            have H := HA.out
            clear HA
            simp only [laws_FnDecay.j1] at H
            by_cases c36 : x58_9 = true
            · subst c36
              have H1 : (none) = some r := by rw [if_pos rfl] at H; exact H
              clear H
              have H := H1
              clear H1
              exact absurd H (by simp)
            · replace c36 := Bool.eq_false_iff.mpr c36
              subst c36
              have H1 : ((spec_DrawDecay.f kj9 l0).bind fun t109 => ((impl_Decay.f t109).bind fun t110 => ((spec_Decay.f kj9 t109).bind fun t111 => (if t110 = t111 then (laws_FnDecay.l0 kj9 l1 t109 t110 1 0) else (none))))) = some r := by rw [if_neg (show ¬ (false = true) by decide)] at H; exact H
              clear H
              have H := H1
              clear H1
              replace H := Option.bind_eq_some_iff.mp H
              obtain ⟨t109, A370, H⟩ := H
              replace H : ((impl_Decay.f t109).bind fun t110 => ((spec_Decay.f kj9 t109).bind fun t111 => (if t110 = t111 then (laws_FnDecay.l0 kj9 l1 t109 t110 1 0) else (none)))) = some r := H
              have A37 := Aside0.mk A370
              clear A370
              replace H := Option.bind_eq_some_iff.mp H
              obtain ⟨t110, A380, H⟩ := H
              replace H : ((spec_Decay.f kj9 t109).bind fun t111 => (if t110 = t111 then (laws_FnDecay.l0 kj9 l1 t109 t110 1 0) else (none))) = some r := H
              have A38 := Aside0.mk A380
              clear A380
              replace H := Option.bind_eq_some_iff.mp H
              obtain ⟨t111, A390, H⟩ := H
              replace H : (if t110 = t111 then (laws_FnDecay.l0 kj9 l1 t109 t110 1 0) else (none)) = some r := H
              have A39 := Aside0.mk A390
              clear A390
              by_cases c40 : t110 = t111
              · rw [if_pos c40] at H
                have c40b0 : (t110 == t111) = true := beq_iff_eq.mpr c40
                have c40b1 : (t110 != t111) = false := bne_eq_false_iff_eq.mpr c40
                clear c40
                have H' := Aside0.mk H
                clear H
                go_wp2_with (first | ((with_reducible refine gate_callee (f := 11) rfl ?_); refine goesL_ (some 60) rfl rfl Tryd.func11 (by kernel_rfl) rfl #[.slice A0 l0.length c0] rfl (by (try simp only [List.map_toArray, List.map_cons, List.map_nil]); first | done | rfl | (simp only [List.length_drop, List.length_take]; rfl)) ?_; (with_reducible refine (spec_DrawDecay.calls kj9 _ _ l0 t109 _ ?side1 ?side2 A37.out).mono ?_); (case side1 => repeat (first | exact (Kd.C_below HR0.out HB.out) | (with_reducible refine Kd.C_alloc ?_ _) | (with_reducible refine Kd.C_drewN ?_ _) | (with_reducible refine Kd.C_drew ?_))); (case side2 => exact HC0.out); rintro e w' ⟨rfl, ⟨nd, rfl⟩⟩; refine ⟨_, rfl, ?_⟩) | ((with_reducible refine gate_callee (f := 9) rfl ?_); refine goesL_ (some 62) rfl rfl Tryd.func9 (by kernel_rfl) rfl #[.int .u64 t109] rfl (by (try simp only [List.map_toArray, List.map_cons, List.map_nil]); first | done | rfl | (simp only [List.length_drop, List.length_take]; rfl)) ?_; (with_reducible refine (impl_Decay.calls t109 t110 _ ?side1 A38.out).mono ?_); (case side1 => exact Gdecays.below hGdecays zb); rintro e w41 ⟨rfl, hb⟩; refine ⟨_, rfl, ?_⟩; have n0_ := Aside0.mk (below_step zb hb); clear HB; have HB := n0_; clear n0_; (try clear hb); (try clear hb2); (try clear hk); (try clear hi)) | ((with_reducible refine gate_callee (f := 8) rfl ?_); refine goesL_ (some 65) rfl rfl Tryd.func8 (by kernel_rfl) rfl #[.int .u64 t109] rfl (by (try simp only [List.map_toArray, List.map_cons, List.map_nil]); first | done | rfl | (simp only [List.length_drop, List.length_take]; rfl)) ?_; (with_reducible refine (spec_Decay.calls kj9 t109 t111 _ A39.out).mono ?_); rintro e w42 ⟨rfl, hb⟩; refine ⟨_, rfl, ?_⟩; have n0_ := Aside0.mk (below_step zb hb); clear HB; have HB := n0_; clear n0_; (try clear hb); (try clear hb2); (try clear hk); (try clear hi)))
                go_loopg [11, 12] kj9 (fun kq v11 v12 w' => ∃ (x11_3 : Int) (x12_3 : Int), v11 = .int .u64 x11_3 ∧ v12 = .int .i64 x12_3 ∧ Aside0 (laws_FnDecay.l0 kq l1 t109 t110 x11_3 x12_3 = some r) ∧ Aside0 (kq ≤ kj9) ∧ Aside0 (Below w.heap.size w w'))
                case atStart => exact ⟨(1), (0), (by first | rfl | (simp; done) | (simp [*]; done)), (by first | rfl | (simp; done) | (simp [*]; done)), H', ⟨Nat.le_refl _⟩, ⟨zb⟩⟩
                case round =>
                  clear H'
                  try clear c1
                  try clear c2
                  try clear p2
                  try clear c3
                  try clear c4
                  try clear c4b0
                  try clear c4b1
                  try clear c5
                  try clear c6
                  try clear c7
                  try clear c8
                  try clear c9
                  try clear c10
                  try clear c11
                  try clear c16
                  try clear c16b0
                  try clear c16b1
                  try clear c18
                  try clear c18b0
                  try clear c18b1
                  try clear c19
                  try clear c19b0
                  try clear c20
                  try clear c20b0
                  try clear c23
                  try clear c23b0
                  try clear c28
                  try clear c28b0
                  try clear c36
                  try clear c40
                  try clear c40b0
                  try clear c40b1
                  try clear p2
                  obtain ⟨x11_3, x12_3, rfl, rfl, HA, HK3, HB⟩ := hrel
                  cases gk with
                  | zero => exact absurd HA.out (by simp [laws_FnDecay.l0])
                  | succ k3 =>
                    have H := HA.out
                    clear HA
                    simp only [laws_FnDecay.l0] at H
                    replace H := Option.bind_eq_some_iff.mp H
                    obtain ⟨t112, A430, H⟩ := H
                    replace H : (if x12_3 < (Int.tmod t112 38) then (laws_FnDecay.l0 k3 l1 t109 t110 (IntKind.u64.wrap (x11_3 * 2)) (wrap64 (x12_3 + 1))) else (if t109 ≥ 274877906944 then (some true) else ((impl_Decay.f (Go.bits .or .u64 t109 x11_3)).bind fun t113 => (some (decide (t113 ≤ t110)))))) = some r := H
                    have A43 := Aside0.mk A430
                    clear A430
                    by_cases c44 : x12_3 < (Int.tmod t112 38)
                    · rw [if_pos c44] at H
                      have c44b0 : decide (x12_3 < (Int.tmod t112 38)) = true := decide_eq_true c44
                      clear c44
                      have H' := Aside0.mk H
                      clear H
                      go_wp2_with (first | ((with_reducible refine gate_callee (f := 12) rfl ?_); refine goesL_ (some 69) rfl rfl Tryd.func12 (by kernel_rfl) rfl #[.slice A1 l1.length c1, .int .i64 0] rfl (by (try simp only [List.map_toArray, List.map_cons, List.map_nil]); first | done | rfl | (simp only [List.length_drop, List.length_take]; rfl)) ?_; (with_reducible refine (laws_wPick.calls _ _ l1 0 t112 _ ?side1 ?side2 A43.out).mono ?_); (case side1 => repeat (first | exact (Kd.C_below HR1.out HB.out) | (with_reducible refine Kd.C_alloc ?_ _) | (with_reducible refine Kd.C_drewN ?_ _) | (with_reducible refine Kd.C_drew ?_))); (case side2 => exact HC1.out); rintro e w' ⟨rfl, ⟨nd, rfl⟩⟩; refine ⟨_, rfl, ?_⟩))
                      go_roundg k3
                      case measure => have := HJ2.out; have := HJ9.out; have := HK3.out; omega
                      case rel => exact ⟨(IntKind.u64.wrap (x11_3 * 2)), (wrap64 (x12_3 + 1)), (by first | rfl | (simp; done) | (simp [*]; done)), (by first | rfl | (simp; done) | (simp [*]; done)), H', ⟨by have := HJ2.out; have := HJ9.out; have := HK3.out; omega⟩, ⟨zb⟩⟩
                    · rw [if_neg c44] at H
                      have c44b0 : decide (x12_3 < (Int.tmod t112 38)) = false := decide_eq_false c44
                      clear c44
                      by_cases c45 : t109 ≥ 274877906944
                      · rw [if_pos c45] at H
                        have c45b0 : decide (274877906944 ≤ t109) = true := decide_eq_true c45
                        clear c45
                        obtain rfl := Option.some.inj H
                        go_wp2_with (first | ((with_reducible refine gate_callee (f := 12) rfl ?_); refine goesL_ (some 69) rfl rfl Tryd.func12 (by kernel_rfl) rfl #[.slice A1 l1.length c1, .int .i64 0] rfl (by (try simp only [List.map_toArray, List.map_cons, List.map_nil]); first | done | rfl | (simp only [List.length_drop, List.length_take]; rfl)) ?_; (with_reducible refine (laws_wPick.calls _ _ l1 0 t112 _ ?side1 ?side2 A43.out).mono ?_); (case side1 => repeat (first | exact (Kd.C_below HR1.out HB.out) | (with_reducible refine Kd.C_alloc ?_ _) | (with_reducible refine Kd.C_drewN ?_ _) | (with_reducible refine Kd.C_drew ?_))); (case side2 => exact HC1.out); rintro e w' ⟨rfl, ⟨nd, rfl⟩⟩; refine ⟨_, rfl, ?_⟩))
                        go_ret
                        exact ⟨by first | rfl | (simp [errW_none, errW_some] <;> rfl) | (simp [*, errW_none, errW_some] <;> rfl), zb⟩
                      · rw [if_neg c45] at H
                        have c45b0 : decide (274877906944 ≤ t109) = false := decide_eq_false c45
                        clear c45
                        replace H := Option.bind_eq_some_iff.mp H
                        obtain ⟨t113, A460, H⟩ := H
                        replace H : (some (decide (t113 ≤ t110))) = some r := H
                        have A46 := Aside0.mk A460
                        clear A460
                        obtain rfl := Option.some.inj H
                        go_wp2_with (first | ((with_reducible refine gate_callee (f := 12) rfl ?_); refine goesL_ (some 69) rfl rfl Tryd.func12 (by kernel_rfl) rfl #[.slice A1 l1.length c1, .int .i64 0] rfl (by (try simp only [List.map_toArray, List.map_cons, List.map_nil]); first | done | rfl | (simp only [List.length_drop, List.length_take]; rfl)) ?_; (with_reducible refine (laws_wPick.calls _ _ l1 0 t112 _ ?side1 ?side2 A43.out).mono ?_); (case side1 => repeat (first | exact (Kd.C_below HR1.out HB.out) | (with_reducible refine Kd.C_alloc ?_ _) | (with_reducible refine Kd.C_drewN ?_ _) | (with_reducible refine Kd.C_drew ?_))); (case side2 => exact HC1.out); rintro e w' ⟨rfl, ⟨nd, rfl⟩⟩; refine ⟨_, rfl, ?_⟩) | (go_at_call 9; (with_reducible refine (impl_Decay.calls (Go.bits .or .u64 t109 x11_3) t113 _ ?side1 A46.out).mono ?_); (case side1 => exact Gdecays.below hGdecays zb); rintro e w47 ⟨rfl, hb⟩; have n0_ := Aside0.mk (below_step zb hb); clear HB; have HB := n0_; clear n0_; (try clear hb); (try clear hb2); (try clear hk); (try clear hi)))
                        go_ret
                        exact ⟨by first | rfl | (simp [errW_none, errW_some] <;> rfl) | (simp [*, errW_none, errW_some] <;> rfl), zb⟩
              · rw [if_neg c40] at H
                exact absurd H (by simp)

end Go.Proofs.YtbcjhnhkpbcmcaaDoor.PB
