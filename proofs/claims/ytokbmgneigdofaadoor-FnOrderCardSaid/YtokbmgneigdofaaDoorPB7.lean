-- Written by gprint.py (this session's program) through the kit's print.py. Lean checks it.
import Derived.Test.YtokbmgneigdofaaDoorPB0
import Derived.Test.YtokbmgneigdofaaDoorPB1
import Derived.Test.YtokbmgneigdofaaDoorPB2
import Derived.Test.YtokbmgneigdofaaDoorPB6
namespace Go.Proofs.YtokbmgneigdofaaDoor.PB
open Go.Proofs.YtokbmgneigdofaaDoorW.Z
open Go.Proofs.YtokbmgneigdofaaDoor.Given
open Go.Proofs.YtokbmgneigdofaaDoor.PA
open Go.RowKit Go.Proofs.YtokbmgneigdofaaDoorW.PrintWords Go.Proofs.YtokbmgneigdofaaDoorW.PrintLast
set_option linter.unusedVariables false
set_option linter.unusedSimpArgs false

attribute [local go_sem high] eqA33
/-! ### laws_FnOrder: function 8 -/
mutual
def laws_FnOrder.j0 : Nat → Int → Int → Int → Bool → Option (Bool)
  | 0, _, _, _, _ => none
  | k + 1, x3, x4, x5, x84 => if x84 = true then (none) else ((impl_NextUp.f k x3 x4).bind fun t248 => ((impl_Minimum.f x3 x4 x5).bind fun bt249 => ((impl_Maximum.f x3 x4 x5).bind fun bt252 => ((spec_NextUp.f k x3 x4).bind fun t255 => (if t248 = t255 then ((spec_Minimum.f k x3 x4 x5).bind fun bt256 => (if (!(bt249.1 == bt256.1) || (!(bt249.2 == bt256.2))) = true then (laws_FnOrder.j1 k x3 x4 x5 t248 true bt249.1 bt249.2 bt252.1 bt252.2) else ((spec_Maximum.f k x3 x4 x5).bind fun bt258 => (laws_FnOrder.j1 k x3 x4 x5 t248 (!(bt252.1 == bt258.1) || (!(bt252.2 == bt258.2))) bt249.1 bt249.2 bt252.1 bt252.2)))) else (laws_FnOrder.j1 k x3 x4 x5 t248 true bt249.1 bt249.2 bt252.1 bt252.2))))))
def laws_FnOrder.j1 : Nat → Int → Int → Int → Int → Bool → Int → Int → Int → Int → Option (Bool)
  | 0, _, _, _, _, _, _, _, _, _ => none
  | k + 1, x3, x4, x5, x13, x116, x252000, x252001, x255000, x255001 => if x116 = true then (none) else ((laws_wClass.f k x3 x4).bind fun t260 => (if t260 ≥ 3 then (some true) else ((impl_Compare.f k x3 x4 x13 true).bind fun bt261 => (if bt261.1 = (-1) then (laws_FnOrder.j2 k x3 x4 x5 false x252000 x252001 x255000 x255001) else (laws_FnOrder.j2 k x3 x4 x5 (x13 != x4) x252000 x252001 x255000 x255001)))))
def laws_FnOrder.j2 : Nat → Int → Int → Int → Bool → Int → Int → Int → Int → Option (Bool)
  | 0, _, _, _, _, _, _, _, _ => none
  | k + 1, x3, x4, x5, x134, x252000, x252001, x255000, x255001 => if x134 = true then (none) else ((laws_wClass.f k x3 x5).bind fun t263 => (if t263 ≥ 3 then (some true) else ((impl_Compare.f k x3 x252000 x255000 true).bind fun bt264 => (if bt264.1 ≤ 0 then (if x252000 = x4 then (if x255000 = x5 then (some true) else (if x252000 = x5 then (some (x255000 == x4)) else (none))) else (if x252000 = x5 then (some (x255000 == x4)) else (none))) else (none)))))
end
def laws_FnOrder.f (k : Nat) (l0 : List Int) : Option (Bool) := if (l0.length : Int) > 1048576 then (some true) else ((spec_DrawCompare.f k l0).bind fun bt238 => ((spec_Compare.f k bt238.1 bt238.2.1 bt238.2.2.1 bt238.2.2.2).bind fun bt242 => ((impl_Compare.f k bt238.1 bt238.2.1 bt238.2.2.1 bt238.2.2.2).bind fun bt244 => ((impl_Compare.f k bt238.1 bt238.2.2.1 bt238.2.1 bt238.2.2.2).bind fun bt246 => (if bt244.1 = bt242.1 then (if bt244.2 = bt242.2 then (if bt246.2 = bt242.2 then (if bt242.1 = 2 then (if bt246.1 = 2 then (laws_FnOrder.j0 k bt238.1 bt238.2.1 bt238.2.2.1 false) else (laws_FnOrder.j0 k bt238.1 bt238.2.1 bt238.2.2.1 true)) else (laws_FnOrder.j0 k bt238.1 bt238.2.1 bt238.2.2.1 (bt246.1 != (wrap64 (-bt242.1))))) else (laws_FnOrder.j0 k bt238.1 bt238.2.1 bt238.2.2.1 true)) else (laws_FnOrder.j0 k bt238.1 bt238.2.1 bt238.2.2.1 true)) else (laws_FnOrder.j0 k bt238.1 bt238.2.1 bt238.2.2.1 true))))))
def laws_FnOrder.T12 : Bool × List (List Nat × List Nat) := (true, [([], []), ([], []), ([], []), ([1, 2], [1, 2]), ([0, 3], [0, 3]), ([4, 3], [4]), ([5], [5]), ([5], [5]), ([5], [5]), ([5], [5]), ([7, 8, 9, 5, 5], [5, 7, 8, 9]), ([6, 10, 5], [5, 6, 10]), ([5, 11], [5, 11]), ([12, 10], [12]), ([13], [13]), ([13], [13]), ([13], [13]), ([13], [13]), ([15, 16, 17, 13, 13], [13, 15, 16, 17]), ([14, 18, 13], [13, 14, 18]), ([13, 19], [13, 19])])
def laws_FnOrder.B12 : List Nat := [0, 0, 0, 6, 15, 31, 63, 63, 63, 63, 959, 2047, 4095, 8191, 16383, 16383, 16383, 16383, 245759, 524287, 1048575]
theorem laws_FnOrder.tab12 : rtab .any (opsOf Tryd.f8 12) = laws_FnOrder.T12 := by kernel_rfl
theorem laws_FnOrder.bits12 : waitsOk laws_FnOrder.T12.2 laws_FnOrder.B12 = true := by kernel_rfl
set_option maxHeartbeats 8000000 in
set_option maxRecDepth 100000 in
theorem laws_FnOrder.calls (k : Nat) (A0 : Option Addr) (c0 : Nat) (l0 : List Int) (r : Bool) (w : World) (hr0 : Kd.C (Kd.int .u8) w A0 l0.length l0) (hc0 : l0.length ≤ c0) (hGformats : Gformats w) (h : laws_FnOrder.f k l0 = some r) :
    Calls Tryd.prog 8 #[.slice A0 l0.length c0] w fun e w' => e = .returned (.bool r) ∧ Below w.heap.size w w' := by
  have hu33 := Tryd.underlying33
  have HR0 := Aside0.mk hr0
  have HC0 := Aside0.mk hc0
  clear hr0 hc0
  have HB := Aside0.mk (Below.refl w.heap.size w)
  have H : (if (l0.length : Int) > 1048576 then (some true) else ((spec_DrawCompare.f k l0).bind fun bt238 => ((spec_Compare.f k bt238.1 bt238.2.1 bt238.2.2.1 bt238.2.2.2).bind fun bt242 => ((impl_Compare.f k bt238.1 bt238.2.1 bt238.2.2.1 bt238.2.2.2).bind fun bt244 => ((impl_Compare.f k bt238.1 bt238.2.2.1 bt238.2.1 bt238.2.2.2).bind fun bt246 => (if bt244.1 = bt242.1 then (if bt244.2 = bt242.2 then (if bt246.2 = bt242.2 then (if bt242.1 = 2 then (if bt246.1 = 2 then (laws_FnOrder.j0 k bt238.1 bt238.2.1 bt238.2.2.1 false) else (laws_FnOrder.j0 k bt238.1 bt238.2.1 bt238.2.2.1 true)) else (laws_FnOrder.j0 k bt238.1 bt238.2.1 bt238.2.2.1 (bt246.1 != (wrap64 (-bt242.1))))) else (laws_FnOrder.j0 k bt238.1 bt238.2.1 bt238.2.2.1 true)) else (laws_FnOrder.j0 k bt238.1 bt238.2.1 bt238.2.2.1 true)) else (laws_FnOrder.j0 k bt238.1 bt238.2.1 bt238.2.2.1 true))))))) = some r := h
  clear h
  by_cases c2 : (l0.length : Int) > 1048576
  · rw [if_pos c2] at H
    have c2b0 : decide (1048576 < (l0.length : Int)) = true := decide_eq_true c2
    have c2b1 : decide (1048576 < l0.length) = true := decide_eq_true (by omega)
    clear c2
    obtain rfl := Option.some.inj H
    go_enter Tryd.func8, Tryd.ntmps8
    go_wp2
    go_ret
    exact ⟨by first | rfl | (simp [errW_none, errW_some] <;> rfl) | (simp [*, errW_none, errW_some] <;> rfl), zb⟩
  · rw [if_neg c2] at H
    have c2b0 : decide (1048576 < (l0.length : Int)) = false := decide_eq_false c2
    have c2b1 : decide (1048576 < l0.length) = false := decide_eq_false (by omega)
    clear c2
    replace H := Option.bind_eq_some_iff.mp H
    obtain ⟨⟨t238, t239, t240, t241⟩, A30, H⟩ := H
    replace H : ((spec_Compare.f k t238 t239 t240 t241).bind fun bt242 => ((impl_Compare.f k t238 t239 t240 t241).bind fun bt244 => ((impl_Compare.f k t238 t240 t239 t241).bind fun bt246 => (if bt244.1 = bt242.1 then (if bt244.2 = bt242.2 then (if bt246.2 = bt242.2 then (if bt242.1 = 2 then (if bt246.1 = 2 then (laws_FnOrder.j0 k t238 t239 t240 false) else (laws_FnOrder.j0 k t238 t239 t240 true)) else (laws_FnOrder.j0 k t238 t239 t240 (bt246.1 != (wrap64 (-bt242.1))))) else (laws_FnOrder.j0 k t238 t239 t240 true)) else (laws_FnOrder.j0 k t238 t239 t240 true)) else (laws_FnOrder.j0 k t238 t239 t240 true))))) = some r := H
    have A3 := Aside0.mk A30
    clear A30
    replace H := Option.bind_eq_some_iff.mp H
    obtain ⟨⟨t242, t243⟩, A40, H⟩ := H
    replace H : ((impl_Compare.f k t238 t239 t240 t241).bind fun bt244 => ((impl_Compare.f k t238 t240 t239 t241).bind fun bt246 => (if bt244.1 = t242 then (if bt244.2 = t243 then (if bt246.2 = t243 then (if t242 = 2 then (if bt246.1 = 2 then (laws_FnOrder.j0 k t238 t239 t240 false) else (laws_FnOrder.j0 k t238 t239 t240 true)) else (laws_FnOrder.j0 k t238 t239 t240 (bt246.1 != (wrap64 (-t242))))) else (laws_FnOrder.j0 k t238 t239 t240 true)) else (laws_FnOrder.j0 k t238 t239 t240 true)) else (laws_FnOrder.j0 k t238 t239 t240 true)))) = some r := H
    have A4 := Aside0.mk A40
    clear A40
    replace H := Option.bind_eq_some_iff.mp H
    obtain ⟨⟨t244, t245⟩, A50, H⟩ := H
    replace H : ((impl_Compare.f k t238 t240 t239 t241).bind fun bt246 => (if t244 = t242 then (if t245 = t243 then (if bt246.2 = t243 then (if t242 = 2 then (if bt246.1 = 2 then (laws_FnOrder.j0 k t238 t239 t240 false) else (laws_FnOrder.j0 k t238 t239 t240 true)) else (laws_FnOrder.j0 k t238 t239 t240 (bt246.1 != (wrap64 (-t242))))) else (laws_FnOrder.j0 k t238 t239 t240 true)) else (laws_FnOrder.j0 k t238 t239 t240 true)) else (laws_FnOrder.j0 k t238 t239 t240 true))) = some r := H
    have A5 := Aside0.mk A50
    clear A50
    replace H := Option.bind_eq_some_iff.mp H
    obtain ⟨⟨t246, t247⟩, A60, H⟩ := H
    replace H : (if t244 = t242 then (if t245 = t243 then (if t247 = t243 then (if t242 = 2 then (if t246 = 2 then (laws_FnOrder.j0 k t238 t239 t240 false) else (laws_FnOrder.j0 k t238 t239 t240 true)) else (laws_FnOrder.j0 k t238 t239 t240 (t246 != (wrap64 (-t242))))) else (laws_FnOrder.j0 k t238 t239 t240 true)) else (laws_FnOrder.j0 k t238 t239 t240 true)) else (laws_FnOrder.j0 k t238 t239 t240 true)) = some r := H
    have A6 := Aside0.mk A60
    clear A60
    have HC7 := Aside0.mk H
    clear H
    go_enter Tryd.func8, Tryd.ntmps8
    go_upto_region 7 with (first | ((with_reducible refine gate_callee (f := 21) rfl ?_); refine goesL_ (some 25) rfl rfl Tryd.func21 (by kernel_rfl) rfl #[.slice A0 l0.length c0] rfl (by (try simp only [List.map_toArray, List.map_cons, List.map_nil]); first | done | rfl | (simp only [List.length_drop, List.length_take]; rfl)) ?_; (with_reducible refine (spec_DrawCompare.calls k _ _ l0 t238 t239 t240 t241 _ ?side1 ?side2 A3.out).mono ?_); (case side1 => repeat (first | exact HR0.out | (with_reducible refine Kd.C_alloc ?_ _) | (with_reducible refine Kd.C_drewN ?_ _) | (with_reducible refine Kd.C_drew ?_))); (case side2 => exact HC0.out); rintro e w' ⟨rfl, ⟨nd, rfl⟩⟩; refine ⟨_, rfl, ?_⟩) | ((with_reducible refine gate_callee (f := 14) rfl ?_); refine goesL_ (some 35) rfl rfl Tryd.func14 (by kernel_rfl) rfl #[.int .i64 t238, .int .u64 t239, .int .u64 t240, .bool t241] rfl (by (try simp only [List.map_toArray, List.map_cons, List.map_nil]); first | done | rfl | (simp only [List.length_drop, List.length_take]; rfl)) ?_; (with_reducible refine (spec_Compare.calls k t238 t239 t240 t241 t242 t243 _ A4.out).mono ?_); rintro e w8 ⟨rfl, hb⟩; refine ⟨_, rfl, ?_⟩; have n0_ := Aside0.mk (below_step zb hb); clear HB; have HB := n0_; clear n0_; (try clear hb); (try clear hb2); (try clear hk); (try clear hi)) | ((with_reducible refine gate_callee (f := 15) rfl ?_); refine goesL_ (some 43) rfl rfl Tryd.func15 (by kernel_rfl) rfl #[.int .i64 t238, .int .u64 t239, .int .u64 t240, .bool t241] rfl (by (try simp only [List.map_toArray, List.map_cons, List.map_nil]); first | done | rfl | (simp only [List.length_drop, List.length_take]; rfl)) ?_; (with_reducible refine (impl_Compare.calls k t238 t239 t240 t241 t244 t245 _ ?side1 A5.out).mono ?_); (case side1 => exact Gformats.below hGformats zb); rintro e w9 ⟨rfl, hb⟩; refine ⟨_, rfl, ?_⟩; have n0_ := Aside0.mk (below_step zb hb); clear HB; have HB := n0_; clear n0_; (try clear hb); (try clear hb2); (try clear hk); (try clear hi)) | ((with_reducible refine gate_callee (f := 15) rfl ?_); refine goesL_ (some 51) rfl rfl Tryd.func15 (by kernel_rfl) rfl #[.int .i64 t238, .int .u64 t240, .int .u64 t239, .bool t241] rfl (by (try simp only [List.map_toArray, List.map_cons, List.map_nil]); first | done | rfl | (simp only [List.length_drop, List.length_take]; rfl)) ?_; (with_reducible refine (impl_Compare.calls k t238 t240 t239 t241 t246 t247 _ ?side1 A6.out).mono ?_); (case side1 => exact Gformats.below hGformats zb); rintro e w10 ⟨rfl, hb⟩; refine ⟨_, rfl, ?_⟩; have n0_ := Aside0.mk (below_step zb hb); clear HB; have HB := n0_; clear n0_; (try clear hb); (try clear hb2); (try clear hk); (try clear hi)))
    (try simp only [Act.put, List.setIfInBounds_toArray, List.set_cons_zero, List.set_cons_succ])
    go_cut [84] (fun v84 wc => ∃ (kq : Nat) (x84_6 : Bool), v84 = .bool x84_6 ∧ Aside0 (laws_FnOrder.j0 kq t238 t239 t240 x84_6 = some r) ∧ Aside0 (kq ≤ k) ∧ Aside0 (Below w.heap.size w wc))
    case first => as_aux_lemma =>
      have H := HC7.out
      clear HC7
      by_cases c11 : t244 = t242
      · rw [if_pos c11] at H
        have c11b0 : (t244 == t242) = true := beq_iff_eq.mpr c11
        have c11b1 : (t244 != t242) = false := bne_eq_false_iff_eq.mpr c11
        clear c11
        (first | rw [c11b0] | (simp only [i64_w, i32_w]; rw [c11b0]) | skip)
        by_cases c12 : t245 = t243
        · rw [if_pos c12] at H
          have c12b0 : (t245 == t243) = true := beq_iff_eq.mpr c12
          have c12b1 : (t245 != t243) = false := bne_eq_false_iff_eq.mpr c12
          clear c12
          by_cases c13 : t247 = t243
          · rw [if_pos c13] at H
            have c13b0 : (t247 == t243) = true := beq_iff_eq.mpr c13
            have c13b1 : (t247 != t243) = false := bne_eq_false_iff_eq.mpr c13
            clear c13
            by_cases c14 : t242 = 2
            · rw [if_pos c14] at H
              have c14b0 : (t242 == 2) = true := beq_iff_eq.mpr c14
              have c14b1 : (t242 != 2) = false := bne_eq_false_iff_eq.mpr c14
              clear c14
              by_cases c15 : t246 = 2
              · rw [if_pos c15] at H
                have c15b0 : (t246 == 2) = true := beq_iff_eq.mpr c15
                have c15b1 : (t246 != 2) = false := bne_eq_false_iff_eq.mpr c15
                clear c15
                have H' := Aside0.mk H
                clear H
                go_wp2
                go_meet
                case rel => exact ⟨_, (false), (by first | rfl | (simp; done) | (simp [*]; done)), H', ⟨by first | omega | exact Nat.le_refl _⟩, ⟨zb⟩⟩
              · rw [if_neg c15] at H
                have c15b0 : (t246 == 2) = false := beq_eq_false_iff_ne.mpr c15
                have c15b1 : (t246 != 2) = true := bne_iff_ne.mpr c15
                have H' := Aside0.mk H
                clear H
                go_wp2
                go_meet
                case rel => exact ⟨_, (true), (by first | rfl | (simp; done) | (simp [*]; done)), H', ⟨by first | omega | exact Nat.le_refl _⟩, ⟨zb⟩⟩
            · rw [if_neg c14] at H
              have c14b0 : (t242 == 2) = false := beq_eq_false_iff_ne.mpr c14
              have c14b1 : (t242 != 2) = true := bne_iff_ne.mpr c14
              have H' := Aside0.mk H
              clear H
              go_wp2
              go_meet
              case rel => exact ⟨_, ((t246 != (wrap64 (-t242)))), (by first | rfl | (simp; done) | (simp [*]; done)), H', ⟨by first | omega | exact Nat.le_refl _⟩, ⟨zb⟩⟩
          · rw [if_neg c13] at H
            have c13b0 : (t247 == t243) = false := beq_eq_false_iff_ne.mpr c13
            have c13b1 : (t247 != t243) = true := bne_iff_ne.mpr c13
            have H' := Aside0.mk H
            clear H
            go_wp2
            go_meet
            case rel => exact ⟨_, (true), (by first | rfl | (simp; done) | (simp [*]; done)), H', ⟨by first | omega | exact Nat.le_refl _⟩, ⟨zb⟩⟩
        · rw [if_neg c12] at H
          have c12b0 : (t245 == t243) = false := beq_eq_false_iff_ne.mpr c12
          have c12b1 : (t245 != t243) = true := bne_iff_ne.mpr c12
          have H' := Aside0.mk H
          clear H
          go_wp2
          go_meet
          case rel => exact ⟨_, (true), (by first | rfl | (simp; done) | (simp [*]; done)), H', ⟨by first | omega | exact Nat.le_refl _⟩, ⟨zb⟩⟩
      · rw [if_neg c11] at H
        have c11b0 : (t244 == t242) = false := beq_eq_false_iff_ne.mpr c11
        have c11b1 : (t244 != t242) = true := bne_iff_ne.mpr c11
        (first | rw [c11b0] | (simp only [i64_w, i32_w]; rw [c11b0]) | skip)
        have H' := Aside0.mk H
        clear H
        go_wp2
        go_meet
        case rel => exact ⟨_, (true), (by first | rfl | (simp; done) | (simp [*]; done)), H', ⟨by first | omega | exact Nat.le_refl _⟩, ⟨zb⟩⟩
    case rest => as_aux_lemma =>
      clear HC7
      (try clear c1); (try clear c2); (try clear c2b0); (try clear c2b1); (try clear p2); (try clear p6); (try clear c8); (try clear c11); (try clear c11b0); (try clear c11b1); (try clear c12); (try clear c12b0); (try clear c12b1); (try clear c13); (try clear c13b0); (try clear c13b1); (try clear c14); (try clear c14b0); (try clear c14b1); (try clear c15); (try clear c15b0); (try clear c15b1)
      obtain ⟨kq, x84_6, rfl, HA, HJ6, HB⟩ := hcut
      cases kq with
      | zero => exact absurd HA.out (by simp [laws_FnOrder.j0])
      | succ kj6 =>
        have H := HA.out
        clear HA
        simp only [laws_FnOrder.j0] at H
        by_cases c16 : x84_6 = true
        · subst c16
          have H1 : (none) = some r := by rw [if_pos rfl] at H; exact H
          clear H
          have H := H1
          clear H1
          exact absurd H (by simp)
        · replace c16 := Bool.eq_false_iff.mpr c16
          subst c16
          have H1 : ((impl_NextUp.f kj6 t238 t239).bind fun t248 => ((impl_Minimum.f t238 t239 t240).bind fun bt249 => ((impl_Maximum.f t238 t239 t240).bind fun bt252 => ((spec_NextUp.f kj6 t238 t239).bind fun t255 => (if t248 = t255 then ((spec_Minimum.f kj6 t238 t239 t240).bind fun bt256 => (if (!(bt249.1 == bt256.1) || (!(bt249.2 == bt256.2))) = true then (laws_FnOrder.j1 kj6 t238 t239 t240 t248 true bt249.1 bt249.2 bt252.1 bt252.2) else ((spec_Maximum.f kj6 t238 t239 t240).bind fun bt258 => (laws_FnOrder.j1 kj6 t238 t239 t240 t248 (!(bt252.1 == bt258.1) || (!(bt252.2 == bt258.2))) bt249.1 bt249.2 bt252.1 bt252.2)))) else (laws_FnOrder.j1 kj6 t238 t239 t240 t248 true bt249.1 bt249.2 bt252.1 bt252.2)))))) = some r := by rw [if_neg (show ¬ (false = true) by decide)] at H; exact H
          clear H
          have H := H1
          clear H1
          replace H := Option.bind_eq_some_iff.mp H
          obtain ⟨t248, A170, H⟩ := H
          replace H : ((impl_Minimum.f t238 t239 t240).bind fun bt249 => ((impl_Maximum.f t238 t239 t240).bind fun bt252 => ((spec_NextUp.f kj6 t238 t239).bind fun t255 => (if t248 = t255 then ((spec_Minimum.f kj6 t238 t239 t240).bind fun bt256 => (if (!(bt249.1 == bt256.1) || (!(bt249.2 == bt256.2))) = true then (laws_FnOrder.j1 kj6 t238 t239 t240 t248 true bt249.1 bt249.2 bt252.1 bt252.2) else ((spec_Maximum.f kj6 t238 t239 t240).bind fun bt258 => (laws_FnOrder.j1 kj6 t238 t239 t240 t248 (!(bt252.1 == bt258.1) || (!(bt252.2 == bt258.2))) bt249.1 bt249.2 bt252.1 bt252.2)))) else (laws_FnOrder.j1 kj6 t238 t239 t240 t248 true bt249.1 bt249.2 bt252.1 bt252.2))))) = some r := H
          have A17 := Aside0.mk A170
          clear A170
          replace H := Option.bind_eq_some_iff.mp H
          obtain ⟨⟨t249, t250⟩, A180, H⟩ := H
          replace H : ((impl_Maximum.f t238 t239 t240).bind fun bt252 => ((spec_NextUp.f kj6 t238 t239).bind fun t255 => (if t248 = t255 then ((spec_Minimum.f kj6 t238 t239 t240).bind fun bt256 => (if (!(t249 == bt256.1) || (!(t250 == bt256.2))) = true then (laws_FnOrder.j1 kj6 t238 t239 t240 t248 true t249 t250 bt252.1 bt252.2) else ((spec_Maximum.f kj6 t238 t239 t240).bind fun bt258 => (laws_FnOrder.j1 kj6 t238 t239 t240 t248 (!(bt252.1 == bt258.1) || (!(bt252.2 == bt258.2))) t249 t250 bt252.1 bt252.2)))) else (laws_FnOrder.j1 kj6 t238 t239 t240 t248 true t249 t250 bt252.1 bt252.2)))) = some r := H
          have A18 := Aside0.mk A180
          clear A180
          replace H := Option.bind_eq_some_iff.mp H
          obtain ⟨⟨t252, t253⟩, A190, H⟩ := H
          replace H : ((spec_NextUp.f kj6 t238 t239).bind fun t255 => (if t248 = t255 then ((spec_Minimum.f kj6 t238 t239 t240).bind fun bt256 => (if (!(t249 == bt256.1) || (!(t250 == bt256.2))) = true then (laws_FnOrder.j1 kj6 t238 t239 t240 t248 true t249 t250 t252 t253) else ((spec_Maximum.f kj6 t238 t239 t240).bind fun bt258 => (laws_FnOrder.j1 kj6 t238 t239 t240 t248 (!(t252 == bt258.1) || (!(t253 == bt258.2))) t249 t250 t252 t253)))) else (laws_FnOrder.j1 kj6 t238 t239 t240 t248 true t249 t250 t252 t253))) = some r := H
          have A19 := Aside0.mk A190
          clear A190
          have HC20 := Aside0.mk H
          clear H
          go_upto_region 12 with (first | ((with_reducible refine gate_callee (f := 13) rfl ?_); refine goesL_ (some 87) rfl rfl Tryd.func13 (by kernel_rfl) rfl #[.int .i64 t238, .int .u64 t239] rfl (by (try simp only [List.map_toArray, List.map_cons, List.map_nil]); first | done | rfl | (simp only [List.length_drop, List.length_take]; rfl)) ?_; (with_reducible refine (impl_NextUp.calls kj6 t238 t239 t248 _ ?side1 A17.out).mono ?_); (case side1 => exact Gformats.below hGformats zb); rintro e w21 ⟨rfl, hb⟩; refine ⟨_, rfl, ?_⟩; have n0_ := Aside0.mk (below_step zb hb); clear HB; have HB := n0_; clear n0_; (try clear hb); (try clear hb2); (try clear hk); (try clear hi)) | ((with_reducible refine gate_callee (f := 20) rfl ?_); refine goesL_ (some 91) rfl rfl Tryd.func20 (by kernel_rfl) rfl #[.int .i64 t238, .int .u64 t239, .int .u64 t240] rfl (by (try simp only [List.map_toArray, List.map_cons, List.map_nil]); first | done | rfl | (simp only [List.length_drop, List.length_take]; rfl)) ?_; (with_reducible refine (impl_Minimum.calls t238 t239 t240 t249 t250 _ ?side1 A18.out).mono ?_); (case side1 => exact Gformats.below hGformats zb); rintro e w22 ⟨rfl, hb⟩; refine ⟨_, rfl, ?_⟩; have n0_ := Aside0.mk (below_step zb hb); clear HB; have HB := n0_; clear n0_; (try clear hb); (try clear hb2); (try clear hk); (try clear hi)) | ((with_reducible refine gate_dst (N := 14) rfl ?_); refine box_event ?hg (N := 14) ?hd (cs := #[.int .u64 0, .int .i64 0]) (t := 33) ?hr ?_; (case hd => rfl); (case hg => rfl); (case hr => first | (go_simp; done) | (go_simp; rfl)); intro gb251 hg w23 hbox hb; have n0_ := Aside0.mk (below_step zb hb); have n1_ := Aside0.mk (hbox); have n2_ := zs w hg; have n3_ := zs w hg; clear HB; have HB := n0_; have BK251 := n1_; have GW251 := n2_; have GE251 := n3_; clear n0_ n1_ n2_ n3_ hb hbox hg; have hcz24_0 : w23.cell? ⟨gb251, 0, none⟩ = some (.int .u64 0) := (blk_cell BK251.out 0).trans rfl; have hcz24_1 : w23.cell? ⟨gb251, 1, none⟩ = some (.int .i64 0) := (blk_cell BK251.out 1).trans rfl; have hfz24_0 := blk_frozen BK251.out 0; have hfz24_1 := blk_frozen BK251.out 1) | ((with_reducible refine gate_callee (f := 17) rfl ?_); refine goesL_ (some 95) rfl rfl Tryd.func17 (by kernel_rfl) rfl #[.int .i64 t238, .int .u64 t239, .int .u64 t240] rfl (by (try simp only [List.map_toArray, List.map_cons, List.map_nil]); first | done | rfl | (simp only [List.length_drop, List.length_take]; rfl)) ?_; (with_reducible refine (impl_Maximum.calls t238 t239 t240 t252 t253 _ ?side1 A19.out).mono ?_); (case side1 => exact Gformats.below hGformats zb); rintro e w25 ⟨rfl, hb⟩; refine ⟨_, rfl, ?_⟩; have n0_ := Aside0.mk (blk_below (g := gb251) (o := .cells #[.int .u64 t249, .int .i64 t250] 33 (0, 0)) (by (with_reducible repeat (first | refine blk_drewN ?_ _ | refine blk_drew ?_ | refine blk_alloc ?_ _)); refine blk_put (cs := #[.int .u64 t249, .int .i64 0]) ?_ 1 _ rfl; (with_reducible repeat (first | refine blk_drewN ?_ _ | refine blk_drew ?_ | refine blk_alloc ?_ _)); refine blk_put (cs := #[.int .u64 0, .int .i64 0]) ?_ 0 _ rfl; (with_reducible repeat (first | refine blk_drewN ?_ _ | refine blk_drew ?_ | refine blk_alloc ?_ _)); exact BK251.out) hb); have n1_ := Aside0.mk (below_step zb hb); clear BK251 HB; have BK251 := n0_; have HB := n1_; clear n0_ n1_; (try clear hb); (try clear hb2); (try clear hk); (try clear hi)) | ((with_reducible refine gate_dst (N := 15) rfl ?_); refine box_event ?hg (N := 15) ?hd (cs := #[.int .u64 0, .int .i64 0]) (t := 33) ?hr ?_; (case hd => rfl); (case hg => rfl); (case hr => first | (go_simp; done) | (go_simp; rfl)); intro gb254 hg w26 hbox hb; have n0_ := za BK251 hb; have n1_ := Aside0.mk (below_step zb hb); have n2_ := Aside0.mk (hbox); have n3_ := zs w hg; have n4_ := zs w hg; have n5_ := zl BK251 hg; have n6_ := zg BK251 hg; clear BK251 HB; have BK251 := n0_; have HB := n1_; have BK254 := n2_; have GW254 := n3_; have GE254 := n4_; have NB251_254 := n5_; have NB254_251 := n6_; clear n0_ n1_ n2_ n3_ n4_ n5_ n6_ hb hbox hg; have hnb27 := NB254_251.out; have hnc27 := NB251_254.out; have hcz28_0 : w26.cell? ⟨gb254, 0, none⟩ = some (.int .u64 0) := (blk_cell BK254.out 0).trans rfl; have hcz28_1 : w26.cell? ⟨gb254, 1, none⟩ = some (.int .i64 0) := (blk_cell BK254.out 1).trans rfl; have hfz28_0 := blk_frozen BK254.out 0; have hfz28_1 := blk_frozen BK254.out 1))
          (try simp only [Act.put, List.setIfInBounds_toArray, List.set_cons_zero, List.set_cons_succ])
          go_cut [116] (fun v116 wc => ∃ (kq : Nat) (x116_19 : Bool), v116 = .bool x116_19 ∧ Aside0 (laws_FnOrder.j1 kq t238 t239 t240 t248 x116_19 t249 t250 t252 t253 = some r) ∧ Aside0 (kq ≤ kj6) ∧ Aside0 (wc.heap[gb251]? = some (.cells #[.int .u64 t249, .int .i64 t250] 33 (0, 0))) ∧ Aside0 (wc.heap[gb254]? = some (.cells #[.int .u64 t252, .int .i64 t253] 33 (0, 0))) ∧ Aside0 (Below w.heap.size w wc))
          case first => as_aux_lemma =>
            have H := HC20.out
            clear HC20
            replace H := Option.bind_eq_some_iff.mp H
            obtain ⟨t255, A290, H⟩ := H
            replace H : (if t248 = t255 then ((spec_Minimum.f kj6 t238 t239 t240).bind fun bt256 => (if (!(t249 == bt256.1) || (!(t250 == bt256.2))) = true then (laws_FnOrder.j1 kj6 t238 t239 t240 t248 true t249 t250 t252 t253) else ((spec_Maximum.f kj6 t238 t239 t240).bind fun bt258 => (laws_FnOrder.j1 kj6 t238 t239 t240 t248 (!(t252 == bt258.1) || (!(t253 == bt258.2))) t249 t250 t252 t253)))) else (laws_FnOrder.j1 kj6 t238 t239 t240 t248 true t249 t250 t252 t253)) = some r := H
            have A29 := Aside0.mk A290
            clear A290
            by_cases c30 : t248 = t255
            · rw [if_pos c30] at H
              have c30b0 : (t248 == t255) = true := beq_iff_eq.mpr c30
              have c30b1 : (t248 != t255) = false := bne_eq_false_iff_eq.mpr c30
              clear c30
              (first | rw [c30b0] | (simp only [i64_w, i32_w]; rw [c30b0]) | skip)
              replace H := Option.bind_eq_some_iff.mp H
              obtain ⟨⟨t256, t257⟩, A310, H⟩ := H
              replace H : (if (!(t249 == t256) || (!(t250 == t257))) = true then (laws_FnOrder.j1 kj6 t238 t239 t240 t248 true t249 t250 t252 t253) else ((spec_Maximum.f kj6 t238 t239 t240).bind fun bt258 => (laws_FnOrder.j1 kj6 t238 t239 t240 t248 (!(t252 == bt258.1) || (!(t253 == bt258.2))) t249 t250 t252 t253))) = some r := H
              have A31 := Aside0.mk A310
              clear A310
              by_cases c32 : (!(t249 == t256) || (!(t250 == t257))) = true
              · rw [if_pos c32] at H
                have c32b0 : (!(t249 == t256) || (!(t250 == t257))) = true := c32
                clear c32
                have H' := Aside0.mk H
                clear H
                try go_wp2
                have n0_ : Aside0 (((w26.setCell ⟨gb254, 0, none⟩ (.int .u64 t252)).setCell ⟨gb254, 1, none⟩ (.int .i64 t253)).heap[gb251]? = some (.cells #[.int .u64 t249, .int .i64 t250] 33 (0, 0))) := ⟨by (with_reducible repeat (first | refine blk_drewN ?_ _ | refine blk_drew ?_ | refine blk_alloc ?_ _)); refine blk_far ?_ NB251_254.out _; (with_reducible repeat (first | refine blk_drewN ?_ _ | refine blk_drew ?_ | refine blk_alloc ?_ _)); refine blk_far ?_ NB251_254.out _; (with_reducible repeat (first | refine blk_drewN ?_ _ | refine blk_drew ?_ | refine blk_alloc ?_ _)); exact BK251.out⟩
                have n1_ : Aside0 (((w26.setCell ⟨gb254, 0, none⟩ (.int .u64 t252)).setCell ⟨gb254, 1, none⟩ (.int .i64 t253)).heap[gb254]? = some (.cells #[.int .u64 t252, .int .i64 t253] 33 (0, 0))) := ⟨by (with_reducible repeat (first | refine blk_drewN ?_ _ | refine blk_drew ?_ | refine blk_alloc ?_ _)); refine blk_put (cs := #[.int .u64 t252, .int .i64 0]) ?_ 1 _ rfl; (with_reducible repeat (first | refine blk_drewN ?_ _ | refine blk_drew ?_ | refine blk_alloc ?_ _)); refine blk_put (cs := #[.int .u64 0, .int .i64 0]) ?_ 0 _ rfl; (with_reducible repeat (first | refine blk_drewN ?_ _ | refine blk_drew ?_ | refine blk_alloc ?_ _)); exact BK254.out⟩
                have n2_ : Aside0 (Below w.heap.size w ((w26.setCell ⟨gb254, 0, none⟩ (.int .u64 t252)).setCell ⟨gb254, 1, none⟩ (.int .i64 t253))) := ⟨zb⟩
                (try clear BK251)
                (try clear BK254)
                (try clear HB)
                first
                  | ((try simp only [set_drewN, drewN_two]); rw [drewN_self ((w26.setCell ⟨gb254, 0, none⟩ (.int .u64 t252)).setCell ⟨gb254, 1, none⟩ (.int .i64 t253))]; generalize hq_ : World.drewN ((w26.setCell ⟨gb254, 0, none⟩ (.int .u64 t252)).setCell ⟨gb254, 1, none⟩ (.int .i64 t253)) _ = w33 at ⊢; (first | (have n0_ := Aside0.mk (blk_at hq_ n0_.out)) | (have n0_ := Aside0.mk (cell_at hq_ n0_.out)) | (have n0_ := Aside0.mk (below_at hq_ n0_.out))); (first | (have n1_ := Aside0.mk (blk_at hq_ n1_.out)) | (have n1_ := Aside0.mk (cell_at hq_ n1_.out)) | (have n1_ := Aside0.mk (below_at hq_ n1_.out))); (first | (have n2_ := Aside0.mk (blk_at hq_ n2_.out)) | (have n2_ := Aside0.mk (cell_at hq_ n2_.out)) | (have n2_ := Aside0.mk (below_at hq_ n2_.out))); clear hq_)
                  | generalize ((w26.setCell ⟨gb254, 0, none⟩ (.int .u64 t252)).setCell ⟨gb254, 1, none⟩ (.int .i64 t253)) = w33 at n0_ n1_ n2_  ⊢
                have BK251 := n0_
                have BK254 := n1_
                have HB := n2_
                clear n0_ n1_ n2_
                have n0_ := Aside0.mk (blk_drew BK251.out)
                have n1_ := Aside0.mk (blk_drew BK254.out)
                have n2_ := Aside0.mk (below_drew1 HB.out)
                clear BK251
                clear BK254
                clear HB
                have BK251 := n0_
                have BK254 := n1_
                have HB := n2_
                clear n0_ n1_ n2_
                refine start_ (n := 21) (S := fun w' => w'.cell? ⟨gb251, 0, none⟩ = some (.int .u64 t249) ∧ w'.cell? ⟨gb251, 1, none⟩ = some (.int .i64 t250)) (ds := []) #[false, false, false, false, false, false, false, false, false, false, false, false, false, false, false, false, false, false, false, false, false] (by kernel_rfl) rfl rfl ⟨(blk_cell BK251.out 0).trans rfl, (blk_cell BK251.out 1).trans rfl⟩ (fun hHeld => ?_); refine with_tabW laws_FnOrder.tab12 laws_FnOrder.bits12 (fun HT_ HW_ => ?_)
                generalize w33.drew = w34 at BK251 BK254 HB hHeld ⊢
                refine pure_ (i := 0) (N := some 96) (v := ?_) (a' := ?_) #[true, false, false, false, false, false, false, false, false, false, false, false, false, false, false, false, false, false, false, false, false] rfl rfl (any_of HT_.out (by kernel_rfl)) (fun _ _ _ h => h) (Or.inl ⟨by rfl, ?_⟩) ?_ ?_
                rotate_left
                · intro w'
                  go_simp
                  with_reducible rfl
                rotate_left
                · simp only [Act.put, List.setIfInBounds_toArray, List.set_cons_zero, List.set_cons_succ, i64_w, i32_w]
                  rfl
                refine pure_ (i := 1) (N := some 97) (v := ?_) (a' := ?_) #[true, true, false, false, false, false, false, false, false, false, false, false, false, false, false, false, false, false, false, false, false] rfl rfl (any_of HT_.out (by kernel_rfl)) (fun _ _ _ h => h) (Or.inl ⟨by rfl, ?_⟩) ?_ ?_
                rotate_left
                · intro w'
                  go_simp
                  with_reducible rfl
                rotate_left
                · simp only [Act.put, List.setIfInBounds_toArray, List.set_cons_zero, List.set_cons_succ, i64_w, i32_w]
                  rfl
                refine pure_ (i := 2) (N := some 98) (v := ?_) (a' := ?_) #[true, true, true, false, false, false, false, false, false, false, false, false, false, false, false, false, false, false, false, false, false] rfl rfl (any_of HT_.out (by kernel_rfl)) (fun _ _ _ h => h) (Or.inl ⟨by rfl, ?_⟩) ?_ ?_
                rotate_left
                · intro w'
                  go_simp
                  with_reducible rfl
                rotate_left
                · simp only [Act.put, List.setIfInBounds_toArray, List.set_cons_zero, List.set_cons_succ, i64_w, i32_w]
                  rfl
                refine one_ (i := 3) (N := some 99) #[true, true, true, true, false, false, false, false, false, false, false, false, false, false, false, false, false, false, false, false, false] rfl rfl (one_of HT_.out (by kernel_rfl)) (by decide) (fun K hK => ?_)
                refine goes_ Tryd.func12 (by kernel_rfl) rfl #[.int .i64 t238, .int .u64 t239] (by rfl) rfl rfl (by (try simp only [List.map_toArray, List.map_cons, List.map_nil]); first | done | rfl | (simp only [List.length_drop, List.length_take]; rfl)) ?_
                with_reducible refine (spec_NextUp.calls kj6 t238 t239 t255 _ A29.out).mono ?_
                rintro e w35 ⟨rfl, hb⟩
                refine ⟨_, rfl, ?_⟩
                have n0_ := za BK251 hb
                have n1_ := za BK254 hb
                have n2_ := Aside0.mk (below_step zb hb)
                clear BK251
                clear BK254
                clear HB
                have BK251 := n0_
                have BK254 := n1_
                have HB := n2_
                clear n0_ n1_ n2_
                (try clear hb)
                (try clear hb2)
                (try clear hk)
                (try clear hi)
                refine hK.out _ _ ⟨(blk_cell BK251.out 0).trans rfl, (blk_cell BK251.out 1).trans rfl⟩ (fun hHeld => ?_)
                clear hK K
                refine norm_ (a' := ?_) ?_ ?_
                rotate_left
                · show Act.put _ (some 99) _ = _
                  simp only [Act.put, List.setIfInBounds_toArray, List.set_cons_zero, List.set_cons_succ, i64_w, i32_w]
                  rfl
                refine pure_ (i := 4) (N := some 100) (v := ?_) (a' := ?_) #[true, true, true, true, true, false, false, false, false, false, false, false, false, false, false, false, false, false, false, false, false] rfl rfl (any_of HT_.out (by kernel_rfl)) (fun _ _ _ h => h) (Or.inl ⟨by rfl, ?_⟩) ?_ ?_
                rotate_left
                · intro w'
                  go_simp
                  with_reducible rfl
                rotate_left
                · simp only [Act.put, List.setIfInBounds_toArray, List.set_cons_zero, List.set_cons_succ, i64_w, i32_w]
                  rfl
                refine pure_ (i := 5) (N := some 101) (v := ?_) (a' := ?_) #[true, true, true, true, true, true, false, false, false, false, false, false, false, false, false, false, false, false, false, false, false] rfl rfl (any_of HT_.out (by kernel_rfl)) (fun _ _ _ h => h) (Or.inl ⟨by rfl, ?_⟩) ?_ ?_
                rotate_left
                · intro w'
                  go_simp
                  with_reducible rfl
                rotate_left
                · simp only [Act.put, List.setIfInBounds_toArray, List.set_cons_zero, List.set_cons_succ, i64_w, i32_w]
                  rfl
                refine pure_ (i := 7) (N := some 103) (v := ?_) (a' := ?_) #[true, true, true, true, true, true, false, true, false, false, false, false, false, false, false, false, false, false, false, false, false] rfl rfl (any_of HT_.out (by kernel_rfl)) (fun _ _ _ h => h) (Or.inl ⟨by rfl, ?_⟩) ?_ ?_
                rotate_left
                · intro w'
                  go_simp
                  with_reducible rfl
                rotate_left
                · simp only [Act.put, List.setIfInBounds_toArray, List.set_cons_zero, List.set_cons_succ, i64_w, i32_w]
                  rfl
                refine pure_ (i := 8) (N := some 104) (v := ?_) (a' := ?_) #[true, true, true, true, true, true, false, true, true, false, false, false, false, false, false, false, false, false, false, false, false] rfl rfl (any_of HT_.out (by kernel_rfl)) (fun _ _ _ h => h) (Or.inl ⟨by rfl, ?_⟩) ?_ ?_
                rotate_left
                · intro w'
                  go_simp
                  with_reducible rfl
                rotate_left
                · simp only [Act.put, List.setIfInBounds_toArray, List.set_cons_zero, List.set_cons_succ, i64_w, i32_w]
                  rfl
                refine pure_ (i := 9) (N := some 105) (v := ?_) (a' := ?_) #[true, true, true, true, true, true, false, true, true, true, false, false, false, false, false, false, false, false, false, false, false] rfl rfl (any_of HT_.out (by kernel_rfl)) (fun _ _ _ h => h) (Or.inl ⟨by rfl, ?_⟩) ?_ ?_
                rotate_left
                · intro w'
                  go_simp
                  with_reducible rfl
                rotate_left
                · simp only [Act.put, List.setIfInBounds_toArray, List.set_cons_zero, List.set_cons_succ, i64_w, i32_w]
                  rfl
                refine take_ (i := 6) (N := some 102) (v := ?_) (a' := ?_) #[true, true, true, true, true, true, true, true, true, true, false, false, false, false, false, false, false, false, false, false, false] rfl rfl (take_ofW HT_.out HW_.out (by kernel_rfl)) (fun _ _ _ h => h) (Or.inl ⟨by rfl, ?_⟩) hHeld ?_ ?_
                rotate_left
                · rintro w' ⟨s0, s1⟩
                  go_simp
                  with_reducible rfl
                rotate_left
                · simp only [Act.put, List.setIfInBounds_toArray, List.set_cons_zero, List.set_cons_succ, i64_w, i32_w]
                  rfl
                refine one_ (i := 10) (N := some 106) #[true, true, true, true, true, true, true, true, true, true, true, false, false, false, false, false, false, false, false, false, false] rfl rfl (one_of HT_.out (by kernel_rfl)) (by decide) (fun K hK => ?_)
                refine goes_ Tryd.func19 (by kernel_rfl) rfl #[.int .i64 t238, .int .u64 t239, .int .u64 t240] (by rfl) rfl rfl (by (try simp only [List.map_toArray, List.map_cons, List.map_nil]); first | done | rfl | (simp only [List.length_drop, List.length_take]; rfl)) ?_
                with_reducible refine (spec_Minimum.calls kj6 t238 t239 t240 t256 t257 _ A31.out).mono ?_
                rintro e w36 ⟨rfl, hb⟩
                refine ⟨_, rfl, ?_⟩
                have n0_ := za BK251 hb
                have n1_ := za BK254 hb
                have n2_ := Aside0.mk (below_step zb hb)
                clear BK251
                clear BK254
                clear HB
                have BK251 := n0_
                have BK254 := n1_
                have HB := n2_
                clear n0_ n1_ n2_
                (try clear hb)
                (try clear hb2)
                (try clear hk)
                (try clear hi)
                refine hK.out _ _ ⟨(blk_cell BK251.out 0).trans rfl, (blk_cell BK251.out 1).trans rfl⟩ (fun hHeld => ?_)
                clear hK K
                refine norm_ (a' := ?_) ?_ ?_
                rotate_left
                · show Act.put _ (some 106) _ = _
                  simp only [Act.put, List.setIfInBounds_toArray, List.set_cons_zero, List.set_cons_succ, i64_w, i32_w]
                  rfl
                refine pure_ (i := 11) (N := some 107) (v := ?_) (a' := ?_) #[true, true, true, true, true, true, true, true, true, true, true, true, false, false, false, false, false, false, false, false, false] rfl rfl (any_of HT_.out (by kernel_rfl)) (fun _ _ _ h => h) (Or.inl ⟨by rfl, ?_⟩) ?_ ?_
                rotate_left
                · intro w'
                  go_simp
                  with_reducible rfl
                rotate_left
                · simp only [Act.put, List.setIfInBounds_toArray, List.set_cons_zero, List.set_cons_succ, i64_w, i32_w]
                  rfl
                refine pure_ (i := 12) (N := some 108) (v := ?_) (a' := ?_) #[true, true, true, true, true, true, true, true, true, true, true, true, true, false, false, false, false, false, false, false, false] rfl rfl (any_of HT_.out (by kernel_rfl)) (fun _ _ _ h => h) (Or.inl ⟨by rfl, ?_⟩) ?_ ?_
                rotate_left
                · intro w'
                  go_simp
                  with_reducible rfl
                rotate_left
                · simp only [Act.put, List.setIfInBounds_toArray, List.set_cons_zero, List.set_cons_succ, i64_w, i32_w]
                  rfl
                refine pure_ (i := 13) (N := some 109) (v := ?_) (a' := ?_) #[true, true, true, true, true, true, true, true, true, true, true, true, true, true, false, false, false, false, false, false, false] rfl rfl (any_of HT_.out (by kernel_rfl)) (fun _ _ _ h => h) (Or.inl ⟨by rfl, ?_⟩) ?_ ?_
                rotate_left
                · intro w'
                  go_simp
                  with_reducible rfl
                rotate_left
                · simp only [Act.put, List.setIfInBounds_toArray, List.set_cons_zero, List.set_cons_succ, i64_w, i32_w]
                  rfl
                refine pure_ (i := 14) (N := some 110) (v := undef) (a' := ?_) #[true, true, true, true, true, true, true, true, true, true, true, true, true, true, true, false, false, false, false, false, false] rfl rfl (any_of HT_.out (by kernel_rfl)) (fun _ _ _ h => h) (Or.inr ⟨by rfl, rfl⟩) ?_ ?_
                rotate_left
                · simp only [Act.put, List.setIfInBounds_toArray, List.set_cons_zero, List.set_cons_succ, i64_w, i32_w]
                  rfl
                refine pure_ (i := 15) (N := some 111) (v := undef) (a' := ?_) #[true, true, true, true, true, true, true, true, true, true, true, true, true, true, true, true, false, false, false, false, false] rfl rfl (any_of HT_.out (by kernel_rfl)) (fun _ _ _ h => h) (Or.inr ⟨by rfl, rfl⟩) ?_ ?_
                rotate_left
                · simp only [Act.put, List.setIfInBounds_toArray, List.set_cons_zero, List.set_cons_succ, i64_w, i32_w]
                  rfl
                refine pure_ (i := 16) (N := some 112) (v := undef) (a' := ?_) #[true, true, true, true, true, true, true, true, true, true, true, true, true, true, true, true, true, false, false, false, false] rfl rfl (any_of HT_.out (by kernel_rfl)) (fun _ _ _ h => h) (Or.inr ⟨by rfl, rfl⟩) ?_ ?_
                rotate_left
                · simp only [Act.put, List.setIfInBounds_toArray, List.set_cons_zero, List.set_cons_succ, i64_w, i32_w]
                  rfl
                refine pure_ (i := 17) (N := some 113) (v := undef) (a' := ?_) #[true, true, true, true, true, true, true, true, true, true, true, true, true, true, true, true, true, true, false, false, false] rfl rfl (any_of HT_.out (by kernel_rfl)) (fun _ _ _ h => h) (Or.inr ⟨by rfl, rfl⟩) ?_ ?_
                rotate_left
                · simp only [Act.put, List.setIfInBounds_toArray, List.set_cons_zero, List.set_cons_succ, i64_w, i32_w]
                  rfl
                refine pure_ (i := 18) (N := some 114) (v := undef) (a' := ?_) #[true, true, true, true, true, true, true, true, true, true, true, true, true, true, true, true, true, true, true, false, false] rfl rfl (any_of HT_.out (by kernel_rfl)) (fun _ _ _ h => h) (Or.inr ⟨by rfl, rfl⟩) ?_ ?_
                rotate_left
                · simp only [Act.put, List.setIfInBounds_toArray, List.set_cons_zero, List.set_cons_succ, i64_w, i32_w]
                  rfl
                refine pure_ (i := 19) (N := some 115) (v := undef) (a' := ?_) #[true, true, true, true, true, true, true, true, true, true, true, true, true, true, true, true, true, true, true, true, false] rfl rfl (any_of HT_.out (by kernel_rfl)) (fun _ _ _ h => h) (Or.inr ⟨by rfl, rfl⟩) ?_ ?_
                rotate_left
                · simp only [Act.put, List.setIfInBounds_toArray, List.set_cons_zero, List.set_cons_succ, i64_w, i32_w]
                  rfl
                refine pure_ (i := 20) (N := some 116) (v := ?_) (a' := ?_) #[true, true, true, true, true, true, true, true, true, true, true, true, true, true, true, true, true, true, true, true, true] rfl rfl (any_of HT_.out (by kernel_rfl)) (fun _ _ _ h => h) (Or.inl ⟨by rfl, ?_⟩) ?_ ?_
                rotate_left
                · intro w'
                  go_simp
                  with_reducible rfl
                rotate_left
                · simp only [Act.put, List.setIfInBounds_toArray, List.set_cons_zero, List.set_cons_succ, i64_w, i32_w]
                  rfl
                refine done_ (done_of HT_.out (by kernel_rfl)) ?_
                try go_wp2
                go_meet
                case rel => exact ⟨_, (true), (by first | rfl | (simp; done) | (simp [*]; done)), H', ⟨by have := HJ6.out; first | omega | exact Nat.le_refl _⟩, ⟨zk⟩, ⟨zk⟩, ⟨zb⟩⟩
              · rw [if_neg c32] at H
                have c32b0 : (!(t249 == t256) || (!(t250 == t257))) = false := by simpa using c32
                clear c32
                replace H := Option.bind_eq_some_iff.mp H
                obtain ⟨⟨t258, t259⟩, A370, H⟩ := H
                replace H : (laws_FnOrder.j1 kj6 t238 t239 t240 t248 (!(t252 == t258) || (!(t253 == t259))) t249 t250 t252 t253) = some r := H
                have A37 := Aside0.mk A370
                clear A370
                have H' := Aside0.mk H
                clear H
                try go_wp2
                have n0_ : Aside0 (((w26.setCell ⟨gb254, 0, none⟩ (.int .u64 t252)).setCell ⟨gb254, 1, none⟩ (.int .i64 t253)).heap[gb251]? = some (.cells #[.int .u64 t249, .int .i64 t250] 33 (0, 0))) := ⟨by (with_reducible repeat (first | refine blk_drewN ?_ _ | refine blk_drew ?_ | refine blk_alloc ?_ _)); refine blk_far ?_ NB251_254.out _; (with_reducible repeat (first | refine blk_drewN ?_ _ | refine blk_drew ?_ | refine blk_alloc ?_ _)); refine blk_far ?_ NB251_254.out _; (with_reducible repeat (first | refine blk_drewN ?_ _ | refine blk_drew ?_ | refine blk_alloc ?_ _)); exact BK251.out⟩
                have n1_ : Aside0 (((w26.setCell ⟨gb254, 0, none⟩ (.int .u64 t252)).setCell ⟨gb254, 1, none⟩ (.int .i64 t253)).heap[gb254]? = some (.cells #[.int .u64 t252, .int .i64 t253] 33 (0, 0))) := ⟨by (with_reducible repeat (first | refine blk_drewN ?_ _ | refine blk_drew ?_ | refine blk_alloc ?_ _)); refine blk_put (cs := #[.int .u64 t252, .int .i64 0]) ?_ 1 _ rfl; (with_reducible repeat (first | refine blk_drewN ?_ _ | refine blk_drew ?_ | refine blk_alloc ?_ _)); refine blk_put (cs := #[.int .u64 0, .int .i64 0]) ?_ 0 _ rfl; (with_reducible repeat (first | refine blk_drewN ?_ _ | refine blk_drew ?_ | refine blk_alloc ?_ _)); exact BK254.out⟩
                have n2_ : Aside0 (Below w.heap.size w ((w26.setCell ⟨gb254, 0, none⟩ (.int .u64 t252)).setCell ⟨gb254, 1, none⟩ (.int .i64 t253))) := ⟨zb⟩
                (try clear BK251)
                (try clear BK254)
                (try clear HB)
                first
                  | ((try simp only [set_drewN, drewN_two]); rw [drewN_self ((w26.setCell ⟨gb254, 0, none⟩ (.int .u64 t252)).setCell ⟨gb254, 1, none⟩ (.int .i64 t253))]; generalize hq_ : World.drewN ((w26.setCell ⟨gb254, 0, none⟩ (.int .u64 t252)).setCell ⟨gb254, 1, none⟩ (.int .i64 t253)) _ = w38 at ⊢; (first | (have n0_ := Aside0.mk (blk_at hq_ n0_.out)) | (have n0_ := Aside0.mk (cell_at hq_ n0_.out)) | (have n0_ := Aside0.mk (below_at hq_ n0_.out))); (first | (have n1_ := Aside0.mk (blk_at hq_ n1_.out)) | (have n1_ := Aside0.mk (cell_at hq_ n1_.out)) | (have n1_ := Aside0.mk (below_at hq_ n1_.out))); (first | (have n2_ := Aside0.mk (blk_at hq_ n2_.out)) | (have n2_ := Aside0.mk (cell_at hq_ n2_.out)) | (have n2_ := Aside0.mk (below_at hq_ n2_.out))); clear hq_)
                  | generalize ((w26.setCell ⟨gb254, 0, none⟩ (.int .u64 t252)).setCell ⟨gb254, 1, none⟩ (.int .i64 t253)) = w38 at n0_ n1_ n2_  ⊢
                have BK251 := n0_
                have BK254 := n1_
                have HB := n2_
                clear n0_ n1_ n2_
                have n0_ := Aside0.mk (blk_drew BK251.out)
                have n1_ := Aside0.mk (blk_drew BK254.out)
                have n2_ := Aside0.mk (below_drew1 HB.out)
                clear BK251
                clear BK254
                clear HB
                have BK251 := n0_
                have BK254 := n1_
                have HB := n2_
                clear n0_ n1_ n2_
                refine start_ (n := 21) (S := fun w' => w'.cell? ⟨gb251, 0, none⟩ = some (.int .u64 t249) ∧ w'.cell? ⟨gb251, 1, none⟩ = some (.int .i64 t250) ∧ w'.cell? ⟨gb254, 0, none⟩ = some (.int .u64 t252) ∧ w'.cell? ⟨gb254, 1, none⟩ = some (.int .i64 t253)) (ds := []) #[false, false, false, false, false, false, false, false, false, false, false, false, false, false, false, false, false, false, false, false, false] (by kernel_rfl) rfl rfl ⟨(blk_cell BK251.out 0).trans rfl, (blk_cell BK251.out 1).trans rfl, (blk_cell BK254.out 0).trans rfl, (blk_cell BK254.out 1).trans rfl⟩ (fun hHeld => ?_); refine with_tabW laws_FnOrder.tab12 laws_FnOrder.bits12 (fun HT_ HW_ => ?_)
                generalize w38.drew = w39 at BK251 BK254 HB hHeld ⊢
                refine pure_ (i := 0) (N := some 96) (v := ?_) (a' := ?_) #[true, false, false, false, false, false, false, false, false, false, false, false, false, false, false, false, false, false, false, false, false] rfl rfl (any_of HT_.out (by kernel_rfl)) (fun _ _ _ h => h) (Or.inl ⟨by rfl, ?_⟩) ?_ ?_
                rotate_left
                · intro w'
                  go_simp
                  with_reducible rfl
                rotate_left
                · simp only [Act.put, List.setIfInBounds_toArray, List.set_cons_zero, List.set_cons_succ, i64_w, i32_w]
                  rfl
                refine pure_ (i := 1) (N := some 97) (v := ?_) (a' := ?_) #[true, true, false, false, false, false, false, false, false, false, false, false, false, false, false, false, false, false, false, false, false] rfl rfl (any_of HT_.out (by kernel_rfl)) (fun _ _ _ h => h) (Or.inl ⟨by rfl, ?_⟩) ?_ ?_
                rotate_left
                · intro w'
                  go_simp
                  with_reducible rfl
                rotate_left
                · simp only [Act.put, List.setIfInBounds_toArray, List.set_cons_zero, List.set_cons_succ, i64_w, i32_w]
                  rfl
                refine pure_ (i := 2) (N := some 98) (v := ?_) (a' := ?_) #[true, true, true, false, false, false, false, false, false, false, false, false, false, false, false, false, false, false, false, false, false] rfl rfl (any_of HT_.out (by kernel_rfl)) (fun _ _ _ h => h) (Or.inl ⟨by rfl, ?_⟩) ?_ ?_
                rotate_left
                · intro w'
                  go_simp
                  with_reducible rfl
                rotate_left
                · simp only [Act.put, List.setIfInBounds_toArray, List.set_cons_zero, List.set_cons_succ, i64_w, i32_w]
                  rfl
                refine one_ (i := 3) (N := some 99) #[true, true, true, true, false, false, false, false, false, false, false, false, false, false, false, false, false, false, false, false, false] rfl rfl (one_of HT_.out (by kernel_rfl)) (by decide) (fun K hK => ?_)
                refine goes_ Tryd.func12 (by kernel_rfl) rfl #[.int .i64 t238, .int .u64 t239] (by rfl) rfl rfl (by (try simp only [List.map_toArray, List.map_cons, List.map_nil]); first | done | rfl | (simp only [List.length_drop, List.length_take]; rfl)) ?_
                with_reducible refine (spec_NextUp.calls kj6 t238 t239 t255 _ A29.out).mono ?_
                rintro e w40 ⟨rfl, hb⟩
                refine ⟨_, rfl, ?_⟩
                have n0_ := za BK251 hb
                have n1_ := za BK254 hb
                have n2_ := Aside0.mk (below_step zb hb)
                clear BK251
                clear BK254
                clear HB
                have BK251 := n0_
                have BK254 := n1_
                have HB := n2_
                clear n0_ n1_ n2_
                (try clear hb)
                (try clear hb2)
                (try clear hk)
                (try clear hi)
                refine hK.out _ _ ⟨(blk_cell BK251.out 0).trans rfl, (blk_cell BK251.out 1).trans rfl, (blk_cell BK254.out 0).trans rfl, (blk_cell BK254.out 1).trans rfl⟩ (fun hHeld => ?_)
                clear hK K
                refine norm_ (a' := ?_) ?_ ?_
                rotate_left
                · show Act.put _ (some 99) _ = _
                  simp only [Act.put, List.setIfInBounds_toArray, List.set_cons_zero, List.set_cons_succ, i64_w, i32_w]
                  rfl
                refine pure_ (i := 4) (N := some 100) (v := ?_) (a' := ?_) #[true, true, true, true, true, false, false, false, false, false, false, false, false, false, false, false, false, false, false, false, false] rfl rfl (any_of HT_.out (by kernel_rfl)) (fun _ _ _ h => h) (Or.inl ⟨by rfl, ?_⟩) ?_ ?_
                rotate_left
                · intro w'
                  go_simp
                  with_reducible rfl
                rotate_left
                · simp only [Act.put, List.setIfInBounds_toArray, List.set_cons_zero, List.set_cons_succ, i64_w, i32_w]
                  rfl
                refine pure_ (i := 5) (N := some 101) (v := ?_) (a' := ?_) #[true, true, true, true, true, true, false, false, false, false, false, false, false, false, false, false, false, false, false, false, false] rfl rfl (any_of HT_.out (by kernel_rfl)) (fun _ _ _ h => h) (Or.inl ⟨by rfl, ?_⟩) ?_ ?_
                rotate_left
                · intro w'
                  go_simp
                  with_reducible rfl
                rotate_left
                · simp only [Act.put, List.setIfInBounds_toArray, List.set_cons_zero, List.set_cons_succ, i64_w, i32_w]
                  rfl
                refine pure_ (i := 7) (N := some 103) (v := ?_) (a' := ?_) #[true, true, true, true, true, true, false, true, false, false, false, false, false, false, false, false, false, false, false, false, false] rfl rfl (any_of HT_.out (by kernel_rfl)) (fun _ _ _ h => h) (Or.inl ⟨by rfl, ?_⟩) ?_ ?_
                rotate_left
                · intro w'
                  go_simp
                  with_reducible rfl
                rotate_left
                · simp only [Act.put, List.setIfInBounds_toArray, List.set_cons_zero, List.set_cons_succ, i64_w, i32_w]
                  rfl
                refine pure_ (i := 8) (N := some 104) (v := ?_) (a' := ?_) #[true, true, true, true, true, true, false, true, true, false, false, false, false, false, false, false, false, false, false, false, false] rfl rfl (any_of HT_.out (by kernel_rfl)) (fun _ _ _ h => h) (Or.inl ⟨by rfl, ?_⟩) ?_ ?_
                rotate_left
                · intro w'
                  go_simp
                  with_reducible rfl
                rotate_left
                · simp only [Act.put, List.setIfInBounds_toArray, List.set_cons_zero, List.set_cons_succ, i64_w, i32_w]
                  rfl
                refine pure_ (i := 9) (N := some 105) (v := ?_) (a' := ?_) #[true, true, true, true, true, true, false, true, true, true, false, false, false, false, false, false, false, false, false, false, false] rfl rfl (any_of HT_.out (by kernel_rfl)) (fun _ _ _ h => h) (Or.inl ⟨by rfl, ?_⟩) ?_ ?_
                rotate_left
                · intro w'
                  go_simp
                  with_reducible rfl
                rotate_left
                · simp only [Act.put, List.setIfInBounds_toArray, List.set_cons_zero, List.set_cons_succ, i64_w, i32_w]
                  rfl
                refine take_ (i := 6) (N := some 102) (v := ?_) (a' := ?_) #[true, true, true, true, true, true, true, true, true, true, false, false, false, false, false, false, false, false, false, false, false] rfl rfl (take_ofW HT_.out HW_.out (by kernel_rfl)) (fun _ _ _ h => h) (Or.inl ⟨by rfl, ?_⟩) hHeld ?_ ?_
                rotate_left
                · rintro w' ⟨s0, s1, s2, s3⟩
                  go_simp
                  with_reducible rfl
                rotate_left
                · simp only [Act.put, List.setIfInBounds_toArray, List.set_cons_zero, List.set_cons_succ, i64_w, i32_w]
                  rfl
                refine one_ (i := 10) (N := some 106) #[true, true, true, true, true, true, true, true, true, true, true, false, false, false, false, false, false, false, false, false, false] rfl rfl (one_of HT_.out (by kernel_rfl)) (by decide) (fun K hK => ?_)
                refine goes_ Tryd.func19 (by kernel_rfl) rfl #[.int .i64 t238, .int .u64 t239, .int .u64 t240] (by rfl) rfl rfl (by (try simp only [List.map_toArray, List.map_cons, List.map_nil]); first | done | rfl | (simp only [List.length_drop, List.length_take]; rfl)) ?_
                with_reducible refine (spec_Minimum.calls kj6 t238 t239 t240 t256 t257 _ A31.out).mono ?_
                rintro e w41 ⟨rfl, hb⟩
                refine ⟨_, rfl, ?_⟩
                have n0_ := za BK251 hb
                have n1_ := za BK254 hb
                have n2_ := Aside0.mk (below_step zb hb)
                clear BK251
                clear BK254
                clear HB
                have BK251 := n0_
                have BK254 := n1_
                have HB := n2_
                clear n0_ n1_ n2_
                (try clear hb)
                (try clear hb2)
                (try clear hk)
                (try clear hi)
                refine hK.out _ _ ⟨(blk_cell BK251.out 0).trans rfl, (blk_cell BK251.out 1).trans rfl, (blk_cell BK254.out 0).trans rfl, (blk_cell BK254.out 1).trans rfl⟩ (fun hHeld => ?_)
                clear hK K
                refine norm_ (a' := ?_) ?_ ?_
                rotate_left
                · show Act.put _ (some 106) _ = _
                  simp only [Act.put, List.setIfInBounds_toArray, List.set_cons_zero, List.set_cons_succ, i64_w, i32_w]
                  rfl
                refine pure_ (i := 11) (N := some 107) (v := ?_) (a' := ?_) #[true, true, true, true, true, true, true, true, true, true, true, true, false, false, false, false, false, false, false, false, false] rfl rfl (any_of HT_.out (by kernel_rfl)) (fun _ _ _ h => h) (Or.inl ⟨by rfl, ?_⟩) ?_ ?_
                rotate_left
                · intro w'
                  go_simp
                  with_reducible rfl
                rotate_left
                · simp only [Act.put, List.setIfInBounds_toArray, List.set_cons_zero, List.set_cons_succ, i64_w, i32_w]
                  rfl
                refine pure_ (i := 12) (N := some 108) (v := ?_) (a' := ?_) #[true, true, true, true, true, true, true, true, true, true, true, true, true, false, false, false, false, false, false, false, false] rfl rfl (any_of HT_.out (by kernel_rfl)) (fun _ _ _ h => h) (Or.inl ⟨by rfl, ?_⟩) ?_ ?_
                rotate_left
                · intro w'
                  go_simp
                  with_reducible rfl
                rotate_left
                · simp only [Act.put, List.setIfInBounds_toArray, List.set_cons_zero, List.set_cons_succ, i64_w, i32_w]
                  rfl
                refine pure_ (i := 13) (N := some 109) (v := ?_) (a' := ?_) #[true, true, true, true, true, true, true, true, true, true, true, true, true, true, false, false, false, false, false, false, false] rfl rfl (any_of HT_.out (by kernel_rfl)) (fun _ _ _ h => h) (Or.inl ⟨by rfl, ?_⟩) ?_ ?_
                rotate_left
                · intro w'
                  go_simp
                  with_reducible rfl
                rotate_left
                · simp only [Act.put, List.setIfInBounds_toArray, List.set_cons_zero, List.set_cons_succ, i64_w, i32_w]
                  rfl
                refine pure_ (i := 15) (N := some 111) (v := ?_) (a' := ?_) #[true, true, true, true, true, true, true, true, true, true, true, true, true, true, false, true, false, false, false, false, false] rfl rfl (any_of HT_.out (by kernel_rfl)) (fun _ _ _ h => h) (Or.inl ⟨by rfl, ?_⟩) ?_ ?_
                rotate_left
                · intro w'
                  go_simp
                  with_reducible rfl
                rotate_left
                · simp only [Act.put, List.setIfInBounds_toArray, List.set_cons_zero, List.set_cons_succ, i64_w, i32_w]
                  rfl
                refine pure_ (i := 16) (N := some 112) (v := ?_) (a' := ?_) #[true, true, true, true, true, true, true, true, true, true, true, true, true, true, false, true, true, false, false, false, false] rfl rfl (any_of HT_.out (by kernel_rfl)) (fun _ _ _ h => h) (Or.inl ⟨by rfl, ?_⟩) ?_ ?_
                rotate_left
                · intro w'
                  go_simp
                  with_reducible rfl
                rotate_left
                · simp only [Act.put, List.setIfInBounds_toArray, List.set_cons_zero, List.set_cons_succ, i64_w, i32_w]
                  rfl
                refine pure_ (i := 17) (N := some 113) (v := ?_) (a' := ?_) #[true, true, true, true, true, true, true, true, true, true, true, true, true, true, false, true, true, true, false, false, false] rfl rfl (any_of HT_.out (by kernel_rfl)) (fun _ _ _ h => h) (Or.inl ⟨by rfl, ?_⟩) ?_ ?_
                rotate_left
                · intro w'
                  go_simp
                  with_reducible rfl
                rotate_left
                · simp only [Act.put, List.setIfInBounds_toArray, List.set_cons_zero, List.set_cons_succ, i64_w, i32_w]
                  rfl
                refine take_ (i := 14) (N := some 110) (v := ?_) (a' := ?_) #[true, true, true, true, true, true, true, true, true, true, true, true, true, true, true, true, true, true, false, false, false] rfl rfl (take_ofW HT_.out HW_.out (by kernel_rfl)) (fun _ _ _ h => h) (Or.inl ⟨by rfl, ?_⟩) hHeld ?_ ?_
                rotate_left
                · rintro w' ⟨s0, s1, s2, s3⟩
                  go_simp
                  with_reducible rfl
                rotate_left
                · simp only [Act.put, List.setIfInBounds_toArray, List.set_cons_zero, List.set_cons_succ, i64_w, i32_w]
                  rfl
                refine one_ (i := 18) (N := some 114) #[true, true, true, true, true, true, true, true, true, true, true, true, true, true, true, true, true, true, true, false, false] rfl rfl (one_of HT_.out (by kernel_rfl)) (by decide) (fun K hK => ?_)
                refine goes_ Tryd.func16 (by kernel_rfl) rfl #[.int .i64 t238, .int .u64 t239, .int .u64 t240] (by rfl) rfl rfl (by (try simp only [List.map_toArray, List.map_cons, List.map_nil]); first | done | rfl | (simp only [List.length_drop, List.length_take]; rfl)) ?_
                with_reducible refine (spec_Maximum.calls kj6 t238 t239 t240 t258 t259 _ A37.out).mono ?_
                rintro e w42 ⟨rfl, hb⟩
                refine ⟨_, rfl, ?_⟩
                have n0_ := za BK251 hb
                have n1_ := za BK254 hb
                have n2_ := Aside0.mk (below_step zb hb)
                clear BK251
                clear BK254
                clear HB
                have BK251 := n0_
                have BK254 := n1_
                have HB := n2_
                clear n0_ n1_ n2_
                (try clear hb)
                (try clear hb2)
                (try clear hk)
                (try clear hi)
                refine hK.out _ _ ⟨(blk_cell BK251.out 0).trans rfl, (blk_cell BK251.out 1).trans rfl, (blk_cell BK254.out 0).trans rfl, (blk_cell BK254.out 1).trans rfl⟩ (fun hHeld => ?_)
                clear hK K
                refine norm_ (a' := ?_) ?_ ?_
                rotate_left
                · show Act.put _ (some 114) _ = _
                  simp only [Act.put, List.setIfInBounds_toArray, List.set_cons_zero, List.set_cons_succ, i64_w, i32_w]
                  rfl
                refine pure_ (i := 19) (N := some 115) (v := ?_) (a' := ?_) #[true, true, true, true, true, true, true, true, true, true, true, true, true, true, true, true, true, true, true, true, false] rfl rfl (any_of HT_.out (by kernel_rfl)) (fun _ _ _ h => h) (Or.inl ⟨by rfl, ?_⟩) ?_ ?_
                rotate_left
                · intro w'
                  go_simp
                  with_reducible rfl
                rotate_left
                · simp only [Act.put, List.setIfInBounds_toArray, List.set_cons_zero, List.set_cons_succ, i64_w, i32_w]
                  rfl
                refine pure_ (i := 20) (N := some 116) (v := ?_) (a' := ?_) #[true, true, true, true, true, true, true, true, true, true, true, true, true, true, true, true, true, true, true, true, true] rfl rfl (any_of HT_.out (by kernel_rfl)) (fun _ _ _ h => h) (Or.inl ⟨by rfl, ?_⟩) ?_ ?_
                rotate_left
                · intro w'
                  go_simp
                  with_reducible rfl
                rotate_left
                · simp only [Act.put, List.setIfInBounds_toArray, List.set_cons_zero, List.set_cons_succ, i64_w, i32_w]
                  rfl
                refine done_ (done_of HT_.out (by kernel_rfl)) ?_
                try go_wp2
                go_meet
                case rel => exact ⟨_, ((!(t252 == t258) || (!(t253 == t259)))), (by first | rfl | (simp; done) | (simp [*]; done)), H', ⟨by have := HJ6.out; first | omega | exact Nat.le_refl _⟩, ⟨zk⟩, ⟨zk⟩, ⟨zb⟩⟩
            · rw [if_neg c30] at H
              have c30b0 : (t248 == t255) = false := beq_eq_false_iff_ne.mpr c30
              have c30b1 : (t248 != t255) = true := bne_iff_ne.mpr c30
              (first | rw [c30b0] | (simp only [i64_w, i32_w]; rw [c30b0]) | skip)
              have H' := Aside0.mk H
              clear H
              try go_wp2
              have n0_ : Aside0 (((w26.setCell ⟨gb254, 0, none⟩ (.int .u64 t252)).setCell ⟨gb254, 1, none⟩ (.int .i64 t253)).heap[gb251]? = some (.cells #[.int .u64 t249, .int .i64 t250] 33 (0, 0))) := ⟨by (with_reducible repeat (first | refine blk_drewN ?_ _ | refine blk_drew ?_ | refine blk_alloc ?_ _)); refine blk_far ?_ NB251_254.out _; (with_reducible repeat (first | refine blk_drewN ?_ _ | refine blk_drew ?_ | refine blk_alloc ?_ _)); refine blk_far ?_ NB251_254.out _; (with_reducible repeat (first | refine blk_drewN ?_ _ | refine blk_drew ?_ | refine blk_alloc ?_ _)); exact BK251.out⟩
              have n1_ : Aside0 (((w26.setCell ⟨gb254, 0, none⟩ (.int .u64 t252)).setCell ⟨gb254, 1, none⟩ (.int .i64 t253)).heap[gb254]? = some (.cells #[.int .u64 t252, .int .i64 t253] 33 (0, 0))) := ⟨by (with_reducible repeat (first | refine blk_drewN ?_ _ | refine blk_drew ?_ | refine blk_alloc ?_ _)); refine blk_put (cs := #[.int .u64 t252, .int .i64 0]) ?_ 1 _ rfl; (with_reducible repeat (first | refine blk_drewN ?_ _ | refine blk_drew ?_ | refine blk_alloc ?_ _)); refine blk_put (cs := #[.int .u64 0, .int .i64 0]) ?_ 0 _ rfl; (with_reducible repeat (first | refine blk_drewN ?_ _ | refine blk_drew ?_ | refine blk_alloc ?_ _)); exact BK254.out⟩
              have n2_ : Aside0 (Below w.heap.size w ((w26.setCell ⟨gb254, 0, none⟩ (.int .u64 t252)).setCell ⟨gb254, 1, none⟩ (.int .i64 t253))) := ⟨zb⟩
              (try clear BK251)
              (try clear BK254)
              (try clear HB)
              first
                | ((try simp only [set_drewN, drewN_two]); rw [drewN_self ((w26.setCell ⟨gb254, 0, none⟩ (.int .u64 t252)).setCell ⟨gb254, 1, none⟩ (.int .i64 t253))]; generalize hq_ : World.drewN ((w26.setCell ⟨gb254, 0, none⟩ (.int .u64 t252)).setCell ⟨gb254, 1, none⟩ (.int .i64 t253)) _ = w43 at ⊢; (first | (have n0_ := Aside0.mk (blk_at hq_ n0_.out)) | (have n0_ := Aside0.mk (cell_at hq_ n0_.out)) | (have n0_ := Aside0.mk (below_at hq_ n0_.out))); (first | (have n1_ := Aside0.mk (blk_at hq_ n1_.out)) | (have n1_ := Aside0.mk (cell_at hq_ n1_.out)) | (have n1_ := Aside0.mk (below_at hq_ n1_.out))); (first | (have n2_ := Aside0.mk (blk_at hq_ n2_.out)) | (have n2_ := Aside0.mk (cell_at hq_ n2_.out)) | (have n2_ := Aside0.mk (below_at hq_ n2_.out))); clear hq_)
                | generalize ((w26.setCell ⟨gb254, 0, none⟩ (.int .u64 t252)).setCell ⟨gb254, 1, none⟩ (.int .i64 t253)) = w43 at n0_ n1_ n2_  ⊢
              have BK251 := n0_
              have BK254 := n1_
              have HB := n2_
              clear n0_ n1_ n2_
              have n0_ := Aside0.mk (blk_drew BK251.out)
              have n1_ := Aside0.mk (blk_drew BK254.out)
              have n2_ := Aside0.mk (below_drew1 HB.out)
              clear BK251
              clear BK254
              clear HB
              have BK251 := n0_
              have BK254 := n1_
              have HB := n2_
              clear n0_ n1_ n2_
              refine start_ (n := 21) (S := fun w' => True) (ds := []) #[false, false, false, false, false, false, false, false, false, false, false, false, false, false, false, false, false, false, false, false, false] (by kernel_rfl) rfl rfl trivial (fun hHeld => ?_); refine with_tabW laws_FnOrder.tab12 laws_FnOrder.bits12 (fun HT_ HW_ => ?_)
              generalize w43.drew = w44 at BK251 BK254 HB hHeld ⊢
              refine pure_ (i := 0) (N := some 96) (v := ?_) (a' := ?_) #[true, false, false, false, false, false, false, false, false, false, false, false, false, false, false, false, false, false, false, false, false] rfl rfl (any_of HT_.out (by kernel_rfl)) (fun _ _ _ h => h) (Or.inl ⟨by rfl, ?_⟩) ?_ ?_
              rotate_left
              · intro w'
                go_simp
                with_reducible rfl
              rotate_left
              · simp only [Act.put, List.setIfInBounds_toArray, List.set_cons_zero, List.set_cons_succ, i64_w, i32_w]
                rfl
              refine pure_ (i := 1) (N := some 97) (v := ?_) (a' := ?_) #[true, true, false, false, false, false, false, false, false, false, false, false, false, false, false, false, false, false, false, false, false] rfl rfl (any_of HT_.out (by kernel_rfl)) (fun _ _ _ h => h) (Or.inl ⟨by rfl, ?_⟩) ?_ ?_
              rotate_left
              · intro w'
                go_simp
                with_reducible rfl
              rotate_left
              · simp only [Act.put, List.setIfInBounds_toArray, List.set_cons_zero, List.set_cons_succ, i64_w, i32_w]
                rfl
              refine pure_ (i := 2) (N := some 98) (v := ?_) (a' := ?_) #[true, true, true, false, false, false, false, false, false, false, false, false, false, false, false, false, false, false, false, false, false] rfl rfl (any_of HT_.out (by kernel_rfl)) (fun _ _ _ h => h) (Or.inl ⟨by rfl, ?_⟩) ?_ ?_
              rotate_left
              · intro w'
                go_simp
                with_reducible rfl
              rotate_left
              · simp only [Act.put, List.setIfInBounds_toArray, List.set_cons_zero, List.set_cons_succ, i64_w, i32_w]
                rfl
              refine one_ (i := 3) (N := some 99) #[true, true, true, true, false, false, false, false, false, false, false, false, false, false, false, false, false, false, false, false, false] rfl rfl (one_of HT_.out (by kernel_rfl)) (by decide) (fun K hK => ?_)
              refine goes_ Tryd.func12 (by kernel_rfl) rfl #[.int .i64 t238, .int .u64 t239] (by rfl) rfl rfl (by (try simp only [List.map_toArray, List.map_cons, List.map_nil]); first | done | rfl | (simp only [List.length_drop, List.length_take]; rfl)) ?_
              with_reducible refine (spec_NextUp.calls kj6 t238 t239 t255 _ A29.out).mono ?_
              rintro e w45 ⟨rfl, hb⟩
              refine ⟨_, rfl, ?_⟩
              have n0_ := za BK251 hb
              have n1_ := za BK254 hb
              have n2_ := Aside0.mk (below_step zb hb)
              clear BK251
              clear BK254
              clear HB
              have BK251 := n0_
              have BK254 := n1_
              have HB := n2_
              clear n0_ n1_ n2_
              (try clear hb)
              (try clear hb2)
              (try clear hk)
              (try clear hi)
              refine hK.out _ _ trivial (fun hHeld => ?_)
              clear hK K
              refine norm_ (a' := ?_) ?_ ?_
              rotate_left
              · show Act.put _ (some 99) _ = _
                simp only [Act.put, List.setIfInBounds_toArray, List.set_cons_zero, List.set_cons_succ, i64_w, i32_w]
                rfl
              refine pure_ (i := 4) (N := some 100) (v := ?_) (a' := ?_) #[true, true, true, true, true, false, false, false, false, false, false, false, false, false, false, false, false, false, false, false, false] rfl rfl (any_of HT_.out (by kernel_rfl)) (fun _ _ _ h => h) (Or.inl ⟨by rfl, ?_⟩) ?_ ?_
              rotate_left
              · intro w'
                go_simp
                with_reducible rfl
              rotate_left
              · simp only [Act.put, List.setIfInBounds_toArray, List.set_cons_zero, List.set_cons_succ, i64_w, i32_w]
                rfl
              refine pure_ (i := 5) (N := some 101) (v := ?_) (a' := ?_) #[true, true, true, true, true, true, false, false, false, false, false, false, false, false, false, false, false, false, false, false, false] rfl rfl (any_of HT_.out (by kernel_rfl)) (fun _ _ _ h => h) (Or.inl ⟨by rfl, ?_⟩) ?_ ?_
              rotate_left
              · intro w'
                go_simp
                with_reducible rfl
              rotate_left
              · simp only [Act.put, List.setIfInBounds_toArray, List.set_cons_zero, List.set_cons_succ, i64_w, i32_w]
                rfl
              refine pure_ (i := 6) (N := some 102) (v := undef) (a' := ?_) #[true, true, true, true, true, true, true, false, false, false, false, false, false, false, false, false, false, false, false, false, false] rfl rfl (any_of HT_.out (by kernel_rfl)) (fun _ _ _ h => h) (Or.inr ⟨by rfl, rfl⟩) ?_ ?_
              rotate_left
              · simp only [Act.put, List.setIfInBounds_toArray, List.set_cons_zero, List.set_cons_succ, i64_w, i32_w]
                rfl
              refine pure_ (i := 7) (N := some 103) (v := undef) (a' := ?_) #[true, true, true, true, true, true, true, true, false, false, false, false, false, false, false, false, false, false, false, false, false] rfl rfl (any_of HT_.out (by kernel_rfl)) (fun _ _ _ h => h) (Or.inr ⟨by rfl, rfl⟩) ?_ ?_
              rotate_left
              · simp only [Act.put, List.setIfInBounds_toArray, List.set_cons_zero, List.set_cons_succ, i64_w, i32_w]
                rfl
              refine pure_ (i := 8) (N := some 104) (v := undef) (a' := ?_) #[true, true, true, true, true, true, true, true, true, false, false, false, false, false, false, false, false, false, false, false, false] rfl rfl (any_of HT_.out (by kernel_rfl)) (fun _ _ _ h => h) (Or.inr ⟨by rfl, rfl⟩) ?_ ?_
              rotate_left
              · simp only [Act.put, List.setIfInBounds_toArray, List.set_cons_zero, List.set_cons_succ, i64_w, i32_w]
                rfl
              refine pure_ (i := 9) (N := some 105) (v := undef) (a' := ?_) #[true, true, true, true, true, true, true, true, true, true, false, false, false, false, false, false, false, false, false, false, false] rfl rfl (any_of HT_.out (by kernel_rfl)) (fun _ _ _ h => h) (Or.inr ⟨by rfl, rfl⟩) ?_ ?_
              rotate_left
              · simp only [Act.put, List.setIfInBounds_toArray, List.set_cons_zero, List.set_cons_succ, i64_w, i32_w]
                rfl
              refine pure_ (i := 10) (N := some 106) (v := undef) (a' := ?_) #[true, true, true, true, true, true, true, true, true, true, true, false, false, false, false, false, false, false, false, false, false] rfl rfl (any_of HT_.out (by kernel_rfl)) (fun _ _ _ h => h) (Or.inr ⟨by rfl, rfl⟩) ?_ ?_
              rotate_left
              · simp only [Act.put, List.setIfInBounds_toArray, List.set_cons_zero, List.set_cons_succ, i64_w, i32_w]
                rfl
              refine pure_ (i := 11) (N := some 107) (v := undef) (a' := ?_) #[true, true, true, true, true, true, true, true, true, true, true, true, false, false, false, false, false, false, false, false, false] rfl rfl (any_of HT_.out (by kernel_rfl)) (fun _ _ _ h => h) (Or.inr ⟨by rfl, rfl⟩) ?_ ?_
              rotate_left
              · simp only [Act.put, List.setIfInBounds_toArray, List.set_cons_zero, List.set_cons_succ, i64_w, i32_w]
                rfl
              refine pure_ (i := 12) (N := some 108) (v := ?_) (a' := ?_) #[true, true, true, true, true, true, true, true, true, true, true, true, true, false, false, false, false, false, false, false, false] rfl rfl (any_of HT_.out (by kernel_rfl)) (fun _ _ _ h => h) (Or.inl ⟨by rfl, ?_⟩) ?_ ?_
              rotate_left
              · intro w'
                go_simp
                with_reducible rfl
              rotate_left
              · simp only [Act.put, List.setIfInBounds_toArray, List.set_cons_zero, List.set_cons_succ, i64_w, i32_w]
                rfl
              refine pure_ (i := 13) (N := some 109) (v := ?_) (a' := ?_) #[true, true, true, true, true, true, true, true, true, true, true, true, true, true, false, false, false, false, false, false, false] rfl rfl (any_of HT_.out (by kernel_rfl)) (fun _ _ _ h => h) (Or.inl ⟨by rfl, ?_⟩) ?_ ?_
              rotate_left
              · intro w'
                go_simp
                with_reducible rfl
              rotate_left
              · simp only [Act.put, List.setIfInBounds_toArray, List.set_cons_zero, List.set_cons_succ, i64_w, i32_w]
                rfl
              refine pure_ (i := 14) (N := some 110) (v := undef) (a' := ?_) #[true, true, true, true, true, true, true, true, true, true, true, true, true, true, true, false, false, false, false, false, false] rfl rfl (any_of HT_.out (by kernel_rfl)) (fun _ _ _ h => h) (Or.inr ⟨by rfl, rfl⟩) ?_ ?_
              rotate_left
              · simp only [Act.put, List.setIfInBounds_toArray, List.set_cons_zero, List.set_cons_succ, i64_w, i32_w]
                rfl
              refine pure_ (i := 15) (N := some 111) (v := undef) (a' := ?_) #[true, true, true, true, true, true, true, true, true, true, true, true, true, true, true, true, false, false, false, false, false] rfl rfl (any_of HT_.out (by kernel_rfl)) (fun _ _ _ h => h) (Or.inr ⟨by rfl, rfl⟩) ?_ ?_
              rotate_left
              · simp only [Act.put, List.setIfInBounds_toArray, List.set_cons_zero, List.set_cons_succ, i64_w, i32_w]
                rfl
              refine pure_ (i := 16) (N := some 112) (v := undef) (a' := ?_) #[true, true, true, true, true, true, true, true, true, true, true, true, true, true, true, true, true, false, false, false, false] rfl rfl (any_of HT_.out (by kernel_rfl)) (fun _ _ _ h => h) (Or.inr ⟨by rfl, rfl⟩) ?_ ?_
              rotate_left
              · simp only [Act.put, List.setIfInBounds_toArray, List.set_cons_zero, List.set_cons_succ, i64_w, i32_w]
                rfl
              refine pure_ (i := 17) (N := some 113) (v := undef) (a' := ?_) #[true, true, true, true, true, true, true, true, true, true, true, true, true, true, true, true, true, true, false, false, false] rfl rfl (any_of HT_.out (by kernel_rfl)) (fun _ _ _ h => h) (Or.inr ⟨by rfl, rfl⟩) ?_ ?_
              rotate_left
              · simp only [Act.put, List.setIfInBounds_toArray, List.set_cons_zero, List.set_cons_succ, i64_w, i32_w]
                rfl
              refine pure_ (i := 18) (N := some 114) (v := undef) (a' := ?_) #[true, true, true, true, true, true, true, true, true, true, true, true, true, true, true, true, true, true, true, false, false] rfl rfl (any_of HT_.out (by kernel_rfl)) (fun _ _ _ h => h) (Or.inr ⟨by rfl, rfl⟩) ?_ ?_
              rotate_left
              · simp only [Act.put, List.setIfInBounds_toArray, List.set_cons_zero, List.set_cons_succ, i64_w, i32_w]
                rfl
              refine pure_ (i := 19) (N := some 115) (v := undef) (a' := ?_) #[true, true, true, true, true, true, true, true, true, true, true, true, true, true, true, true, true, true, true, true, false] rfl rfl (any_of HT_.out (by kernel_rfl)) (fun _ _ _ h => h) (Or.inr ⟨by rfl, rfl⟩) ?_ ?_
              rotate_left
              · simp only [Act.put, List.setIfInBounds_toArray, List.set_cons_zero, List.set_cons_succ, i64_w, i32_w]
                rfl
              refine pure_ (i := 20) (N := some 116) (v := ?_) (a' := ?_) #[true, true, true, true, true, true, true, true, true, true, true, true, true, true, true, true, true, true, true, true, true] rfl rfl (any_of HT_.out (by kernel_rfl)) (fun _ _ _ h => h) (Or.inl ⟨by rfl, ?_⟩) ?_ ?_
              rotate_left
              · intro w'
                go_simp
                with_reducible rfl
              rotate_left
              · simp only [Act.put, List.setIfInBounds_toArray, List.set_cons_zero, List.set_cons_succ, i64_w, i32_w]
                rfl
              refine done_ (done_of HT_.out (by kernel_rfl)) ?_
              try go_wp2
              go_meet
              case rel => exact ⟨_, (true), (by first | rfl | (simp; done) | (simp [*]; done)), H', ⟨by have := HJ6.out; first | omega | exact Nat.le_refl _⟩, ⟨zk⟩, ⟨zk⟩, ⟨zb⟩⟩
          case rest => as_aux_lemma =>
            clear HC20
            (try clear c1); (try clear p2); (try clear c3); (try clear c12); (try clear c16); (try clear c19); (try clear c30); (try clear c30b0); (try clear c30b1); (try clear c32); (try clear c32b0)
            obtain ⟨kq, x116_19, rfl, HA, HJ19, BK251, BK254, HB⟩ := hcut
            cases kq with
            | zero => exact absurd HA.out (by simp [laws_FnOrder.j1])
            | succ kj19 =>
              have H := HA.out
              clear HA
              simp only [laws_FnOrder.j1] at H
              by_cases c46 : x116_19 = true
              · subst c46
                have H1 : (none) = some r := by rw [if_pos rfl] at H; exact H
                clear H
                have H := H1
                clear H1
                exact absurd H (by simp)
              · replace c46 := Bool.eq_false_iff.mpr c46
                subst c46
                have H1 : ((laws_wClass.f kj19 t238 t239).bind fun t260 => (if t260 ≥ 3 then (some true) else ((impl_Compare.f kj19 t238 t239 t248 true).bind fun bt261 => (if bt261.1 = (-1) then (laws_FnOrder.j2 kj19 t238 t239 t240 false t249 t250 t252 t253) else (laws_FnOrder.j2 kj19 t238 t239 t240 (t248 != t239) t249 t250 t252 t253))))) = some r := by rw [if_neg (show ¬ (false = true) by decide)] at H; exact H
                clear H
                have H := H1
                clear H1
                replace H := Option.bind_eq_some_iff.mp H
                obtain ⟨t260, A470, H⟩ := H
                replace H : (if t260 ≥ 3 then (some true) else ((impl_Compare.f kj19 t238 t239 t248 true).bind fun bt261 => (if bt261.1 = (-1) then (laws_FnOrder.j2 kj19 t238 t239 t240 false t249 t250 t252 t253) else (laws_FnOrder.j2 kj19 t238 t239 t240 (t248 != t239) t249 t250 t252 t253)))) = some r := H
                have A47 := Aside0.mk A470
                clear A470
                by_cases c48 : t260 ≥ 3
                · rw [if_pos c48] at H
                  have c48b0 : decide (3 ≤ t260) = true := decide_eq_true c48
                  clear c48
                  obtain rfl := Option.some.inj H
                  go_wp2_with (first | ((with_reducible refine gate_callee (f := 22) rfl ?_); refine goesL_ (some 119) rfl rfl Tryd.func22 (by kernel_rfl) rfl #[.int .i64 t238, .int .u64 t239] rfl (by (try simp only [List.map_toArray, List.map_cons, List.map_nil]); first | done | rfl | (simp only [List.length_drop, List.length_take]; rfl)) ?_; (with_reducible refine (laws_wClass.calls kj19 t238 t239 t260 _ A47.out).mono ?_); rintro e w49 ⟨rfl, hb⟩; refine ⟨_, rfl, ?_⟩; have n0_ := za BK251 hb; have n1_ := za BK254 hb; have n2_ := Aside0.mk (below_step zb hb); clear BK251 BK254 HB; have BK251 := n0_; have BK254 := n1_; have HB := n2_; clear n0_ n1_ n2_; (try clear hb); (try clear hb2); (try clear hk); (try clear hi)))
                  go_ret
                  exact ⟨by first | rfl | (simp [errW_none, errW_some] <;> rfl) | (simp [*, errW_none, errW_some] <;> rfl), zb⟩
                · rw [if_neg c48] at H
                  have c48b0 : decide (3 ≤ t260) = false := decide_eq_false c48
                  clear c48
                  replace H := Option.bind_eq_some_iff.mp H
                  obtain ⟨⟨t261, t262⟩, A500, H⟩ := H
                  replace H : (if t261 = (-1) then (laws_FnOrder.j2 kj19 t238 t239 t240 false t249 t250 t252 t253) else (laws_FnOrder.j2 kj19 t238 t239 t240 (t248 != t239) t249 t250 t252 t253)) = some r := H
                  have A50 := Aside0.mk A500
                  clear A500
                  have HC51 := Aside0.mk H
                  clear H
                  go_upto_region 17 with (first | ((with_reducible refine gate_callee (f := 22) rfl ?_); refine goesL_ (some 119) rfl rfl Tryd.func22 (by kernel_rfl) rfl #[.int .i64 t238, .int .u64 t239] rfl (by (try simp only [List.map_toArray, List.map_cons, List.map_nil]); first | done | rfl | (simp only [List.length_drop, List.length_take]; rfl)) ?_; (with_reducible refine (laws_wClass.calls kj19 t238 t239 t260 _ A47.out).mono ?_); rintro e w52 ⟨rfl, hb⟩; refine ⟨_, rfl, ?_⟩; have n0_ := za BK251 hb; have n1_ := za BK254 hb; have n2_ := Aside0.mk (below_step zb hb); clear BK251 BK254 HB; have BK251 := n0_; have BK254 := n1_; have HB := n2_; clear n0_ n1_ n2_; (try clear hb); (try clear hb2); (try clear hk); (try clear hi)) | ((with_reducible refine gate_callee (f := 15) rfl ?_); refine goesL_ (some 125) rfl rfl Tryd.func15 (by kernel_rfl) rfl #[.int .i64 t238, .int .u64 t239, .int .u64 t248, .bool true] rfl (by (try simp only [List.map_toArray, List.map_cons, List.map_nil]); first | done | rfl | (simp only [List.length_drop, List.length_take]; rfl)) ?_; (with_reducible refine (impl_Compare.calls kj19 t238 t239 t248 true t261 t262 _ ?side1 A50.out).mono ?_); (case side1 => exact Gformats.below hGformats zb); rintro e w53 ⟨rfl, hb⟩; refine ⟨_, rfl, ?_⟩; have n0_ := za BK251 hb; have n1_ := za BK254 hb; have n2_ := Aside0.mk (below_step zb hb); clear BK251 BK254 HB; have BK251 := n0_; have BK254 := n1_; have HB := n2_; clear n0_ n1_ n2_; (try clear hb); (try clear hb2); (try clear hk); (try clear hi)))
                  (try simp only [Act.put, List.setIfInBounds_toArray, List.set_cons_zero, List.set_cons_succ])
                  go_cut [134] (fun v134 wc => ∃ (kq : Nat) (x134_50 : Bool), v134 = .bool x134_50 ∧ Aside0 (laws_FnOrder.j2 kq t238 t239 t240 x134_50 t249 t250 t252 t253 = some r) ∧ Aside0 (kq ≤ kj19) ∧ Aside0 (wc.heap[gb251]? = some (.cells #[.int .u64 t249, .int .i64 t250] 33 (0, 0))) ∧ Aside0 (wc.heap[gb254]? = some (.cells #[.int .u64 t252, .int .i64 t253] 33 (0, 0))) ∧ Aside0 (Below w.heap.size w wc))
                  case first => as_aux_lemma =>
                    have H := HC51.out
                    clear HC51
                    by_cases c54 : t261 = (-1)
                    · rw [if_pos c54] at H
                      have c54b0 : (t261 == (-1)) = true := beq_iff_eq.mpr c54
                      have c54b1 : (t261 != (-1)) = false := bne_eq_false_iff_eq.mpr c54
                      clear c54
                      (first | rw [c54b0] | (simp only [i64_w, i32_w]; rw [c54b0]) | skip)
                      have H' := Aside0.mk H
                      clear H
                      go_wp2
                      go_meet
                      case rel => exact ⟨_, (false), (by first | rfl | (simp; done) | (simp [*]; done)), H', ⟨by have := HJ6.out; have := HJ19.out; first | omega | exact Nat.le_refl _⟩, ⟨zk⟩, ⟨zk⟩, ⟨zb⟩⟩
                    · rw [if_neg c54] at H
                      have c54b0 : (t261 == (-1)) = false := beq_eq_false_iff_ne.mpr c54
                      have c54b1 : (t261 != (-1)) = true := bne_iff_ne.mpr c54
                      (first | rw [c54b0] | (simp only [i64_w, i32_w]; rw [c54b0]) | skip)
                      have H' := Aside0.mk H
                      clear H
                      go_wp2
                      go_meet
                      case rel => exact ⟨_, ((t248 != t239)), (by first | rfl | (simp; done) | (simp [*]; done)), H', ⟨by have := HJ6.out; have := HJ19.out; first | omega | exact Nat.le_refl _⟩, ⟨zk⟩, ⟨zk⟩, ⟨zb⟩⟩
                  case rest => as_aux_lemma =>
                    clear HC51
                    (try clear c1); (try clear c2); (try clear p2); (try clear c3); (try clear c4); (try clear c5); (try clear c12); (try clear c15); (try clear c16); (try clear c19); (try clear c22); (try clear c30); (try clear c30b0); (try clear c30b1); (try clear c32); (try clear c32b0); (try clear c46); (try clear c48); (try clear c48b0); (try clear c54); (try clear c54b0); (try clear c54b1); (try clear p2)
                    obtain ⟨kq, x134_50, rfl, HA, HJ50, BK251, BK254, HB⟩ := hcut
                    cases kq with
                    | zero => exact absurd HA.out (by simp [laws_FnOrder.j2])
                    | succ kj50 =>
                      have H := HA.out
                      clear HA
                      simp only [laws_FnOrder.j2] at H
                      by_cases c55 : x134_50 = true
                      · subst c55
                        have H1 : (none) = some r := by rw [if_pos rfl] at H; exact H
                        clear H
                        have H := H1
                        clear H1
                        exact absurd H (by simp)
                      · replace c55 := Bool.eq_false_iff.mpr c55
                        subst c55
                        have H1 : ((laws_wClass.f kj50 t238 t240).bind fun t263 => (if t263 ≥ 3 then (some true) else ((impl_Compare.f kj50 t238 t249 t252 true).bind fun bt264 => (if bt264.1 ≤ 0 then (if t249 = t239 then (if t252 = t240 then (some true) else (if t249 = t240 then (some (t252 == t239)) else (none))) else (if t249 = t240 then (some (t252 == t239)) else (none))) else (none))))) = some r := by rw [if_neg (show ¬ (false = true) by decide)] at H; exact H
                        clear H
                        have H := H1
                        clear H1
                        replace H := Option.bind_eq_some_iff.mp H
                        obtain ⟨t263, A560, H⟩ := H
                        replace H : (if t263 ≥ 3 then (some true) else ((impl_Compare.f kj50 t238 t249 t252 true).bind fun bt264 => (if bt264.1 ≤ 0 then (if t249 = t239 then (if t252 = t240 then (some true) else (if t249 = t240 then (some (t252 == t239)) else (none))) else (if t249 = t240 then (some (t252 == t239)) else (none))) else (none)))) = some r := H
                        have A56 := Aside0.mk A560
                        clear A560
                        by_cases c57 : t263 ≥ 3
                        · rw [if_pos c57] at H
                          have c57b0 : decide (3 ≤ t263) = true := decide_eq_true c57
                          clear c57
                          obtain rfl := Option.some.inj H
                          go_wp2_with (first | ((with_reducible refine gate_callee (f := 22) rfl ?_); refine goesL_ (some 137) rfl rfl Tryd.func22 (by kernel_rfl) rfl #[.int .i64 t238, .int .u64 t240] rfl (by (try simp only [List.map_toArray, List.map_cons, List.map_nil]); first | done | rfl | (simp only [List.length_drop, List.length_take]; rfl)) ?_; (with_reducible refine (laws_wClass.calls kj50 t238 t240 t263 _ A56.out).mono ?_); rintro e w58 ⟨rfl, hb⟩; refine ⟨_, rfl, ?_⟩; have n0_ := za BK251 hb; have n1_ := za BK254 hb; have n2_ := Aside0.mk (below_step zb hb); clear BK251 BK254 HB; have BK251 := n0_; have BK254 := n1_; have HB := n2_; clear n0_ n1_ n2_; (try clear hb); (try clear hb2); (try clear hk); (try clear hi)))
                          go_ret
                          exact ⟨by first | rfl | (simp [errW_none, errW_some] <;> rfl) | (simp [*, errW_none, errW_some] <;> rfl), zb⟩
                        · rw [if_neg c57] at H
                          have c57b0 : decide (3 ≤ t263) = false := decide_eq_false c57
                          clear c57
                          replace H := Option.bind_eq_some_iff.mp H
                          obtain ⟨⟨t264, t265⟩, A590, H⟩ := H
                          replace H : (if t264 ≤ 0 then (if t249 = t239 then (if t252 = t240 then (some true) else (if t249 = t240 then (some (t252 == t239)) else (none))) else (if t249 = t240 then (some (t252 == t239)) else (none))) else (none)) = some r := H
                          have A59 := Aside0.mk A590
                          clear A590
                          by_cases c60 : t264 ≤ 0
                          · rw [if_pos c60] at H
                            have c60b0 : decide (t264 ≤ 0) = true := decide_eq_true c60
                            clear c60
                            by_cases c61 : t249 = t239
                            · rw [if_pos c61] at H
                              have c61b0 : (t249 == t239) = true := beq_iff_eq.mpr c61
                              have c61b1 : (t249 != t239) = false := bne_eq_false_iff_eq.mpr c61
                              clear c61
                              by_cases c62 : t252 = t240
                              · rw [if_pos c62] at H
                                have c62b0 : (t252 == t240) = true := beq_iff_eq.mpr c62
                                have c62b1 : (t252 != t240) = false := bne_eq_false_iff_eq.mpr c62
                                clear c62
                                obtain rfl := Option.some.inj H
                                go_wp2_with (first | ((with_reducible refine gate_callee (f := 22) rfl ?_); refine goesL_ (some 137) rfl rfl Tryd.func22 (by kernel_rfl) rfl #[.int .i64 t238, .int .u64 t240] rfl (by (try simp only [List.map_toArray, List.map_cons, List.map_nil]); first | done | rfl | (simp only [List.length_drop, List.length_take]; rfl)) ?_; (with_reducible refine (laws_wClass.calls kj50 t238 t240 t263 _ A56.out).mono ?_); rintro e w63 ⟨rfl, hb⟩; refine ⟨_, rfl, ?_⟩; have n0_ := za BK251 hb; have n1_ := za BK254 hb; have n2_ := Aside0.mk (below_step zb hb); clear BK251 BK254 HB; have BK251 := n0_; have BK254 := n1_; have HB := n2_; clear n0_ n1_ n2_; (try clear hb); (try clear hb2); (try clear hk); (try clear hi); have hnb64 := NB251_254.out; have hnc64 := NB254_251.out; have hcz65_0 : w63.cell? ⟨gb251, 0, none⟩ = some (.int .u64 t249) := (blk_cell BK251.out 0).trans rfl; have hcz65_1 : w63.cell? ⟨gb251, 1, none⟩ = some (.int .i64 t250) := (blk_cell BK251.out 1).trans rfl; have hfz65_0 := blk_frozen BK251.out 0; have hfz65_1 := blk_frozen BK251.out 1; have hcz66_0 : w63.cell? ⟨gb254, 0, none⟩ = some (.int .u64 t252) := (blk_cell BK254.out 0).trans rfl; have hcz66_1 : w63.cell? ⟨gb254, 1, none⟩ = some (.int .i64 t253) := (blk_cell BK254.out 1).trans rfl; have hfz66_0 := blk_frozen BK254.out 0; have hfz66_1 := blk_frozen BK254.out 1) | ((with_reducible refine gate_callee (f := 15) rfl ?_); refine goesL_ (some 145) rfl rfl Tryd.func15 (by kernel_rfl) rfl #[.int .i64 t238, .int .u64 t249, .int .u64 t252, .bool true] rfl (by (try simp only [List.map_toArray, List.map_cons, List.map_nil]); first | done | rfl | (simp only [List.length_drop, List.length_take]; rfl)) ?_; (with_reducible refine (impl_Compare.calls kj50 t238 t249 t252 true t264 t265 _ ?side1 A59.out).mono ?_); (case side1 => exact Gformats.below hGformats zb); rintro e w67 ⟨rfl, hb⟩; refine ⟨_, rfl, ?_⟩; have n0_ := za BK251 hb; have n1_ := za BK254 hb; have n2_ := Aside0.mk (below_step zb hb); clear BK251 BK254 HB; have BK251 := n0_; have BK254 := n1_; have HB := n2_; clear n0_ n1_ n2_; (try clear hb); (try clear hb2); (try clear hk); (try clear hi); have hcz68_0 : w67.cell? ⟨gb251, 0, none⟩ = some (.int .u64 t249) := (blk_cell BK251.out 0).trans rfl; have hcz68_1 : w67.cell? ⟨gb251, 1, none⟩ = some (.int .i64 t250) := (blk_cell BK251.out 1).trans rfl; have hfz68_0 := blk_frozen BK251.out 0; have hfz68_1 := blk_frozen BK251.out 1; have hcz69_0 : w67.cell? ⟨gb254, 0, none⟩ = some (.int .u64 t252) := (blk_cell BK254.out 0).trans rfl; have hcz69_1 : w67.cell? ⟨gb254, 1, none⟩ = some (.int .i64 t253) := (blk_cell BK254.out 1).trans rfl; have hfz69_0 := blk_frozen BK254.out 0; have hfz69_1 := blk_frozen BK254.out 1))
                                go_ret
                                exact ⟨by first | rfl | (simp [errW_none, errW_some] <;> rfl) | (simp [*, errW_none, errW_some] <;> rfl), zb⟩
                              · rw [if_neg c62] at H
                                have c62b0 : (t252 == t240) = false := beq_eq_false_iff_ne.mpr c62
                                have c62b1 : (t252 != t240) = true := bne_iff_ne.mpr c62
                                by_cases c70 : t249 = t240
                                · rw [if_pos c70] at H
                                  have c70b0 : (t249 == t240) = true := beq_iff_eq.mpr c70
                                  have c70b1 : (t249 != t240) = false := bne_eq_false_iff_eq.mpr c70
                                  clear c70
                                  obtain rfl := Option.some.inj H
                                  go_wp2_with (first | ((with_reducible refine gate_callee (f := 22) rfl ?_); refine goesL_ (some 137) rfl rfl Tryd.func22 (by kernel_rfl) rfl #[.int .i64 t238, .int .u64 t240] rfl (by (try simp only [List.map_toArray, List.map_cons, List.map_nil]); first | done | rfl | (simp only [List.length_drop, List.length_take]; rfl)) ?_; (with_reducible refine (laws_wClass.calls kj50 t238 t240 t263 _ A56.out).mono ?_); rintro e w71 ⟨rfl, hb⟩; refine ⟨_, rfl, ?_⟩; have n0_ := za BK251 hb; have n1_ := za BK254 hb; have n2_ := Aside0.mk (below_step zb hb); clear BK251 BK254 HB; have BK251 := n0_; have BK254 := n1_; have HB := n2_; clear n0_ n1_ n2_; (try clear hb); (try clear hb2); (try clear hk); (try clear hi); have hnb72 := NB251_254.out; have hnc72 := NB254_251.out; have hcz73_0 : w71.cell? ⟨gb251, 0, none⟩ = some (.int .u64 t249) := (blk_cell BK251.out 0).trans rfl; have hcz73_1 : w71.cell? ⟨gb251, 1, none⟩ = some (.int .i64 t250) := (blk_cell BK251.out 1).trans rfl; have hfz73_0 := blk_frozen BK251.out 0; have hfz73_1 := blk_frozen BK251.out 1; have hcz74_0 : w71.cell? ⟨gb254, 0, none⟩ = some (.int .u64 t252) := (blk_cell BK254.out 0).trans rfl; have hcz74_1 : w71.cell? ⟨gb254, 1, none⟩ = some (.int .i64 t253) := (blk_cell BK254.out 1).trans rfl; have hfz74_0 := blk_frozen BK254.out 0; have hfz74_1 := blk_frozen BK254.out 1) | ((with_reducible refine gate_callee (f := 15) rfl ?_); refine goesL_ (some 145) rfl rfl Tryd.func15 (by kernel_rfl) rfl #[.int .i64 t238, .int .u64 t249, .int .u64 t252, .bool true] rfl (by (try simp only [List.map_toArray, List.map_cons, List.map_nil]); first | done | rfl | (simp only [List.length_drop, List.length_take]; rfl)) ?_; (with_reducible refine (impl_Compare.calls kj50 t238 t249 t252 true t264 t265 _ ?side1 A59.out).mono ?_); (case side1 => exact Gformats.below hGformats zb); rintro e w75 ⟨rfl, hb⟩; refine ⟨_, rfl, ?_⟩; have n0_ := za BK251 hb; have n1_ := za BK254 hb; have n2_ := Aside0.mk (below_step zb hb); clear BK251 BK254 HB; have BK251 := n0_; have BK254 := n1_; have HB := n2_; clear n0_ n1_ n2_; (try clear hb); (try clear hb2); (try clear hk); (try clear hi); have hcz76_0 : w75.cell? ⟨gb251, 0, none⟩ = some (.int .u64 t249) := (blk_cell BK251.out 0).trans rfl; have hcz76_1 : w75.cell? ⟨gb251, 1, none⟩ = some (.int .i64 t250) := (blk_cell BK251.out 1).trans rfl; have hfz76_0 := blk_frozen BK251.out 0; have hfz76_1 := blk_frozen BK251.out 1; have hcz77_0 : w75.cell? ⟨gb254, 0, none⟩ = some (.int .u64 t252) := (blk_cell BK254.out 0).trans rfl; have hcz77_1 : w75.cell? ⟨gb254, 1, none⟩ = some (.int .i64 t253) := (blk_cell BK254.out 1).trans rfl; have hfz77_0 := blk_frozen BK254.out 0; have hfz77_1 := blk_frozen BK254.out 1))
                                  go_ret
                                  exact ⟨by first | rfl | (simp [errW_none, errW_some] <;> rfl) | (simp [*, errW_none, errW_some] <;> rfl), zb⟩
                                · rw [if_neg c70] at H
                                  exact absurd H (by simp)
                            · rw [if_neg c61] at H
                              have c61b0 : (t249 == t239) = false := beq_eq_false_iff_ne.mpr c61
                              have c61b1 : (t249 != t239) = true := bne_iff_ne.mpr c61
                              by_cases c78 : t249 = t240
                              · rw [if_pos c78] at H
                                have c78b0 : (t249 == t240) = true := beq_iff_eq.mpr c78
                                have c78b1 : (t249 != t240) = false := bne_eq_false_iff_eq.mpr c78
                                clear c78
                                obtain rfl := Option.some.inj H
                                go_wp2_with (first | ((with_reducible refine gate_callee (f := 22) rfl ?_); refine goesL_ (some 137) rfl rfl Tryd.func22 (by kernel_rfl) rfl #[.int .i64 t238, .int .u64 t240] rfl (by (try simp only [List.map_toArray, List.map_cons, List.map_nil]); first | done | rfl | (simp only [List.length_drop, List.length_take]; rfl)) ?_; (with_reducible refine (laws_wClass.calls kj50 t238 t240 t263 _ A56.out).mono ?_); rintro e w79 ⟨rfl, hb⟩; refine ⟨_, rfl, ?_⟩; have n0_ := za BK251 hb; have n1_ := za BK254 hb; have n2_ := Aside0.mk (below_step zb hb); clear BK251 BK254 HB; have BK251 := n0_; have BK254 := n1_; have HB := n2_; clear n0_ n1_ n2_; (try clear hb); (try clear hb2); (try clear hk); (try clear hi); have hnb80 := NB251_254.out; have hnc80 := NB254_251.out; have hcz81_0 : w79.cell? ⟨gb251, 0, none⟩ = some (.int .u64 t249) := (blk_cell BK251.out 0).trans rfl; have hcz81_1 : w79.cell? ⟨gb251, 1, none⟩ = some (.int .i64 t250) := (blk_cell BK251.out 1).trans rfl; have hfz81_0 := blk_frozen BK251.out 0; have hfz81_1 := blk_frozen BK251.out 1; have hcz82_0 : w79.cell? ⟨gb254, 0, none⟩ = some (.int .u64 t252) := (blk_cell BK254.out 0).trans rfl; have hcz82_1 : w79.cell? ⟨gb254, 1, none⟩ = some (.int .i64 t253) := (blk_cell BK254.out 1).trans rfl; have hfz82_0 := blk_frozen BK254.out 0; have hfz82_1 := blk_frozen BK254.out 1) | ((with_reducible refine gate_callee (f := 15) rfl ?_); refine goesL_ (some 145) rfl rfl Tryd.func15 (by kernel_rfl) rfl #[.int .i64 t238, .int .u64 t249, .int .u64 t252, .bool true] rfl (by (try simp only [List.map_toArray, List.map_cons, List.map_nil]); first | done | rfl | (simp only [List.length_drop, List.length_take]; rfl)) ?_; (with_reducible refine (impl_Compare.calls kj50 t238 t249 t252 true t264 t265 _ ?side1 A59.out).mono ?_); (case side1 => exact Gformats.below hGformats zb); rintro e w83 ⟨rfl, hb⟩; refine ⟨_, rfl, ?_⟩; have n0_ := za BK251 hb; have n1_ := za BK254 hb; have n2_ := Aside0.mk (below_step zb hb); clear BK251 BK254 HB; have BK251 := n0_; have BK254 := n1_; have HB := n2_; clear n0_ n1_ n2_; (try clear hb); (try clear hb2); (try clear hk); (try clear hi); have hcz84_0 : w83.cell? ⟨gb251, 0, none⟩ = some (.int .u64 t249) := (blk_cell BK251.out 0).trans rfl; have hcz84_1 : w83.cell? ⟨gb251, 1, none⟩ = some (.int .i64 t250) := (blk_cell BK251.out 1).trans rfl; have hfz84_0 := blk_frozen BK251.out 0; have hfz84_1 := blk_frozen BK251.out 1; have hcz85_0 : w83.cell? ⟨gb254, 0, none⟩ = some (.int .u64 t252) := (blk_cell BK254.out 0).trans rfl; have hcz85_1 : w83.cell? ⟨gb254, 1, none⟩ = some (.int .i64 t253) := (blk_cell BK254.out 1).trans rfl; have hfz85_0 := blk_frozen BK254.out 0; have hfz85_1 := blk_frozen BK254.out 1))
                                go_ret
                                exact ⟨by first | rfl | (simp [errW_none, errW_some] <;> rfl) | (simp [*, errW_none, errW_some] <;> rfl), zb⟩
                              · rw [if_neg c78] at H
                                exact absurd H (by simp)
                          · rw [if_neg c60] at H
                            exact absurd H (by simp)

end Go.Proofs.YtokbmgneigdofaaDoor.PB
