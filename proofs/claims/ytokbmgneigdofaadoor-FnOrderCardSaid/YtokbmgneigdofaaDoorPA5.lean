-- Written by gprint.py (this session's program) through the kit's print.py. Lean checks it.
import Derived.Test.YtokbmgneigdofaaDoorPA0
import Derived.Test.YtokbmgneigdofaaDoorPA1
import Derived.Test.YtokbmgneigdofaaDoorPA2
import Derived.Test.YtokbmgneigdofaaDoorPA3
namespace Go.Proofs.YtokbmgneigdofaaDoor.PA
open Go.Proofs.YtokbmgneigdofaaDoorW.Z
open Go.Proofs.YtokbmgneigdofaaDoor.Given
open Go.RowKit Go.Proofs.YtokbmgneigdofaaDoorW.PrintWords Go.Proofs.YtokbmgneigdofaaDoorW.PrintLast
set_option linter.unusedVariables false
set_option linter.unusedSimpArgs false

/-! ### spec_l3Quiet: function 38 -/
def spec_l3Quiet.f (a0_0 : Int) (a0_1 : Int) (a0_2 : Int) (a0_3 : Int) : Option (Bool) := some (decide (a0_0 ≥ 3))
set_option maxHeartbeats 8000000 in
set_option maxRecDepth 100000 in
theorem spec_l3Quiet.calls (a0_0 : Int) (a0_1 : Int) (a0_2 : Int) (a0_3 : Int) (r : Bool) (w : World) (h : spec_l3Quiet.f a0_0 a0_1 a0_2 a0_3 = some r) :
    Calls Tryd.prog 38 #[.agg #[.int .i64 a0_0, .int .i64 a0_1, .int .i64 a0_2, .int .u64 a0_3]] w fun e w' => e = .returned (.bool r) ∧ Below w.heap.size w w' := by
  have hu24 := Tryd.underlying24
  have HB := Aside0.mk (Below.refl w.heap.size w)
  have H : (some (decide (a0_0 ≥ 3))) = some r := h
  clear h
  obtain rfl := Option.some.inj H
  go_enter Tryd.func38, Tryd.ntmps38
  go_wp2_with (first | ((with_reducible refine gate_dst (N := 1) rfl ?_); refine box_event ?hg (N := 1) ?hd (cs := #[.int .i64 a0_0, .int .i64 a0_1, .int .i64 a0_2, .int .u64 a0_3]) (t := 24) ?hr ?_; (case hd => rfl); (case hg => rfl); (case hr => first | (go_simp; done) | (go_simp; rfl)); intro gb185 hg w2 hbox hb; have n0_ := Aside0.mk (below_step zb hb); have n1_ := Aside0.mk (hbox); have n2_ := zs w hg; have n3_ := zs w hg; clear HB; have HB := n0_; have BK185 := n1_; have GW185 := n2_; have GE185 := n3_; clear n0_ n1_ n2_ n3_ hb hbox hg; have hcz3_0 : w2.cell? ⟨gb185, 0, none⟩ = some (.int .i64 a0_0) := (blk_cell BK185.out 0).trans rfl; have hcz3_1 : w2.cell? ⟨gb185, 1, none⟩ = some (.int .i64 a0_1) := (blk_cell BK185.out 1).trans rfl; have hcz3_2 : w2.cell? ⟨gb185, 2, none⟩ = some (.int .i64 a0_2) := (blk_cell BK185.out 2).trans rfl; have hcz3_3 : w2.cell? ⟨gb185, 3, none⟩ = some (.int .u64 a0_3) := (blk_cell BK185.out 3).trans rfl; have hfz3_0 := blk_frozen BK185.out 0; have hfz3_1 := blk_frozen BK185.out 1; have hfz3_2 := blk_frozen BK185.out 2; have hfz3_3 := blk_frozen BK185.out 3))
  go_ret
  exact ⟨by first | rfl | (simp [errW_none, errW_some] <;> rfl) | (simp [*, errW_none, errW_some] <;> rfl), zb⟩

/-! ### spec_l5Order: function 39 -/
def spec_l5Order.j0 : Nat → Int → Int → Int → Int → Int → Bool → Option (Int)
  | 0, _, _, _, _, _, _ => none
  | k + 1, x0, x1, x2, x7, x8, x22 => if x22 = true then (some 0) else ((spec_l2Sign.f k x0).bind fun t188 => ((spec_l2Sign.f k x0).bind fun t189 => (if ((decide (x1 ≥ t188)) != (decide (x2 ≥ t189))) = true then ((spec_l2Sign.f k x0).bind fun t190 => (if x1 ≥ t190 then (some (-1)) else (some 1))) else (if x7 = x8 then (some 0) else ((spec_l2Sign.f k x0).bind fun t191 => (if ((decide (x7 < x8)) == (decide (x1 < t191))) = true then (some (-1)) else (some 1)))))))
def spec_l5Order.f (k : Nat) (a0 : Int) (a1 : Int) (a2 : Int) : Option (Int) := (spec_l2Sign.f k a0).bind fun t186 => (if t186 = 0 then (none) else ((spec_l2Sign.f k a0).bind fun t187 => (if t187 = 0 then (none) else (if (Int.tmod a1 t186) = 0 then (spec_l5Order.j0 k a0 a1 a2 (Int.tmod a1 t186) (Int.tmod a2 t187) ((Int.tmod a2 t187) == 0)) else (spec_l5Order.j0 k a0 a1 a2 (Int.tmod a1 t186) (Int.tmod a2 t187) false)))))
theorem spec_l5Order.mono_l : ∀ k, (∀ y0 y1 y2 y3 y4 y5, LeO (spec_l5Order.j0 k y0 y1 y2 y3 y4 y5) (spec_l5Order.j0 (k + 1) y0 y1 y2 y3 y4 y5))
  | 0 => fun _ _ _ _ _ _ r h => by simp [spec_l5Order.j0] at h
  | k + 1 => by
    have ih0 := spec_l5Order.mono_l k
    · intro y0 y1 y2 y3 y4 y5
      unfold spec_l5Order.j0
      repeat' first
      | (with_reducible exact ih0 _ _ _ _ _ _)
      | (with_reducible exact spec_l2Sign.mono _ _)
      | (with_reducible exact LeO.refl _)
      | (with_reducible exact LeO.none _)
      | (with_reducible refine LeO.ite ?_ ?_)
      | (with_reducible refine LeO.bind ?_ (fun _ => ?_))
      | exact ih0 _ _ _ _ _ _
      | exact spec_l2Sign.mono _ _
      | exact LeO.none _
      | refine LeO.ite ?_ ?_
      | refine LeO.bind ?_ (fun _ => ?_)
theorem spec_l5Order.mono : ∀ a0 a1 a2 k, LeO (spec_l5Order.f k a0 a1 a2) (spec_l5Order.f (k + 1) a0 a1 a2) := by
  intro a0 a1 a2 k
  have ih0 := spec_l5Order.mono_l k
  unfold spec_l5Order.f
  repeat' first
      | (with_reducible exact ih0 _ _ _ _ _ _)
      | (with_reducible exact spec_l2Sign.mono _ _)
      | (with_reducible exact LeO.refl _)
      | (with_reducible exact LeO.none _)
      | (with_reducible refine LeO.ite ?_ ?_)
      | (with_reducible refine LeO.bind ?_ (fun _ => ?_))
      | exact ih0 _ _ _ _ _ _
      | exact spec_l2Sign.mono _ _
      | exact LeO.none _
      | refine LeO.ite ?_ ?_
      | refine LeO.bind ?_ (fun _ => ?_)
set_option maxHeartbeats 8000000 in
set_option maxRecDepth 100000 in
theorem spec_l5Order.calls (k : Nat) (a0 : Int) (a1 : Int) (a2 : Int) (r : Int) (w : World) (h : spec_l5Order.f k a0 a1 a2 = some r) :
    Calls Tryd.prog 39 #[.int .i64 a0, .int .u64 a1, .int .u64 a2] w fun e w' => e = .returned (.int .i64 r) ∧ Drawn0 w w' := by
  have H : ((spec_l2Sign.f k a0).bind fun t186 => (if t186 = 0 then (none) else ((spec_l2Sign.f k a0).bind fun t187 => (if t187 = 0 then (none) else (if (Int.tmod a1 t186) = 0 then (spec_l5Order.j0 k a0 a1 a2 (Int.tmod a1 t186) (Int.tmod a2 t187) ((Int.tmod a2 t187) == 0)) else (spec_l5Order.j0 k a0 a1 a2 (Int.tmod a1 t186) (Int.tmod a2 t187) false)))))) = some r := h
  clear h
  replace H := Option.bind_eq_some_iff.mp H
  obtain ⟨t186, A40, H⟩ := H
  replace H : (if t186 = 0 then (none) else ((spec_l2Sign.f k a0).bind fun t187 => (if t187 = 0 then (none) else (if (Int.tmod a1 t186) = 0 then (spec_l5Order.j0 k a0 a1 a2 (Int.tmod a1 t186) (Int.tmod a2 t187) ((Int.tmod a2 t187) == 0)) else (spec_l5Order.j0 k a0 a1 a2 (Int.tmod a1 t186) (Int.tmod a2 t187) false))))) = some r := H
  have A4 := Aside0.mk A40
  clear A40
  by_cases c5 : t186 = 0
  · rw [if_pos c5] at H
    exact absurd H (by simp)
  · rw [if_neg c5] at H
    have c5b0 : (t186 == 0) = false := beq_eq_false_iff_ne.mpr c5
    have c5b1 : (t186 != 0) = true := bne_iff_ne.mpr c5
    replace H := Option.bind_eq_some_iff.mp H
    obtain ⟨t187, A60, H⟩ := H
    replace H : (if t187 = 0 then (none) else (if (Int.tmod a1 t186) = 0 then (spec_l5Order.j0 k a0 a1 a2 (Int.tmod a1 t186) (Int.tmod a2 t187) ((Int.tmod a2 t187) == 0)) else (spec_l5Order.j0 k a0 a1 a2 (Int.tmod a1 t186) (Int.tmod a2 t187) false))) = some r := H
    have A6 := Aside0.mk A60
    clear A60
    by_cases c7 : t187 = 0
    · rw [if_pos c7] at H
      exact absurd H (by simp)
    · rw [if_neg c7] at H
      have c7b0 : (t187 == 0) = false := beq_eq_false_iff_ne.mpr c7
      have c7b1 : (t187 != 0) = true := bne_iff_ne.mpr c7
      have HC8 := Aside0.mk H
      clear H
      go_enter Tryd.func39, Tryd.ntmps39
      go_upto_region 3 with (first | ((with_reducible refine gate_callee (f := 24) rfl ?_); refine goesL_ (some 11) rfl rfl Tryd.func24 (by kernel_rfl) rfl #[.int .i64 a0] rfl (by (try simp only [List.map_toArray, List.map_cons, List.map_nil]); first | done | rfl | (simp only [List.length_drop, List.length_take]; rfl)) ?_; (with_reducible refine (spec_l2Sign.calls k a0 t186 _ A4.out).mono ?_); rintro e w' ⟨rfl, ⟨nd, rfl⟩⟩; refine ⟨_, rfl, ?_⟩) | ((with_reducible refine gate_callee (f := 24) rfl ?_); refine goesL_ (some 15) rfl rfl Tryd.func24 (by kernel_rfl) rfl #[.int .i64 a0] rfl (by (try simp only [List.map_toArray, List.map_cons, List.map_nil]); first | done | rfl | (simp only [List.length_drop, List.length_take]; rfl)) ?_; (with_reducible refine (spec_l2Sign.calls k a0 t187 _ A6.out).mono ?_); rintro e w' ⟨rfl, ⟨nd, rfl⟩⟩; refine ⟨_, rfl, ?_⟩))
      (try simp only [Act.put, List.setIfInBounds_toArray, List.set_cons_zero, List.set_cons_succ])
      go_cut [22] (fun v22 wc => ∃ (kq : Nat) (x22_7 : Bool), v22 = .bool x22_7 ∧ Aside0 (spec_l5Order.j0 kq a0 a1 a2 (Int.tmod a1 t186) (Int.tmod a2 t187) x22_7 = some r) ∧ Aside0 (kq ≤ k) ∧ Drawn0 w wc)
      case first =>
        have H := HC8.out
        clear HC8
        by_cases c9 : (Int.tmod a1 t186) = 0
        · rw [if_pos c9] at H
          have c9b0 : ((Int.tmod a1 t186) == 0) = true := beq_iff_eq.mpr c9
          have c9b1 : ((Int.tmod a1 t186) != 0) = false := bne_eq_false_iff_eq.mpr c9
          clear c9
          (first | rw [c9b0] | (simp only [i64_w, i32_w]; rw [c9b0]) | skip)
          have H' := Aside0.mk H
          clear H
          go_wp2
          go_meet
          case rel => exact ⟨_, (((Int.tmod a2 t187) == 0)), (by first | rfl | (simp; done) | (simp [*]; done)), H', ⟨by first | omega | exact Nat.le_refl _⟩, by repeat (first | exact Drawn0.refl _ | apply Drawn0.step)⟩
        · rw [if_neg c9] at H
          have c9b0 : ((Int.tmod a1 t186) == 0) = false := beq_eq_false_iff_ne.mpr c9
          have c9b1 : ((Int.tmod a1 t186) != 0) = true := bne_iff_ne.mpr c9
          (first | rw [c9b0] | (simp only [i64_w, i32_w]; rw [c9b0]) | skip)
          have H' := Aside0.mk H
          clear H
          go_wp2
          go_meet
          case rel => exact ⟨_, (false), (by first | rfl | (simp; done) | (simp [*]; done)), H', ⟨by first | omega | exact Nat.le_refl _⟩, by repeat (first | exact Drawn0.refl _ | apply Drawn0.step)⟩
      case rest =>
        clear HC8
        (try clear c2); (try clear p2); (try clear c3); (try clear c5); (try clear c5b0); (try clear c5b1); (try clear c7); (try clear c7b0); (try clear c7b1); (try clear c9); (try clear c9b0); (try clear c9b1)
        obtain ⟨kq, x22_7, rfl, HA, HJ7, ⟨mc7, rfl⟩⟩ := hcut
        cases kq with
        | zero => exact absurd HA.out (by simp [spec_l5Order.j0])
        | succ kj7 =>
          have H := HA.out
          clear HA
          simp only [spec_l5Order.j0] at H
          by_cases c10 : x22_7 = true
          · subst c10
            have H1 : (some 0) = some r := by rw [if_pos rfl] at H; exact H
            clear H
            have H := H1
            clear H1
            obtain rfl := Option.some.inj H
            go_wp2
            go_ret
            exact ⟨by first | rfl | (simp; done) | (simp [*]; done), by repeat (first | exact Drawn0.refl _ | apply Drawn0.step)⟩
          · replace c10 := Bool.eq_false_iff.mpr c10
            subst c10
            have H1 : ((spec_l2Sign.f kj7 a0).bind fun t188 => ((spec_l2Sign.f kj7 a0).bind fun t189 => (if ((decide (a1 ≥ t188)) != (decide (a2 ≥ t189))) = true then ((spec_l2Sign.f kj7 a0).bind fun t190 => (if a1 ≥ t190 then (some (-1)) else (some 1))) else (if (Int.tmod a1 t186) = (Int.tmod a2 t187) then (some 0) else ((spec_l2Sign.f kj7 a0).bind fun t191 => (if ((decide ((Int.tmod a1 t186) < (Int.tmod a2 t187))) == (decide (a1 < t191))) = true then (some (-1)) else (some 1))))))) = some r := by rw [if_neg (show ¬ (false = true) by decide)] at H; exact H
            clear H
            have H := H1
            clear H1
            replace H := Option.bind_eq_some_iff.mp H
            obtain ⟨t188, A110, H⟩ := H
            replace H : ((spec_l2Sign.f kj7 a0).bind fun t189 => (if ((decide (a1 ≥ t188)) != (decide (a2 ≥ t189))) = true then ((spec_l2Sign.f kj7 a0).bind fun t190 => (if a1 ≥ t190 then (some (-1)) else (some 1))) else (if (Int.tmod a1 t186) = (Int.tmod a2 t187) then (some 0) else ((spec_l2Sign.f kj7 a0).bind fun t191 => (if ((decide ((Int.tmod a1 t186) < (Int.tmod a2 t187))) == (decide (a1 < t191))) = true then (some (-1)) else (some 1)))))) = some r := H
            have A11 := Aside0.mk A110
            clear A110
            replace H := Option.bind_eq_some_iff.mp H
            obtain ⟨t189, A120, H⟩ := H
            replace H : (if ((decide (a1 ≥ t188)) != (decide (a2 ≥ t189))) = true then ((spec_l2Sign.f kj7 a0).bind fun t190 => (if a1 ≥ t190 then (some (-1)) else (some 1))) else (if (Int.tmod a1 t186) = (Int.tmod a2 t187) then (some 0) else ((spec_l2Sign.f kj7 a0).bind fun t191 => (if ((decide ((Int.tmod a1 t186) < (Int.tmod a2 t187))) == (decide (a1 < t191))) = true then (some (-1)) else (some 1))))) = some r := H
            have A12 := Aside0.mk A120
            clear A120
            by_cases c13 : ((decide (a1 ≥ t188)) != (decide (a2 ≥ t189))) = true
            · rw [if_pos c13] at H
              have c13b0 : ((decide (a1 ≥ t188)) != (decide (a2 ≥ t189))) = true := c13
              (try (have c13b1 : decide ((decide (a1 ≥ t188)) = (decide (a2 ≥ t189))) = false := by simpa using c13))
              (try (have c13b2 : ((decide (a1 ≥ t188)) == (decide (a2 ≥ t189))) = false := by simpa using c13))
              (try (have c13b3 : ¬ ((decide (a1 ≥ t188)) = (decide (a2 ≥ t189))) := by simpa using c13))
              clear c13
              replace H := Option.bind_eq_some_iff.mp H
              obtain ⟨t190, A140, H⟩ := H
              replace H : (if a1 ≥ t190 then (some (-1)) else (some 1)) = some r := H
              have A14 := Aside0.mk A140
              clear A140
              by_cases c15 : a1 ≥ t190
              · rw [if_pos c15] at H
                have c15b0 : decide (t190 ≤ a1) = true := decide_eq_true c15
                clear c15
                obtain rfl := Option.some.inj H
                go_wp2_with (first | ((with_reducible refine gate_callee (f := 24) rfl ?_); refine goesL_ (some 25) rfl rfl Tryd.func24 (by kernel_rfl) rfl #[.int .i64 a0] rfl (by (try simp only [List.map_toArray, List.map_cons, List.map_nil]); first | done | rfl | (simp only [List.length_drop, List.length_take]; rfl)) ?_; (with_reducible refine (spec_l2Sign.calls kj7 a0 t188 _ A11.out).mono ?_); rintro e w' ⟨rfl, ⟨nd, rfl⟩⟩; refine ⟨_, rfl, ?_⟩) | ((with_reducible refine gate_callee (f := 24) rfl ?_); refine goesL_ (some 29) rfl rfl Tryd.func24 (by kernel_rfl) rfl #[.int .i64 a0] rfl (by (try simp only [List.map_toArray, List.map_cons, List.map_nil]); first | done | rfl | (simp only [List.length_drop, List.length_take]; rfl)) ?_; (with_reducible refine (spec_l2Sign.calls kj7 a0 t189 _ A12.out).mono ?_); rintro e w' ⟨rfl, ⟨nd, rfl⟩⟩; refine ⟨_, rfl, ?_⟩) | ((with_reducible refine gate_callee (f := 24) rfl ?_); refine goesL_ (some 34) rfl rfl Tryd.func24 (by kernel_rfl) rfl #[.int .i64 a0] rfl (by (try simp only [List.map_toArray, List.map_cons, List.map_nil]); first | done | rfl | (simp only [List.length_drop, List.length_take]; rfl)) ?_; (with_reducible refine (spec_l2Sign.calls kj7 a0 t190 _ A14.out).mono ?_); rintro e w' ⟨rfl, ⟨nd, rfl⟩⟩; refine ⟨_, rfl, ?_⟩))
                go_ret
                exact ⟨by first | rfl | (simp; done) | (simp [*]; done), by repeat (first | exact Drawn0.refl _ | apply Drawn0.step)⟩
              · rw [if_neg c15] at H
                have c15b0 : decide (t190 ≤ a1) = false := decide_eq_false c15
                clear c15
                obtain rfl := Option.some.inj H
                go_wp2_with (first | ((with_reducible refine gate_callee (f := 24) rfl ?_); refine goesL_ (some 25) rfl rfl Tryd.func24 (by kernel_rfl) rfl #[.int .i64 a0] rfl (by (try simp only [List.map_toArray, List.map_cons, List.map_nil]); first | done | rfl | (simp only [List.length_drop, List.length_take]; rfl)) ?_; (with_reducible refine (spec_l2Sign.calls kj7 a0 t188 _ A11.out).mono ?_); rintro e w' ⟨rfl, ⟨nd, rfl⟩⟩; refine ⟨_, rfl, ?_⟩) | ((with_reducible refine gate_callee (f := 24) rfl ?_); refine goesL_ (some 29) rfl rfl Tryd.func24 (by kernel_rfl) rfl #[.int .i64 a0] rfl (by (try simp only [List.map_toArray, List.map_cons, List.map_nil]); first | done | rfl | (simp only [List.length_drop, List.length_take]; rfl)) ?_; (with_reducible refine (spec_l2Sign.calls kj7 a0 t189 _ A12.out).mono ?_); rintro e w' ⟨rfl, ⟨nd, rfl⟩⟩; refine ⟨_, rfl, ?_⟩) | ((with_reducible refine gate_callee (f := 24) rfl ?_); refine goesL_ (some 34) rfl rfl Tryd.func24 (by kernel_rfl) rfl #[.int .i64 a0] rfl (by (try simp only [List.map_toArray, List.map_cons, List.map_nil]); first | done | rfl | (simp only [List.length_drop, List.length_take]; rfl)) ?_; (with_reducible refine (spec_l2Sign.calls kj7 a0 t190 _ A14.out).mono ?_); rintro e w' ⟨rfl, ⟨nd, rfl⟩⟩; refine ⟨_, rfl, ?_⟩))
                go_ret
                exact ⟨by first | rfl | (simp; done) | (simp [*]; done), by repeat (first | exact Drawn0.refl _ | apply Drawn0.step)⟩
            · rw [if_neg c13] at H
              have c13b0 : ((decide (a1 ≥ t188)) != (decide (a2 ≥ t189))) = false := by simpa using c13
              (try (have c13b1 : decide ((decide (a1 ≥ t188)) = (decide (a2 ≥ t189))) = true := by simpa using c13))
              (try (have c13b2 : ((decide (a1 ≥ t188)) == (decide (a2 ≥ t189))) = true := by simpa using c13))
              clear c13
              by_cases c16 : (Int.tmod a1 t186) = (Int.tmod a2 t187)
              · rw [if_pos c16] at H
                have c16b0 : ((Int.tmod a1 t186) == (Int.tmod a2 t187)) = true := beq_iff_eq.mpr c16
                have c16b1 : ((Int.tmod a1 t186) != (Int.tmod a2 t187)) = false := bne_eq_false_iff_eq.mpr c16
                clear c16
                obtain rfl := Option.some.inj H
                go_wp2_with (first | ((with_reducible refine gate_callee (f := 24) rfl ?_); refine goesL_ (some 25) rfl rfl Tryd.func24 (by kernel_rfl) rfl #[.int .i64 a0] rfl (by (try simp only [List.map_toArray, List.map_cons, List.map_nil]); first | done | rfl | (simp only [List.length_drop, List.length_take]; rfl)) ?_; (with_reducible refine (spec_l2Sign.calls kj7 a0 t188 _ A11.out).mono ?_); rintro e w' ⟨rfl, ⟨nd, rfl⟩⟩; refine ⟨_, rfl, ?_⟩) | ((with_reducible refine gate_callee (f := 24) rfl ?_); refine goesL_ (some 29) rfl rfl Tryd.func24 (by kernel_rfl) rfl #[.int .i64 a0] rfl (by (try simp only [List.map_toArray, List.map_cons, List.map_nil]); first | done | rfl | (simp only [List.length_drop, List.length_take]; rfl)) ?_; (with_reducible refine (spec_l2Sign.calls kj7 a0 t189 _ A12.out).mono ?_); rintro e w' ⟨rfl, ⟨nd, rfl⟩⟩; refine ⟨_, rfl, ?_⟩))
                go_ret
                exact ⟨by first | rfl | (simp; done) | (simp [*]; done), by repeat (first | exact Drawn0.refl _ | apply Drawn0.step)⟩
              · rw [if_neg c16] at H
                have c16b0 : ((Int.tmod a1 t186) == (Int.tmod a2 t187)) = false := beq_eq_false_iff_ne.mpr c16
                have c16b1 : ((Int.tmod a1 t186) != (Int.tmod a2 t187)) = true := bne_iff_ne.mpr c16
                replace H := Option.bind_eq_some_iff.mp H
                obtain ⟨t191, A170, H⟩ := H
                replace H : (if ((decide ((Int.tmod a1 t186) < (Int.tmod a2 t187))) == (decide (a1 < t191))) = true then (some (-1)) else (some 1)) = some r := H
                have A17 := Aside0.mk A170
                clear A170
                by_cases c18 : ((decide ((Int.tmod a1 t186) < (Int.tmod a2 t187))) == (decide (a1 < t191))) = true
                · rw [if_pos c18] at H
                  have c18b0 : ((decide ((Int.tmod a1 t186) < (Int.tmod a2 t187))) == (decide (a1 < t191))) = true := c18
                  (try (have c18b1 : decide ((decide ((Int.tmod a1 t186) < (Int.tmod a2 t187))) = (decide (a1 < t191))) = true := by simpa using c18))
                  (try (have c18b2 : ((decide ((Int.tmod a1 t186) < (Int.tmod a2 t187))) == (decide (a1 < t191))) = true := by simpa using c18))
                  clear c18
                  obtain rfl := Option.some.inj H
                  go_wp2_with (first | ((with_reducible refine gate_callee (f := 24) rfl ?_); refine goesL_ (some 25) rfl rfl Tryd.func24 (by kernel_rfl) rfl #[.int .i64 a0] rfl (by (try simp only [List.map_toArray, List.map_cons, List.map_nil]); first | done | rfl | (simp only [List.length_drop, List.length_take]; rfl)) ?_; (with_reducible refine (spec_l2Sign.calls kj7 a0 t188 _ A11.out).mono ?_); rintro e w' ⟨rfl, ⟨nd, rfl⟩⟩; refine ⟨_, rfl, ?_⟩) | ((with_reducible refine gate_callee (f := 24) rfl ?_); refine goesL_ (some 29) rfl rfl Tryd.func24 (by kernel_rfl) rfl #[.int .i64 a0] rfl (by (try simp only [List.map_toArray, List.map_cons, List.map_nil]); first | done | rfl | (simp only [List.length_drop, List.length_take]; rfl)) ?_; (with_reducible refine (spec_l2Sign.calls kj7 a0 t189 _ A12.out).mono ?_); rintro e w' ⟨rfl, ⟨nd, rfl⟩⟩; refine ⟨_, rfl, ?_⟩) | ((with_reducible refine gate_callee (f := 24) rfl ?_); refine goesL_ (some 44) rfl rfl Tryd.func24 (by kernel_rfl) rfl #[.int .i64 a0] rfl (by (try simp only [List.map_toArray, List.map_cons, List.map_nil]); first | done | rfl | (simp only [List.length_drop, List.length_take]; rfl)) ?_; (with_reducible refine (spec_l2Sign.calls kj7 a0 t191 _ A17.out).mono ?_); rintro e w' ⟨rfl, ⟨nd, rfl⟩⟩; refine ⟨_, rfl, ?_⟩))
                  go_ret
                  exact ⟨by first | rfl | (simp; done) | (simp [*]; done), by repeat (first | exact Drawn0.refl _ | apply Drawn0.step)⟩
                · rw [if_neg c18] at H
                  have c18b0 : ((decide ((Int.tmod a1 t186) < (Int.tmod a2 t187))) == (decide (a1 < t191))) = false := by simpa using c18
                  (try (have c18b1 : decide ((decide ((Int.tmod a1 t186) < (Int.tmod a2 t187))) = (decide (a1 < t191))) = false := by simpa using c18))
                  (try (have c18b2 : ((decide ((Int.tmod a1 t186) < (Int.tmod a2 t187))) == (decide (a1 < t191))) = false := by simpa using c18))
                  (try (have c18b3 : ¬ ((decide ((Int.tmod a1 t186) < (Int.tmod a2 t187))) = (decide (a1 < t191))) := by simpa using c18))
                  clear c18
                  obtain rfl := Option.some.inj H
                  go_wp2_with (first | ((with_reducible refine gate_callee (f := 24) rfl ?_); refine goesL_ (some 25) rfl rfl Tryd.func24 (by kernel_rfl) rfl #[.int .i64 a0] rfl (by (try simp only [List.map_toArray, List.map_cons, List.map_nil]); first | done | rfl | (simp only [List.length_drop, List.length_take]; rfl)) ?_; (with_reducible refine (spec_l2Sign.calls kj7 a0 t188 _ A11.out).mono ?_); rintro e w' ⟨rfl, ⟨nd, rfl⟩⟩; refine ⟨_, rfl, ?_⟩) | ((with_reducible refine gate_callee (f := 24) rfl ?_); refine goesL_ (some 29) rfl rfl Tryd.func24 (by kernel_rfl) rfl #[.int .i64 a0] rfl (by (try simp only [List.map_toArray, List.map_cons, List.map_nil]); first | done | rfl | (simp only [List.length_drop, List.length_take]; rfl)) ?_; (with_reducible refine (spec_l2Sign.calls kj7 a0 t189 _ A12.out).mono ?_); rintro e w' ⟨rfl, ⟨nd, rfl⟩⟩; refine ⟨_, rfl, ?_⟩) | ((with_reducible refine gate_callee (f := 24) rfl ?_); refine goesL_ (some 44) rfl rfl Tryd.func24 (by kernel_rfl) rfl #[.int .i64 a0] rfl (by (try simp only [List.map_toArray, List.map_cons, List.map_nil]); first | done | rfl | (simp only [List.length_drop, List.length_take]; rfl)) ?_; (with_reducible refine (spec_l2Sign.calls kj7 a0 t191 _ A17.out).mono ?_); rintro e w' ⟨rfl, ⟨nd, rfl⟩⟩; refine ⟨_, rfl, ?_⟩))
                  go_ret
                  exact ⟨by first | rfl | (simp; done) | (simp [*]; done), by repeat (first | exact Drawn0.refl _ | apply Drawn0.step)⟩

/-! ### spec_Compare: function 14 -/
mutual
def spec_Compare.j0 : Nat → Int → Int → Int → Bool → Bool → Option (Int × Int)
  | 0, _, _, _, _, _ => none
  | k + 1, x0, x1, x2, x3, x21 => if x21 = true then (some (2, 1)) else ((spec_Unpack.f k x0 x1).bind fun bt194 => ((spec_Unpack.f k x0 x2).bind fun bt199 => ((spec_l3Quiet.f bt194.1 bt194.2.1 bt194.2.2.1 bt194.2.2.2).bind fun t204 => (if t204 = true then (spec_Compare.j1 k x0 x1 x2 x3 false bt194.1 bt194.2.1 bt194.2.2.1 bt194.2.2.2 bt199.1 bt199.2.1 bt199.2.2.1 bt199.2.2.2) else ((spec_l3Quiet.f bt199.1 bt199.2.1 bt199.2.2.1 bt199.2.2.2).bind fun t205 => (spec_Compare.j1 k x0 x1 x2 x3 (!t205) bt194.1 bt194.2.1 bt194.2.2.1 bt194.2.2.2 bt199.1 bt199.2.1 bt199.2.2.1 bt199.2.2.2))))))
def spec_Compare.j1 : Nat → Int → Int → Int → Bool → Bool → Int → Int → Int → Int → Int → Int → Int → Int → Option (Int × Int)
  | 0, _, _, _, _, _, _, _, _, _, _, _, _, _ => none
  | k + 1, x0, x1, x2, x3, x35, x199000, x199001, x199002, x199003, x204000, x204001, x204002, x204003 => if x35 = true then ((spec_l5Order.f k x0 x1 x2).bind fun t206 => (some (t206, 0))) else (if x3 = true then (some (2, 1)) else (if x199000 = 4 then (some (2, 1)) else (if x204000 = 4 then (some (2, 1)) else (some (2, 0)))))
end
def spec_Compare.f (k : Nat) (a0 : Int) (a1 : Int) (a2 : Int) (a3 : Bool) : Option (Int × Int) := (spec_l2Fits.f a0 a1).bind fun t192 => (if t192 = true then ((spec_l2Fits.f a0 a2).bind fun t193 => (spec_Compare.j0 k a0 a1 a2 a3 (!t193))) else (spec_Compare.j0 k a0 a1 a2 a3 true))
theorem spec_Compare.mono_l : ∀ k, (∀ y0 y1 y2 y3 y4, LeO (spec_Compare.j0 k y0 y1 y2 y3 y4) (spec_Compare.j0 (k + 1) y0 y1 y2 y3 y4)) ∧ (∀ y0 y1 y2 y3 y4 y5 y6 y7 y8 y9 y10 y11 y12, LeO (spec_Compare.j1 k y0 y1 y2 y3 y4 y5 y6 y7 y8 y9 y10 y11 y12) (spec_Compare.j1 (k + 1) y0 y1 y2 y3 y4 y5 y6 y7 y8 y9 y10 y11 y12))
  | 0 => ⟨fun _ _ _ _ _ r h => by simp [spec_Compare.j0] at h, fun _ _ _ _ _ _ _ _ _ _ _ _ _ r h => by simp [spec_Compare.j1] at h⟩
  | k + 1 => by
    obtain ⟨ih0, ih1⟩ := spec_Compare.mono_l k
    refine ⟨?_, ?_⟩
    · intro y0 y1 y2 y3 y4
      unfold spec_Compare.j0
      repeat' first
      | (with_reducible exact ih0 _ _ _ _ _)
      | (with_reducible exact ih1 _ _ _ _ _ _ _ _ _ _ _ _ _)
      | (with_reducible exact spec_Unpack.mono _ _ _)
      | (with_reducible exact spec_l5Order.mono _ _ _ _)
      | (with_reducible exact LeO.refl _)
      | (with_reducible exact LeO.none _)
      | (with_reducible refine LeO.ite ?_ ?_)
      | (with_reducible refine LeO.bind ?_ (fun _ => ?_))
      | exact ih0 _ _ _ _ _
      | exact ih1 _ _ _ _ _ _ _ _ _ _ _ _ _
      | exact spec_Unpack.mono _ _ _
      | exact spec_l5Order.mono _ _ _ _
      | exact LeO.none _
      | refine LeO.ite ?_ ?_
      | refine LeO.bind ?_ (fun _ => ?_)
    · intro y0 y1 y2 y3 y4 y5 y6 y7 y8 y9 y10 y11 y12
      unfold spec_Compare.j1
      repeat' first
      | (with_reducible exact ih0 _ _ _ _ _)
      | (with_reducible exact ih1 _ _ _ _ _ _ _ _ _ _ _ _ _)
      | (with_reducible exact spec_Unpack.mono _ _ _)
      | (with_reducible exact spec_l5Order.mono _ _ _ _)
      | (with_reducible exact LeO.refl _)
      | (with_reducible exact LeO.none _)
      | (with_reducible refine LeO.ite ?_ ?_)
      | (with_reducible refine LeO.bind ?_ (fun _ => ?_))
      | exact ih0 _ _ _ _ _
      | exact ih1 _ _ _ _ _ _ _ _ _ _ _ _ _
      | exact spec_Unpack.mono _ _ _
      | exact spec_l5Order.mono _ _ _ _
      | exact LeO.none _
      | refine LeO.ite ?_ ?_
      | refine LeO.bind ?_ (fun _ => ?_)
theorem spec_Compare.mono : ∀ a0 a1 a2 a3 k, LeO (spec_Compare.f k a0 a1 a2 a3) (spec_Compare.f (k + 1) a0 a1 a2 a3) := by
  intro a0 a1 a2 a3 k
  obtain ⟨ih0, ih1⟩ := spec_Compare.mono_l k
  unfold spec_Compare.f
  repeat' first
      | (with_reducible exact ih0 _ _ _ _ _)
      | (with_reducible exact ih1 _ _ _ _ _ _ _ _ _ _ _ _ _)
      | (with_reducible exact spec_Unpack.mono _ _ _)
      | (with_reducible exact spec_l5Order.mono _ _ _ _)
      | (with_reducible exact LeO.refl _)
      | (with_reducible exact LeO.none _)
      | (with_reducible refine LeO.ite ?_ ?_)
      | (with_reducible refine LeO.bind ?_ (fun _ => ?_))
      | exact ih0 _ _ _ _ _
      | exact ih1 _ _ _ _ _ _ _ _ _ _ _ _ _
      | exact spec_Unpack.mono _ _ _
      | exact spec_l5Order.mono _ _ _ _
      | exact LeO.none _
      | refine LeO.ite ?_ ?_
      | refine LeO.bind ?_ (fun _ => ?_)
set_option maxHeartbeats 8000000 in
set_option maxRecDepth 100000 in
theorem spec_Compare.calls (k : Nat) (a0 : Int) (a1 : Int) (a2 : Int) (a3 : Bool) (r1 : Int) (r2 : Int) (w : World) (h : spec_Compare.f k a0 a1 a2 a3 = some (r1, r2)) :
    Calls Tryd.prog 14 #[.int .i64 a0, .int .u64 a1, .int .u64 a2, .bool a3] w fun e w' => e = .returned (.tuple #[.int .i64 r1, .int .i64 r2]) ∧ Below w.heap.size w w' := by
  have hu24 := Tryd.underlying24
  have HB := Aside0.mk (Below.refl w.heap.size w)
  have H : ((spec_l2Fits.f a0 a1).bind fun t192 => (if t192 = true then ((spec_l2Fits.f a0 a2).bind fun t193 => (spec_Compare.j0 k a0 a1 a2 a3 (!t193))) else (spec_Compare.j0 k a0 a1 a2 a3 true))) = some (r1, r2) := h
  clear h
  have HC5 := Aside0.mk H
  clear H
  go_enter Tryd.func14, Tryd.ntmps14
  go_upto_region 1 with (fail)
  go_cut [21] (fun v21 wc => ∃ (kq : Nat) (x21_4 : Bool), v21 = .bool x21_4 ∧ Aside0 (spec_Compare.j0 kq a0 a1 a2 a3 x21_4 = some (r1, r2)) ∧ Aside0 (kq ≤ k) ∧ Aside0 (Below w.heap.size w wc))
  case first =>
    have H := HC5.out
    clear HC5
    replace H := Option.bind_eq_some_iff.mp H
    obtain ⟨t192, A60, H⟩ := H
    replace H : (if t192 = true then ((spec_l2Fits.f a0 a2).bind fun t193 => (spec_Compare.j0 k a0 a1 a2 a3 (!t193))) else (spec_Compare.j0 k a0 a1 a2 a3 true)) = some (r1, r2) := H
    have A6 := Aside0.mk A60
    clear A60
    by_cases c7 : t192 = true
    · subst c7
      have H1 : ((spec_l2Fits.f a0 a2).bind fun t193 => (spec_Compare.j0 k a0 a1 a2 a3 (!t193))) = some (r1, r2) := by rw [if_pos rfl] at H; exact H
      clear H
      have H := H1
      clear H1
      replace H := Option.bind_eq_some_iff.mp H
      obtain ⟨t193, A80, H⟩ := H
      replace H : (spec_Compare.j0 k a0 a1 a2 a3 (!t193)) = some (r1, r2) := H
      have A8 := Aside0.mk A80
      clear A80
      have H' := Aside0.mk H
      clear H
      go_wp2_with (first | ((with_reducible refine gate_callee (f := 23) rfl ?_); refine goesL_ (some 14) rfl rfl Tryd.func23 (by kernel_rfl) rfl #[.int .i64 a0, .int .u64 a1] rfl (by (try simp only [List.map_toArray, List.map_cons, List.map_nil]); first | done | rfl | (simp only [List.length_drop, List.length_take]; rfl)) ?_; (with_reducible refine (spec_l2Fits.calls a0 a1 true _ A6.out).mono ?_); rintro e w' ⟨rfl, ⟨nd, rfl⟩⟩; refine ⟨_, rfl, ?_⟩) | (go_at_call 23; (with_reducible refine (spec_l2Fits.calls a0 a2 t193 _ A8.out).mono ?_); rintro e w' ⟨rfl, ⟨nd, rfl⟩⟩))
      go_meet
      case rel => exact ⟨_, (!t193), (by first | rfl | (simp; done) | (simp [*]; done)), H', ⟨by first | omega | exact Nat.le_refl _⟩, ⟨zb⟩⟩
    · replace c7 := Bool.eq_false_iff.mpr c7
      subst c7
      have H1 : (spec_Compare.j0 k a0 a1 a2 a3 true) = some (r1, r2) := by rw [if_neg (show ¬ (false = true) by decide)] at H; exact H
      clear H
      have H := H1
      clear H1
      have H' := Aside0.mk H
      clear H
      go_wp2_with (first | ((with_reducible refine gate_callee (f := 23) rfl ?_); refine goesL_ (some 14) rfl rfl Tryd.func23 (by kernel_rfl) rfl #[.int .i64 a0, .int .u64 a1] rfl (by (try simp only [List.map_toArray, List.map_cons, List.map_nil]); first | done | rfl | (simp only [List.length_drop, List.length_take]; rfl)) ?_; (with_reducible refine (spec_l2Fits.calls a0 a1 false _ A6.out).mono ?_); rintro e w' ⟨rfl, ⟨nd, rfl⟩⟩; refine ⟨_, rfl, ?_⟩))
      go_meet
      case rel => exact ⟨_, (true), (by first | rfl | (simp; done) | (simp [*]; done)), H', ⟨by first | omega | exact Nat.le_refl _⟩, ⟨zb⟩⟩
  case rest =>
    clear HC5
    (try clear c1); (try clear c2); (try clear p2); (try clear c7)
    obtain ⟨kq, x21_4, rfl, HA, HJ4, HB⟩ := hcut
    cases kq with
    | zero => exact absurd HA.out (by simp [spec_Compare.j0])
    | succ kj4 =>
      have H := HA.out
      clear HA
      simp only [spec_Compare.j0] at H
      by_cases c9 : x21_4 = true
      · subst c9
        have H1 : (some (2, 1)) = some (r1, r2) := by rw [if_pos rfl] at H; exact H
        clear H
        have H := H1
        clear H1
        simp only [Option.some.injEq, Prod.mk.injEq] at H
        obtain ⟨rfl, rfl⟩ := H
        go_wp2
        go_ret2
        exact ⟨by first | rfl | (simp [errW_none, errW_some] <;> rfl) | (simp [*, errW_none, errW_some] <;> rfl), zb⟩
      · replace c9 := Bool.eq_false_iff.mpr c9
        subst c9
        have H1 : ((spec_Unpack.f kj4 a0 a1).bind fun bt194 => ((spec_Unpack.f kj4 a0 a2).bind fun bt199 => ((spec_l3Quiet.f bt194.1 bt194.2.1 bt194.2.2.1 bt194.2.2.2).bind fun t204 => (if t204 = true then (spec_Compare.j1 kj4 a0 a1 a2 a3 false bt194.1 bt194.2.1 bt194.2.2.1 bt194.2.2.2 bt199.1 bt199.2.1 bt199.2.2.1 bt199.2.2.2) else ((spec_l3Quiet.f bt199.1 bt199.2.1 bt199.2.2.1 bt199.2.2.2).bind fun t205 => (spec_Compare.j1 kj4 a0 a1 a2 a3 (!t205) bt194.1 bt194.2.1 bt194.2.2.1 bt194.2.2.2 bt199.1 bt199.2.1 bt199.2.2.1 bt199.2.2.2)))))) = some (r1, r2) := by rw [if_neg (show ¬ (false = true) by decide)] at H; exact H
        clear H
        have H := H1
        clear H1
        replace H := Option.bind_eq_some_iff.mp H
        obtain ⟨⟨t194, t195, t196, t197⟩, A100, H⟩ := H
        replace H : ((spec_Unpack.f kj4 a0 a2).bind fun bt199 => ((spec_l3Quiet.f t194 t195 t196 t197).bind fun t204 => (if t204 = true then (spec_Compare.j1 kj4 a0 a1 a2 a3 false t194 t195 t196 t197 bt199.1 bt199.2.1 bt199.2.2.1 bt199.2.2.2) else ((spec_l3Quiet.f bt199.1 bt199.2.1 bt199.2.2.1 bt199.2.2.2).bind fun t205 => (spec_Compare.j1 kj4 a0 a1 a2 a3 (!t205) t194 t195 t196 t197 bt199.1 bt199.2.1 bt199.2.2.1 bt199.2.2.2))))) = some (r1, r2) := H
        have A10 := Aside0.mk A100
        clear A100
        replace H := Option.bind_eq_some_iff.mp H
        obtain ⟨⟨t199, t200, t201, t202⟩, A110, H⟩ := H
        replace H : ((spec_l3Quiet.f t194 t195 t196 t197).bind fun t204 => (if t204 = true then (spec_Compare.j1 kj4 a0 a1 a2 a3 false t194 t195 t196 t197 t199 t200 t201 t202) else ((spec_l3Quiet.f t199 t200 t201 t202).bind fun t205 => (spec_Compare.j1 kj4 a0 a1 a2 a3 (!t205) t194 t195 t196 t197 t199 t200 t201 t202)))) = some (r1, r2) := H
        have A11 := Aside0.mk A110
        clear A110
        have HC12 := Aside0.mk H
        clear H
        go_upto_region 5 with (first | ((with_reducible refine gate_callee (f := 9) rfl ?_); refine goesL_ (some 24) rfl rfl Tryd.func9 (by kernel_rfl) rfl #[.int .i64 a0, .int .u64 a1] rfl (by (try simp only [List.map_toArray, List.map_cons, List.map_nil]); first | done | rfl | (simp only [List.length_drop, List.length_take]; rfl)) ?_; (with_reducible refine (spec_Unpack.calls kj4 a0 a1 t194 t195 t196 t197 _ A10.out).mono ?_); rintro e w13 ⟨rfl, hb⟩; refine ⟨_, rfl, ?_⟩; have n0_ := Aside0.mk (below_step zb hb); clear HB; have HB := n0_; clear n0_; (try clear hb); (try clear hb2); (try clear hk); (try clear hi)) | ((with_reducible refine gate_dst (N := 10) rfl ?_); refine box_event ?hg (N := 10) ?hd (cs := #[.int .i64 0, .int .i64 0, .int .i64 0, .int .u64 0]) (t := 24) ?hr ?_; (case hd => rfl); (case hg => rfl); (case hr => first | (go_simp; done) | (go_simp; rfl)); intro gb198 hg w14 hbox hb; have n0_ := Aside0.mk (below_step zb hb); have n1_ := Aside0.mk (hbox); have n2_ := zs w hg; have n3_ := zs w hg; clear HB; have HB := n0_; have BK198 := n1_; have GW198 := n2_; have GE198 := n3_; clear n0_ n1_ n2_ n3_ hb hbox hg; have hcz15_0 : w14.cell? ⟨gb198, 0, none⟩ = some (.int .i64 0) := (blk_cell BK198.out 0).trans rfl; have hcz15_1 : w14.cell? ⟨gb198, 1, none⟩ = some (.int .i64 0) := (blk_cell BK198.out 1).trans rfl; have hcz15_2 : w14.cell? ⟨gb198, 2, none⟩ = some (.int .i64 0) := (blk_cell BK198.out 2).trans rfl; have hcz15_3 : w14.cell? ⟨gb198, 3, none⟩ = some (.int .u64 0) := (blk_cell BK198.out 3).trans rfl; have hfz15_0 := blk_frozen BK198.out 0; have hfz15_1 := blk_frozen BK198.out 1; have hfz15_2 := blk_frozen BK198.out 2; have hfz15_3 := blk_frozen BK198.out 3) | ((with_reducible refine gate_callee (f := 9) rfl ?_); refine goesL_ (some 27) rfl rfl Tryd.func9 (by kernel_rfl) rfl #[.int .i64 a0, .int .u64 a2] rfl (by (try simp only [List.map_toArray, List.map_cons, List.map_nil]); first | done | rfl | (simp only [List.length_drop, List.length_take]; rfl)) ?_; (with_reducible refine (spec_Unpack.calls kj4 a0 a2 t199 t200 t201 t202 _ A11.out).mono ?_); rintro e w16 ⟨rfl, hb⟩; refine ⟨_, rfl, ?_⟩; have n0_ := Aside0.mk (blk_below (g := gb198) (o := .cells #[.int .i64 t194, .int .i64 t195, .int .i64 t196, .int .u64 t197] 24 (0, 0)) (by (with_reducible repeat (first | refine blk_drewN ?_ _ | refine blk_drew ?_ | refine blk_alloc ?_ _)); refine blk_put (cs := #[.int .i64 t194, .int .i64 t195, .int .i64 t196, .int .u64 0]) ?_ 3 _ rfl; (with_reducible repeat (first | refine blk_drewN ?_ _ | refine blk_drew ?_ | refine blk_alloc ?_ _)); refine blk_put (cs := #[.int .i64 t194, .int .i64 t195, .int .i64 0, .int .u64 0]) ?_ 2 _ rfl; (with_reducible repeat (first | refine blk_drewN ?_ _ | refine blk_drew ?_ | refine blk_alloc ?_ _)); refine blk_put (cs := #[.int .i64 t194, .int .i64 0, .int .i64 0, .int .u64 0]) ?_ 1 _ rfl; (with_reducible repeat (first | refine blk_drewN ?_ _ | refine blk_drew ?_ | refine blk_alloc ?_ _)); refine blk_put (cs := #[.int .i64 0, .int .i64 0, .int .i64 0, .int .u64 0]) ?_ 0 _ rfl; (with_reducible repeat (first | refine blk_drewN ?_ _ | refine blk_drew ?_ | refine blk_alloc ?_ _)); exact BK198.out) hb); have n1_ := Aside0.mk (below_step zb hb); clear BK198 HB; have BK198 := n0_; have HB := n1_; clear n0_ n1_; (try clear hb); (try clear hb2); (try clear hk); (try clear hi)) | ((with_reducible refine gate_dst (N := 11) rfl ?_); refine box_event ?hg (N := 11) ?hd (cs := #[.int .i64 0, .int .i64 0, .int .i64 0, .int .u64 0]) (t := 24) ?hr ?_; (case hd => rfl); (case hg => rfl); (case hr => first | (go_simp; done) | (go_simp; rfl)); intro gb203 hg w17 hbox hb; have n0_ := za BK198 hb; have n1_ := Aside0.mk (below_step zb hb); have n2_ := Aside0.mk (hbox); have n3_ := zs w hg; have n4_ := zs w hg; have n5_ := zl BK198 hg; have n6_ := zg BK198 hg; clear BK198 HB; have BK198 := n0_; have HB := n1_; have BK203 := n2_; have GW203 := n3_; have GE203 := n4_; have NB198_203 := n5_; have NB203_198 := n6_; clear n0_ n1_ n2_ n3_ n4_ n5_ n6_ hb hbox hg; have hnb18 := NB203_198.out; have hnc18 := NB198_203.out; have hcz19_0 : w17.cell? ⟨gb203, 0, none⟩ = some (.int .i64 0) := (blk_cell BK203.out 0).trans rfl; have hcz19_1 : w17.cell? ⟨gb203, 1, none⟩ = some (.int .i64 0) := (blk_cell BK203.out 1).trans rfl; have hcz19_2 : w17.cell? ⟨gb203, 2, none⟩ = some (.int .i64 0) := (blk_cell BK203.out 2).trans rfl; have hcz19_3 : w17.cell? ⟨gb203, 3, none⟩ = some (.int .u64 0) := (blk_cell BK203.out 3).trans rfl; have hfz19_0 := blk_frozen BK203.out 0; have hfz19_1 := blk_frozen BK203.out 1; have hfz19_2 := blk_frozen BK203.out 2; have hfz19_3 := blk_frozen BK203.out 3))
        (try simp only [Act.put, List.setIfInBounds_toArray, List.set_cons_zero, List.set_cons_succ])
        go_cut [35] (fun v35 wc => ∃ (kq : Nat) (x35_11 : Bool), v35 = .bool x35_11 ∧ Aside0 (spec_Compare.j1 kq a0 a1 a2 a3 x35_11 t194 t195 t196 t197 t199 t200 t201 t202 = some (r1, r2)) ∧ Aside0 (kq ≤ kj4) ∧ Aside0 (wc.heap[gb198]? = some (.cells #[.int .i64 t194, .int .i64 t195, .int .i64 t196, .int .u64 t197] 24 (0, 0))) ∧ Aside0 (wc.heap[gb203]? = some (.cells #[.int .i64 t199, .int .i64 t200, .int .i64 t201, .int .u64 t202] 24 (0, 0))) ∧ Aside0 (Below w.heap.size w wc))
        case first =>
          have H := HC12.out
          clear HC12
          replace H := Option.bind_eq_some_iff.mp H
          obtain ⟨t204, A200, H⟩ := H
          replace H : (if t204 = true then (spec_Compare.j1 kj4 a0 a1 a2 a3 false t194 t195 t196 t197 t199 t200 t201 t202) else ((spec_l3Quiet.f t199 t200 t201 t202).bind fun t205 => (spec_Compare.j1 kj4 a0 a1 a2 a3 (!t205) t194 t195 t196 t197 t199 t200 t201 t202))) = some (r1, r2) := H
          have A20 := Aside0.mk A200
          clear A200
          by_cases c21 : t204 = true
          · subst c21
            have H1 : (spec_Compare.j1 kj4 a0 a1 a2 a3 false t194 t195 t196 t197 t199 t200 t201 t202) = some (r1, r2) := by rw [if_pos rfl] at H; exact H
            clear H
            have H := H1
            clear H1
            have H' := Aside0.mk H
            clear H
            have hnb22 := NB198_203.out
            have hnc22 := NB203_198.out
            have hcz23_0 : w17.cell? ⟨gb198, 0, none⟩ = some (.int .i64 t194) := (blk_cell BK198.out 0).trans rfl
            have hcz23_1 : w17.cell? ⟨gb198, 1, none⟩ = some (.int .i64 t195) := (blk_cell BK198.out 1).trans rfl
            have hcz23_2 : w17.cell? ⟨gb198, 2, none⟩ = some (.int .i64 t196) := (blk_cell BK198.out 2).trans rfl
            have hcz23_3 : w17.cell? ⟨gb198, 3, none⟩ = some (.int .u64 t197) := (blk_cell BK198.out 3).trans rfl
            have hfz23_0 := blk_frozen BK198.out 0
            have hfz23_1 := blk_frozen BK198.out 1
            have hfz23_2 := blk_frozen BK198.out 2
            have hfz23_3 := blk_frozen BK198.out 3
            go_wp2_with (first | ((with_reducible refine gate_callee (f := 38) rfl ?_); refine goesL_ (some 29) rfl rfl Tryd.func38 (by kernel_rfl) rfl #[.agg #[.int .i64 t194, .int .i64 t195, .int .i64 t196, .int .u64 t197]] rfl (by (try simp only [List.map_toArray, List.map_cons, List.map_nil]); first | done | rfl | (simp only [List.length_drop, List.length_take]; rfl)) ?_; (with_reducible refine (spec_l3Quiet.calls t194 t195 t196 t197 true _ A20.out).mono ?_); rintro e w24 ⟨rfl, hb⟩; refine ⟨_, rfl, ?_⟩; have n0_ := Aside0.mk (blk_below (g := gb198) (o := .cells #[.int .i64 t194, .int .i64 t195, .int .i64 t196, .int .u64 t197] 24 (0, 0)) (by (with_reducible repeat (first | refine blk_drewN ?_ _ | refine blk_drew ?_ | refine blk_alloc ?_ _)); refine blk_far ?_ NB198_203.out _; (with_reducible repeat (first | refine blk_drewN ?_ _ | refine blk_drew ?_ | refine blk_alloc ?_ _)); refine blk_far ?_ NB198_203.out _; (with_reducible repeat (first | refine blk_drewN ?_ _ | refine blk_drew ?_ | refine blk_alloc ?_ _)); refine blk_far ?_ NB198_203.out _; (with_reducible repeat (first | refine blk_drewN ?_ _ | refine blk_drew ?_ | refine blk_alloc ?_ _)); refine blk_far ?_ NB198_203.out _; (with_reducible repeat (first | refine blk_drewN ?_ _ | refine blk_drew ?_ | refine blk_alloc ?_ _)); exact BK198.out) hb); have n1_ := Aside0.mk (blk_below (g := gb203) (o := .cells #[.int .i64 t199, .int .i64 t200, .int .i64 t201, .int .u64 t202] 24 (0, 0)) (by (with_reducible repeat (first | refine blk_drewN ?_ _ | refine blk_drew ?_ | refine blk_alloc ?_ _)); refine blk_put (cs := #[.int .i64 t199, .int .i64 t200, .int .i64 t201, .int .u64 0]) ?_ 3 _ rfl; (with_reducible repeat (first | refine blk_drewN ?_ _ | refine blk_drew ?_ | refine blk_alloc ?_ _)); refine blk_put (cs := #[.int .i64 t199, .int .i64 t200, .int .i64 0, .int .u64 0]) ?_ 2 _ rfl; (with_reducible repeat (first | refine blk_drewN ?_ _ | refine blk_drew ?_ | refine blk_alloc ?_ _)); refine blk_put (cs := #[.int .i64 t199, .int .i64 0, .int .i64 0, .int .u64 0]) ?_ 1 _ rfl; (with_reducible repeat (first | refine blk_drewN ?_ _ | refine blk_drew ?_ | refine blk_alloc ?_ _)); refine blk_put (cs := #[.int .i64 0, .int .i64 0, .int .i64 0, .int .u64 0]) ?_ 0 _ rfl; (with_reducible repeat (first | refine blk_drewN ?_ _ | refine blk_drew ?_ | refine blk_alloc ?_ _)); exact BK203.out) hb); have n2_ := Aside0.mk (below_step zb hb); clear BK198 BK203 HB; have BK198 := n0_; have BK203 := n1_; have HB := n2_; clear n0_ n1_ n2_; (try clear hb); (try clear hb2); (try clear hk); (try clear hi)))
            go_meet
            case rel => exact ⟨_, (false), (by first | rfl | (simp; done) | (simp [*]; done)), H', ⟨by have := HJ4.out; first | omega | exact Nat.le_refl _⟩, ⟨zk⟩, ⟨zk⟩, ⟨zb⟩⟩
          · replace c21 := Bool.eq_false_iff.mpr c21
            subst c21
            have H1 : ((spec_l3Quiet.f t199 t200 t201 t202).bind fun t205 => (spec_Compare.j1 kj4 a0 a1 a2 a3 (!t205) t194 t195 t196 t197 t199 t200 t201 t202)) = some (r1, r2) := by rw [if_neg (show ¬ (false = true) by decide)] at H; exact H
            clear H
            have H := H1
            clear H1
            replace H := Option.bind_eq_some_iff.mp H
            obtain ⟨t205, A250, H⟩ := H
            replace H : (spec_Compare.j1 kj4 a0 a1 a2 a3 (!t205) t194 t195 t196 t197 t199 t200 t201 t202) = some (r1, r2) := H
            have A25 := Aside0.mk A250
            clear A250
            have H' := Aside0.mk H
            clear H
            have hnb26 := NB198_203.out
            have hnc26 := NB203_198.out
            have hcz27_0 : w17.cell? ⟨gb198, 0, none⟩ = some (.int .i64 t194) := (blk_cell BK198.out 0).trans rfl
            have hcz27_1 : w17.cell? ⟨gb198, 1, none⟩ = some (.int .i64 t195) := (blk_cell BK198.out 1).trans rfl
            have hcz27_2 : w17.cell? ⟨gb198, 2, none⟩ = some (.int .i64 t196) := (blk_cell BK198.out 2).trans rfl
            have hcz27_3 : w17.cell? ⟨gb198, 3, none⟩ = some (.int .u64 t197) := (blk_cell BK198.out 3).trans rfl
            have hfz27_0 := blk_frozen BK198.out 0
            have hfz27_1 := blk_frozen BK198.out 1
            have hfz27_2 := blk_frozen BK198.out 2
            have hfz27_3 := blk_frozen BK198.out 3
            go_wp2_with (first | ((with_reducible refine gate_callee (f := 38) rfl ?_); refine goesL_ (some 29) rfl rfl Tryd.func38 (by kernel_rfl) rfl #[.agg #[.int .i64 t194, .int .i64 t195, .int .i64 t196, .int .u64 t197]] rfl (by (try simp only [List.map_toArray, List.map_cons, List.map_nil]); first | done | rfl | (simp only [List.length_drop, List.length_take]; rfl)) ?_; (with_reducible refine (spec_l3Quiet.calls t194 t195 t196 t197 false _ A20.out).mono ?_); rintro e w28 ⟨rfl, hb⟩; refine ⟨_, rfl, ?_⟩; have n0_ := Aside0.mk (blk_below (g := gb198) (o := .cells #[.int .i64 t194, .int .i64 t195, .int .i64 t196, .int .u64 t197] 24 (0, 0)) (by (with_reducible repeat (first | refine blk_drewN ?_ _ | refine blk_drew ?_ | refine blk_alloc ?_ _)); refine blk_far ?_ NB198_203.out _; (with_reducible repeat (first | refine blk_drewN ?_ _ | refine blk_drew ?_ | refine blk_alloc ?_ _)); refine blk_far ?_ NB198_203.out _; (with_reducible repeat (first | refine blk_drewN ?_ _ | refine blk_drew ?_ | refine blk_alloc ?_ _)); refine blk_far ?_ NB198_203.out _; (with_reducible repeat (first | refine blk_drewN ?_ _ | refine blk_drew ?_ | refine blk_alloc ?_ _)); refine blk_far ?_ NB198_203.out _; (with_reducible repeat (first | refine blk_drewN ?_ _ | refine blk_drew ?_ | refine blk_alloc ?_ _)); exact BK198.out) hb); have n1_ := Aside0.mk (blk_below (g := gb203) (o := .cells #[.int .i64 t199, .int .i64 t200, .int .i64 t201, .int .u64 t202] 24 (0, 0)) (by (with_reducible repeat (first | refine blk_drewN ?_ _ | refine blk_drew ?_ | refine blk_alloc ?_ _)); refine blk_put (cs := #[.int .i64 t199, .int .i64 t200, .int .i64 t201, .int .u64 0]) ?_ 3 _ rfl; (with_reducible repeat (first | refine blk_drewN ?_ _ | refine blk_drew ?_ | refine blk_alloc ?_ _)); refine blk_put (cs := #[.int .i64 t199, .int .i64 t200, .int .i64 0, .int .u64 0]) ?_ 2 _ rfl; (with_reducible repeat (first | refine blk_drewN ?_ _ | refine blk_drew ?_ | refine blk_alloc ?_ _)); refine blk_put (cs := #[.int .i64 t199, .int .i64 0, .int .i64 0, .int .u64 0]) ?_ 1 _ rfl; (with_reducible repeat (first | refine blk_drewN ?_ _ | refine blk_drew ?_ | refine blk_alloc ?_ _)); refine blk_put (cs := #[.int .i64 0, .int .i64 0, .int .i64 0, .int .u64 0]) ?_ 0 _ rfl; (with_reducible repeat (first | refine blk_drewN ?_ _ | refine blk_drew ?_ | refine blk_alloc ?_ _)); exact BK203.out) hb); have n2_ := Aside0.mk (below_step zb hb); clear BK198 BK203 HB; have BK198 := n0_; have BK203 := n1_; have HB := n2_; clear n0_ n1_ n2_; (try clear hb); (try clear hb2); (try clear hk); (try clear hi); have hcz29_0 : w28.cell? ⟨gb203, 0, none⟩ = some (.int .i64 t199) := (blk_cell BK203.out 0).trans rfl; have hcz29_1 : w28.cell? ⟨gb203, 1, none⟩ = some (.int .i64 t200) := (blk_cell BK203.out 1).trans rfl; have hcz29_2 : w28.cell? ⟨gb203, 2, none⟩ = some (.int .i64 t201) := (blk_cell BK203.out 2).trans rfl; have hcz29_3 : w28.cell? ⟨gb203, 3, none⟩ = some (.int .u64 t202) := (blk_cell BK203.out 3).trans rfl; have hfz29_0 := blk_frozen BK203.out 0; have hfz29_1 := blk_frozen BK203.out 1; have hfz29_2 := blk_frozen BK203.out 2; have hfz29_3 := blk_frozen BK203.out 3) | (go_at_call 38; (with_reducible refine (spec_l3Quiet.calls t199 t200 t201 t202 t205 _ A25.out).mono ?_); rintro e w30 ⟨rfl, hb⟩; have n0_ := za BK198 hb; have n1_ := za BK203 hb; have n2_ := Aside0.mk (below_step zb hb); clear BK198 BK203 HB; have BK198 := n0_; have BK203 := n1_; have HB := n2_; clear n0_ n1_ n2_; (try clear hb); (try clear hb2); (try clear hk); (try clear hi)))
            go_meet
            case rel => exact ⟨_, (!t205), (by first | rfl | (simp; done) | (simp [*]; done)), H', ⟨by have := HJ4.out; first | omega | exact Nat.le_refl _⟩, ⟨zk⟩, ⟨zk⟩, ⟨zb⟩⟩
        case rest =>
          clear HC12
          (try clear c1); (try clear c2); (try clear p2); (try clear c3); (try clear c7); (try clear c9); (try clear c14); (try clear c18); (try clear c21); (try clear c22); (try clear c23); (try clear c26); (try clear hcz15_0); (try clear hcz15_1); (try clear hcz15_2); (try clear hcz15_3); (try clear hcz19_0); (try clear hcz19_1); (try clear hcz19_2); (try clear hcz19_3); (try clear hcz23_0); (try clear hcz23_1); (try clear hcz23_2); (try clear hcz23_3); (try clear hcz27_0); (try clear hcz27_1); (try clear hcz27_2); (try clear hcz27_3); (try clear hcz29_0); (try clear hcz29_1); (try clear hcz29_2); (try clear hcz29_3); (try clear hfz15_0); (try clear hfz15_1); (try clear hfz15_2); (try clear hfz15_3); (try clear hfz19_0); (try clear hfz19_1); (try clear hfz19_2); (try clear hfz19_3); (try clear hfz23_0); (try clear hfz23_1); (try clear hfz23_2); (try clear hfz23_3); (try clear hfz27_0); (try clear hfz27_1); (try clear hfz27_2); (try clear hfz27_3); (try clear hfz29_0); (try clear hfz29_1); (try clear hfz29_2); (try clear hfz29_3); (try clear p2)
          obtain ⟨kq, x35_11, rfl, HA, HJ11, BK198, BK203, HB⟩ := hcut
          cases kq with
          | zero => exact absurd HA.out (by simp [spec_Compare.j1])
          | succ kj11 =>
            have H := HA.out
            clear HA
            simp only [spec_Compare.j1] at H
            by_cases c31 : x35_11 = true
            · subst c31
              have H1 : ((spec_l5Order.f kj11 a0 a1 a2).bind fun t206 => (some (t206, 0))) = some (r1, r2) := by rw [if_pos rfl] at H; exact H
              clear H
              have H := H1
              clear H1
              replace H := Option.bind_eq_some_iff.mp H
              obtain ⟨t206, A320, H⟩ := H
              replace H : (some (t206, 0)) = some (r1, r2) := H
              have A32 := Aside0.mk A320
              clear A320
              simp only [Option.some.injEq, Prod.mk.injEq] at H
              obtain ⟨rfl, rfl⟩ := H
              go_wp2_with (first | ((with_reducible refine gate_callee (f := 39) rfl ?_); refine goesL_ (some 39) rfl rfl Tryd.func39 (by kernel_rfl) rfl #[.int .i64 a0, .int .u64 a1, .int .u64 a2] rfl (by (try simp only [List.map_toArray, List.map_cons, List.map_nil]); first | done | rfl | (simp only [List.length_drop, List.length_take]; rfl)) ?_; (with_reducible refine (spec_l5Order.calls kj11 a0 a1 a2 t206 _ A32.out).mono ?_); rintro e w' ⟨rfl, ⟨nd, rfl⟩⟩; refine ⟨_, rfl, ?_⟩))
              go_ret2
              exact ⟨by first | rfl | (simp [errW_none, errW_some] <;> rfl) | (simp [*, errW_none, errW_some] <;> rfl), zb⟩
            · replace c31 := Bool.eq_false_iff.mpr c31
              subst c31
              have H1 : (if a3 = true then (some (2, 1)) else (if t194 = 4 then (some (2, 1)) else (if t199 = 4 then (some (2, 1)) else (some (2, 0))))) = some (r1, r2) := by rw [if_neg (show ¬ (false = true) by decide)] at H; exact H
              clear H
              have H := H1
              clear H1
              by_cases c33 : a3 = true
              · subst c33
                have H1 : (some (2, 1)) = some (r1, r2) := by rw [if_pos rfl] at H; exact H
                clear H
                have H := H1
                clear H1
                simp only [Option.some.injEq, Prod.mk.injEq] at H
                obtain ⟨rfl, rfl⟩ := H
                go_wp2
                go_ret2
                exact ⟨by first | rfl | (simp [errW_none, errW_some] <;> rfl) | (simp [*, errW_none, errW_some] <;> rfl), zb⟩
              · replace c33 := Bool.eq_false_iff.mpr c33
                subst c33
                have H1 : (if t194 = 4 then (some (2, 1)) else (if t199 = 4 then (some (2, 1)) else (some (2, 0)))) = some (r1, r2) := by rw [if_neg (show ¬ (false = true) by decide)] at H; exact H
                clear H
                have H := H1
                clear H1
                by_cases c34 : t194 = 4
                · rw [if_pos c34] at H
                  have c34b0 : (t194 == 4) = true := beq_iff_eq.mpr c34
                  have c34b1 : (t194 != 4) = false := bne_eq_false_iff_eq.mpr c34
                  clear c34
                  simp only [Option.some.injEq, Prod.mk.injEq] at H
                  obtain ⟨rfl, rfl⟩ := H
                  have hnb35 := NB198_203.out
                  have hnc35 := NB203_198.out
                  have hcz36_0 : wc.cell? ⟨gb198, 0, none⟩ = some (.int .i64 t194) := (blk_cell BK198.out 0).trans rfl
                  have hcz36_1 : wc.cell? ⟨gb198, 1, none⟩ = some (.int .i64 t195) := (blk_cell BK198.out 1).trans rfl
                  have hcz36_2 : wc.cell? ⟨gb198, 2, none⟩ = some (.int .i64 t196) := (blk_cell BK198.out 2).trans rfl
                  have hcz36_3 : wc.cell? ⟨gb198, 3, none⟩ = some (.int .u64 t197) := (blk_cell BK198.out 3).trans rfl
                  have hfz36_0 := blk_frozen BK198.out 0
                  have hfz36_1 := blk_frozen BK198.out 1
                  have hfz36_2 := blk_frozen BK198.out 2
                  have hfz36_3 := blk_frozen BK198.out 3
                  go_wp2
                  go_ret2
                  exact ⟨by first | rfl | (simp [errW_none, errW_some] <;> rfl) | (simp [*, errW_none, errW_some] <;> rfl), zb⟩
                · rw [if_neg c34] at H
                  have c34b0 : (t194 == 4) = false := beq_eq_false_iff_ne.mpr c34
                  have c34b1 : (t194 != 4) = true := bne_iff_ne.mpr c34
                  by_cases c37 : t199 = 4
                  · rw [if_pos c37] at H
                    have c37b0 : (t199 == 4) = true := beq_iff_eq.mpr c37
                    have c37b1 : (t199 != 4) = false := bne_eq_false_iff_eq.mpr c37
                    clear c37
                    simp only [Option.some.injEq, Prod.mk.injEq] at H
                    obtain ⟨rfl, rfl⟩ := H
                    have hnb38 := NB198_203.out
                    have hnc38 := NB203_198.out
                    have hcz39_0 : wc.cell? ⟨gb198, 0, none⟩ = some (.int .i64 t194) := (blk_cell BK198.out 0).trans rfl
                    have hcz39_1 : wc.cell? ⟨gb198, 1, none⟩ = some (.int .i64 t195) := (blk_cell BK198.out 1).trans rfl
                    have hcz39_2 : wc.cell? ⟨gb198, 2, none⟩ = some (.int .i64 t196) := (blk_cell BK198.out 2).trans rfl
                    have hcz39_3 : wc.cell? ⟨gb198, 3, none⟩ = some (.int .u64 t197) := (blk_cell BK198.out 3).trans rfl
                    have hfz39_0 := blk_frozen BK198.out 0
                    have hfz39_1 := blk_frozen BK198.out 1
                    have hfz39_2 := blk_frozen BK198.out 2
                    have hfz39_3 := blk_frozen BK198.out 3
                    have hcz40_0 : wc.cell? ⟨gb203, 0, none⟩ = some (.int .i64 t199) := (blk_cell BK203.out 0).trans rfl
                    have hcz40_1 : wc.cell? ⟨gb203, 1, none⟩ = some (.int .i64 t200) := (blk_cell BK203.out 1).trans rfl
                    have hcz40_2 : wc.cell? ⟨gb203, 2, none⟩ = some (.int .i64 t201) := (blk_cell BK203.out 2).trans rfl
                    have hcz40_3 : wc.cell? ⟨gb203, 3, none⟩ = some (.int .u64 t202) := (blk_cell BK203.out 3).trans rfl
                    have hfz40_0 := blk_frozen BK203.out 0
                    have hfz40_1 := blk_frozen BK203.out 1
                    have hfz40_2 := blk_frozen BK203.out 2
                    have hfz40_3 := blk_frozen BK203.out 3
                    go_wp2
                    go_ret2
                    exact ⟨by first | rfl | (simp [errW_none, errW_some] <;> rfl) | (simp [*, errW_none, errW_some] <;> rfl), zb⟩
                  · rw [if_neg c37] at H
                    have c37b0 : (t199 == 4) = false := beq_eq_false_iff_ne.mpr c37
                    have c37b1 : (t199 != 4) = true := bne_iff_ne.mpr c37
                    simp only [Option.some.injEq, Prod.mk.injEq] at H
                    obtain ⟨rfl, rfl⟩ := H
                    have hnb41 := NB198_203.out
                    have hnc41 := NB203_198.out
                    have hcz42_0 : wc.cell? ⟨gb198, 0, none⟩ = some (.int .i64 t194) := (blk_cell BK198.out 0).trans rfl
                    have hcz42_1 : wc.cell? ⟨gb198, 1, none⟩ = some (.int .i64 t195) := (blk_cell BK198.out 1).trans rfl
                    have hcz42_2 : wc.cell? ⟨gb198, 2, none⟩ = some (.int .i64 t196) := (blk_cell BK198.out 2).trans rfl
                    have hcz42_3 : wc.cell? ⟨gb198, 3, none⟩ = some (.int .u64 t197) := (blk_cell BK198.out 3).trans rfl
                    have hfz42_0 := blk_frozen BK198.out 0
                    have hfz42_1 := blk_frozen BK198.out 1
                    have hfz42_2 := blk_frozen BK198.out 2
                    have hfz42_3 := blk_frozen BK198.out 3
                    have hcz43_0 : wc.cell? ⟨gb203, 0, none⟩ = some (.int .i64 t199) := (blk_cell BK203.out 0).trans rfl
                    have hcz43_1 : wc.cell? ⟨gb203, 1, none⟩ = some (.int .i64 t200) := (blk_cell BK203.out 1).trans rfl
                    have hcz43_2 : wc.cell? ⟨gb203, 2, none⟩ = some (.int .i64 t201) := (blk_cell BK203.out 2).trans rfl
                    have hcz43_3 : wc.cell? ⟨gb203, 3, none⟩ = some (.int .u64 t202) := (blk_cell BK203.out 3).trans rfl
                    have hfz43_0 := blk_frozen BK203.out 0
                    have hfz43_1 := blk_frozen BK203.out 1
                    have hfz43_2 := blk_frozen BK203.out 2
                    have hfz43_3 := blk_frozen BK203.out 3
                    go_wp2
                    go_ret2
                    exact ⟨by first | rfl | (simp [errW_none, errW_some] <;> rfl) | (simp [*, errW_none, errW_some] <;> rfl), zb⟩

/-! ### impl_isNaN: function 40 -/
def impl_isNaN.f (a0_0 : Int) (a0_1 : Int) (a0_2 : Int) (a0_3 : Int) : Option (Bool) := if a0_0 = 3 then (some true) else (some (a0_0 == 4))
set_option maxHeartbeats 8000000 in
set_option maxRecDepth 100000 in
theorem impl_isNaN.calls (a0_0 : Int) (a0_1 : Int) (a0_2 : Int) (a0_3 : Int) (r : Bool) (w : World) (h : impl_isNaN.f a0_0 a0_1 a0_2 a0_3 = some r) :
    Calls Tryd.prog 40 #[.agg #[.int .i64 a0_0, .int .i64 a0_1, .int .i64 a0_2, .int .u64 a0_3]] w fun e w' => e = .returned (.bool r) ∧ Below w.heap.size w w' := by
  have hu24 := Tryd.underlying24
  have HB := Aside0.mk (Below.refl w.heap.size w)
  have H : (if a0_0 = 3 then (some true) else (some (a0_0 == 4))) = some r := h
  clear h
  by_cases c2 : a0_0 = 3
  · rw [if_pos c2] at H
    have c2b0 : (a0_0 == 3) = true := beq_iff_eq.mpr c2
    have c2b1 : (a0_0 != 3) = false := bne_eq_false_iff_eq.mpr c2
    clear c2
    obtain rfl := Option.some.inj H
    go_enter Tryd.func40, Tryd.ntmps40
    go_wp2_with (first | ((with_reducible refine gate_dst (N := 1) rfl ?_); refine box_event ?hg (N := 1) ?hd (cs := #[.int .i64 a0_0, .int .i64 a0_1, .int .i64 a0_2, .int .u64 a0_3]) (t := 24) ?hr ?_; (case hd => rfl); (case hg => rfl); (case hr => first | (go_simp; done) | (go_simp; rfl)); intro gb207 hg w3 hbox hb; have n0_ := Aside0.mk (below_step zb hb); have n1_ := Aside0.mk (hbox); have n2_ := zs w hg; have n3_ := zs w hg; clear HB; have HB := n0_; have BK207 := n1_; have GW207 := n2_; have GE207 := n3_; clear n0_ n1_ n2_ n3_ hb hbox hg; have hcz4_0 : w3.cell? ⟨gb207, 0, none⟩ = some (.int .i64 a0_0) := (blk_cell BK207.out 0).trans rfl; have hcz4_1 : w3.cell? ⟨gb207, 1, none⟩ = some (.int .i64 a0_1) := (blk_cell BK207.out 1).trans rfl; have hcz4_2 : w3.cell? ⟨gb207, 2, none⟩ = some (.int .i64 a0_2) := (blk_cell BK207.out 2).trans rfl; have hcz4_3 : w3.cell? ⟨gb207, 3, none⟩ = some (.int .u64 a0_3) := (blk_cell BK207.out 3).trans rfl; have hfz4_0 := blk_frozen BK207.out 0; have hfz4_1 := blk_frozen BK207.out 1; have hfz4_2 := blk_frozen BK207.out 2; have hfz4_3 := blk_frozen BK207.out 3))
    go_ret
    exact ⟨by first | rfl | (simp [errW_none, errW_some] <;> rfl) | (simp [*, errW_none, errW_some] <;> rfl), zb⟩
  · rw [if_neg c2] at H
    have c2b0 : (a0_0 == 3) = false := beq_eq_false_iff_ne.mpr c2
    have c2b1 : (a0_0 != 3) = true := bne_iff_ne.mpr c2
    obtain rfl := Option.some.inj H
    go_enter Tryd.func40, Tryd.ntmps40
    go_wp2_with (first | ((with_reducible refine gate_dst (N := 1) rfl ?_); refine box_event ?hg (N := 1) ?hd (cs := #[.int .i64 a0_0, .int .i64 a0_1, .int .i64 a0_2, .int .u64 a0_3]) (t := 24) ?hr ?_; (case hd => rfl); (case hg => rfl); (case hr => first | (go_simp; done) | (go_simp; rfl)); intro gb207 hg w5 hbox hb; have n0_ := Aside0.mk (below_step zb hb); have n1_ := Aside0.mk (hbox); have n2_ := zs w hg; have n3_ := zs w hg; clear HB; have HB := n0_; have BK207 := n1_; have GW207 := n2_; have GE207 := n3_; clear n0_ n1_ n2_ n3_ hb hbox hg; have hcz6_0 : w5.cell? ⟨gb207, 0, none⟩ = some (.int .i64 a0_0) := (blk_cell BK207.out 0).trans rfl; have hcz6_1 : w5.cell? ⟨gb207, 1, none⟩ = some (.int .i64 a0_1) := (blk_cell BK207.out 1).trans rfl; have hcz6_2 : w5.cell? ⟨gb207, 2, none⟩ = some (.int .i64 a0_2) := (blk_cell BK207.out 2).trans rfl; have hcz6_3 : w5.cell? ⟨gb207, 3, none⟩ = some (.int .u64 a0_3) := (blk_cell BK207.out 3).trans rfl; have hfz6_0 := blk_frozen BK207.out 0; have hfz6_1 := blk_frozen BK207.out 1; have hfz6_2 := blk_frozen BK207.out 2; have hfz6_3 := blk_frozen BK207.out 3))
    go_ret
    exact ⟨by first | rfl | (simp [errW_none, errW_some] <;> rfl) | (simp [*, errW_none, errW_some] <;> rfl), zb⟩

/-! ### impl_format_zero: function 49 -/
def impl_format_zero.f (a0_0 : Int) (a0_1 : Int) (a0_2 : Int) (a1 : Int) : Option (Int) := (impl_format_width.f a0_0 a0_1 a0_2).bind fun t209 => (if 0 ≤ (wrap64 (t209 - 1)) then (some (shl .u64 (IntKind.u64.wrap (a1)) (wrap64 (t209 - 1)))) else (none))
set_option maxHeartbeats 8000000 in
set_option maxRecDepth 100000 in
theorem impl_format_zero.calls (a0_0 : Int) (a0_1 : Int) (a0_2 : Int) (a1 : Int) (r : Int) (w : World) (h : impl_format_zero.f a0_0 a0_1 a0_2 a1 = some r) :
    Calls Tryd.prog 49 #[.agg #[.int .i64 a0_0, .int .i64 a0_1, .int .i64 a0_2], .int .i64 a1] w fun e w' => e = .returned (.int .u64 r) ∧ Below w.heap.size w w' := by
  have hu45 := Tryd.underlying45
  have HB := Aside0.mk (Below.refl w.heap.size w)
  have H : ((impl_format_width.f a0_0 a0_1 a0_2).bind fun t209 => (if 0 ≤ (wrap64 (t209 - 1)) then (some (shl .u64 (IntKind.u64.wrap (a1)) (wrap64 (t209 - 1)))) else (none))) = some r := h
  clear h
  replace H := Option.bind_eq_some_iff.mp H
  obtain ⟨t209, A30, H⟩ := H
  replace H : (if 0 ≤ (wrap64 (t209 - 1)) then (some (shl .u64 (IntKind.u64.wrap (a1)) (wrap64 (t209 - 1)))) else (none)) = some r := H
  have A3 := Aside0.mk A30
  clear A30
  obtain ⟨ji4, hji4⟩ : ∃ j_ : Int, (wrap64 (t209 - 1)) = j_ := ⟨_, rfl⟩
  replace H : (if 0 ≤ (ji4) then (some (shl .u64 (IntKind.u64.wrap (a1)) (ji4))) else (none)) = some r := by first | (rw [hji4] at H; exact H) | (simp only [hji4] at H ⊢; exact H)
  (try (have hji4B0 : ji4 ≤ 64 := by omega))
  (try (have hji4B1 : ji4 ≤ 1152921504606846975 := by omega))
  (try (have hji4B2 : -1152921504606846976 ≤ ji4 := by omega))
  (try rw [hji4] at A3)
  have hji4w : (IntKind.i64.wrap (t209 - 1)) = ji4 := (i64_w _).trans hji4
  by_cases c5 : 0 ≤ (ji4)
  · rw [if_pos c5] at H
    have c5b0 := eq_true c5
    have c5b1 : decide (0 ≤ (ji4)) = true := decide_eq_true c5
    clear c5
    obtain ⟨ji6, hji6⟩ : ∃ j_ : Int, (shl .u64 (IntKind.u64.wrap (a1)) (ji4)) = j_ := ⟨_, rfl⟩
    replace H : (some ji6) = some r := by first | (rw [hji6] at H; exact H) | (simp only [hji6] at H ⊢; exact H)
    (try rw [hji6] at A3)
    have hji6_ : (IntKind.u64.wrap ((IntKind.u64.wrap (a1)) * 2 ^ min (ji4).toNat 64)) = ji6 := hji6
    have hji6z : (ji4) ≤ 64 → (IntKind.u64.wrap ((IntKind.u64.wrap (a1)) * 2 ^ (ji4).toNat)) = ji6 := shl_small hji6
    obtain rfl := Option.some.inj H
    go_enter Tryd.func49, Tryd.ntmps49
    go_wp2_with (first | ((with_reducible refine gate_dst (N := 2) rfl ?_); refine box_event ?hg (N := 2) ?hd (cs := #[.int .i64 a0_0, .int .i64 a0_1, .int .i64 a0_2]) (t := 45) ?hr ?_; (case hd => rfl); (case hg => rfl); (case hr => first | (go_simp; done) | (go_simp; rfl)); intro gb208 hg w7 hbox hb; have n0_ := Aside0.mk (below_step zb hb); have n1_ := Aside0.mk (hbox); have n2_ := zs w hg; have n3_ := zs w hg; clear HB; have HB := n0_; have BK208 := n1_; have GW208 := n2_; have GE208 := n3_; clear n0_ n1_ n2_ n3_ hb hbox hg; have hcz8_0 : w7.cell? ⟨gb208, 0, none⟩ = some (.int .i64 a0_0) := (blk_cell BK208.out 0).trans rfl; have hcz8_1 : w7.cell? ⟨gb208, 1, none⟩ = some (.int .i64 a0_1) := (blk_cell BK208.out 1).trans rfl; have hcz8_2 : w7.cell? ⟨gb208, 2, none⟩ = some (.int .i64 a0_2) := (blk_cell BK208.out 2).trans rfl; have hfz8_0 := blk_frozen BK208.out 0; have hfz8_1 := blk_frozen BK208.out 1; have hfz8_2 := blk_frozen BK208.out 2) | ((with_reducible refine gate_callee (f := 33) rfl ?_); refine goesL_ (some 8) rfl rfl Tryd.func33 (by kernel_rfl) rfl #[.agg #[.int .i64 a0_0, .int .i64 a0_1, .int .i64 a0_2]] rfl (by (try simp only [List.map_toArray, List.map_cons, List.map_nil]); first | done | rfl | (simp only [List.length_drop, List.length_take]; rfl)) ?_; (with_reducible refine (impl_format_width.calls a0_0 a0_1 a0_2 t209 _ A3.out).mono ?_); rintro e w9 ⟨rfl, hb⟩; refine ⟨_, rfl, ?_⟩; have n0_ := za BK208 hb; have n1_ := Aside0.mk (below_step zb hb); clear BK208 HB; have BK208 := n0_; have HB := n1_; clear n0_ n1_; (try clear hb); (try clear hb2); (try clear hk); (try clear hi)))
    go_ret
    exact ⟨by first | rfl | (simp [errW_none, errW_some] <;> rfl) | (simp only [← hji4, ← hji6]; first | rfl | (simp [errW_none, errW_some] <;> rfl)) | (simp [*, errW_none, errW_some] <;> rfl), zb⟩
  · rw [if_neg c5] at H
    exact absurd H (by simp)

/-! ### impl_key: function 41 -/
def impl_key.f (k : Nat) (a0 : Int) (a1 : Int) : Option (Int) := (impl_formatOf.f a0).bind fun bt210 => ((impl_format_zero.f bt210.1 bt210.2.1 bt210.2.2 1).bind fun t213 => ((impl_Unpack.f k a0 a1).bind fun bt214 => (if bt214.2.1 = 1 then (some (wrap64 (-(wrap64 (Go.bits .andNot .u64 a1 t213))))) else (some (wrap64 (Go.bits .andNot .u64 a1 t213))))))
theorem impl_key.mono : ∀ a0 a1 k, LeO (impl_key.f k a0 a1) (impl_key.f (k + 1) a0 a1) := by
  intro a0 a1 k
  unfold impl_key.f
  repeat' first
      | (with_reducible exact impl_Unpack.mono _ _ _)
      | (with_reducible exact LeO.refl _)
      | (with_reducible exact LeO.none _)
      | (with_reducible refine LeO.ite ?_ ?_)
      | (with_reducible refine LeO.bind ?_ (fun _ => ?_))
      | exact impl_Unpack.mono _ _ _
      | exact LeO.none _
      | refine LeO.ite ?_ ?_
      | refine LeO.bind ?_ (fun _ => ?_)
set_option maxHeartbeats 8000000 in
set_option maxRecDepth 100000 in
theorem impl_key.calls (k : Nat) (a0 : Int) (a1 : Int) (r : Int) (w : World) (hGformats : Gformats w) (h : impl_key.f k a0 a1 = some r) :
    Calls Tryd.prog 41 #[.int .i64 a0, .int .u64 a1] w fun e w' => e = .returned (.int .i64 r) ∧ Below w.heap.size w w' := by
  have HB := Aside0.mk (Below.refl w.heap.size w)
  have H : ((impl_formatOf.f a0).bind fun bt210 => ((impl_format_zero.f bt210.1 bt210.2.1 bt210.2.2 1).bind fun t213 => ((impl_Unpack.f k a0 a1).bind fun bt214 => (if bt214.2.1 = 1 then (some (wrap64 (-(wrap64 (Go.bits .andNot .u64 a1 t213))))) else (some (wrap64 (Go.bits .andNot .u64 a1 t213))))))) = some r := h
  clear h
  replace H := Option.bind_eq_some_iff.mp H
  obtain ⟨⟨t210, t211, t212⟩, A30, H⟩ := H
  replace H : ((impl_format_zero.f t210 t211 t212 1).bind fun t213 => ((impl_Unpack.f k a0 a1).bind fun bt214 => (if bt214.2.1 = 1 then (some (wrap64 (-(wrap64 (Go.bits .andNot .u64 a1 t213))))) else (some (wrap64 (Go.bits .andNot .u64 a1 t213)))))) = some r := H
  have A3 := Aside0.mk A30
  clear A30
  replace H := Option.bind_eq_some_iff.mp H
  obtain ⟨t213, A40, H⟩ := H
  replace H : ((impl_Unpack.f k a0 a1).bind fun bt214 => (if bt214.2.1 = 1 then (some (wrap64 (-(wrap64 (Go.bits .andNot .u64 a1 t213))))) else (some (wrap64 (Go.bits .andNot .u64 a1 t213))))) = some r := H
  have A4 := Aside0.mk A40
  clear A40
  replace H := Option.bind_eq_some_iff.mp H
  obtain ⟨⟨t214, t215, t216, t217⟩, A50, H⟩ := H
  replace H : (if t215 = 1 then (some (wrap64 (-(wrap64 (Go.bits .andNot .u64 a1 t213))))) else (some (wrap64 (Go.bits .andNot .u64 a1 t213)))) = some r := H
  have A5 := Aside0.mk A50
  clear A50
  by_cases c6 : t215 = 1
  · rw [if_pos c6] at H
    have c6b0 : (t215 == 1) = true := beq_iff_eq.mpr c6
    have c6b1 : (t215 != 1) = false := bne_eq_false_iff_eq.mpr c6
    clear c6
    obtain rfl := Option.some.inj H
    have hfd_ : ∀ w : World, (Instr.field 24 (.agg #[.int .i64 t214, .int .i64 t215, .int .i64 t216, .int .u64 t217]) 1).run Tryd.prog w = .ok (.int .i64 t215) w := fun _ => by kernel_rfl
    go_enter Tryd.func41, Tryd.ntmps41
    go_wp2_with (first | ((with_reducible refine gate_callee (f := 30) rfl ?_); refine goesL_ (some 8) rfl rfl Tryd.func30 (by kernel_rfl) rfl #[.int .i64 a0] rfl (by (try simp only [List.map_toArray, List.map_cons, List.map_nil]); first | done | rfl | (simp only [List.length_drop, List.length_take]; rfl)) ?_; (with_reducible refine (impl_formatOf.calls a0 t210 t211 t212 _ ?side1 A3.out).mono ?_); (case side1 => exact Gformats.below hGformats zb); rintro e w7 ⟨rfl, hb⟩; refine ⟨_, rfl, ?_⟩; have n0_ := Aside0.mk (below_step zb hb); clear HB; have HB := n0_; clear n0_; (try clear hb); (try clear hb2); (try clear hk); (try clear hi)) | ((with_reducible refine gate_callee (f := 49) rfl ?_); refine goesL_ (some 9) rfl rfl Tryd.func49 (by kernel_rfl) rfl #[.agg #[.int .i64 t210, .int .i64 t211, .int .i64 t212], .int .i64 1] rfl (by (try simp only [List.map_toArray, List.map_cons, List.map_nil]); first | done | rfl | (simp only [List.length_drop, List.length_take]; rfl)) ?_; (with_reducible refine (impl_format_zero.calls t210 t211 t212 1 t213 _ A4.out).mono ?_); rintro e w8 ⟨rfl, hb⟩; refine ⟨_, rfl, ?_⟩; have n0_ := Aside0.mk (below_step zb hb); clear HB; have HB := n0_; clear n0_; (try clear hb); (try clear hb2); (try clear hk); (try clear hi)) | ((with_reducible refine gate_callee (f := 10) rfl ?_); refine goesL_ (some 14) rfl rfl Tryd.func10 (by kernel_rfl) rfl #[.int .i64 a0, .int .u64 a1] rfl (by (try simp only [List.map_toArray, List.map_cons, List.map_nil]); first | done | rfl | (simp only [List.length_drop, List.length_take]; rfl)) ?_; (with_reducible refine (impl_Unpack.calls k a0 a1 t214 t215 t216 t217 _ ?side1 A5.out).mono ?_); (case side1 => exact Gformats.below hGformats zb); rintro e w9 ⟨rfl, hb⟩; refine ⟨_, rfl, ?_⟩; have n0_ := Aside0.mk (below_step zb hb); clear HB; have HB := n0_; clear n0_; (try clear hb); (try clear hb2); (try clear hk); (try clear hi)))
    go_ret
    exact ⟨by first | rfl | (simp [errW_none, errW_some] <;> rfl) | (simp [*, errW_none, errW_some] <;> rfl), zb⟩
  · rw [if_neg c6] at H
    have c6b0 : (t215 == 1) = false := beq_eq_false_iff_ne.mpr c6
    have c6b1 : (t215 != 1) = true := bne_iff_ne.mpr c6
    obtain rfl := Option.some.inj H
    have hfd_ : ∀ w : World, (Instr.field 24 (.agg #[.int .i64 t214, .int .i64 t215, .int .i64 t216, .int .u64 t217]) 1).run Tryd.prog w = .ok (.int .i64 t215) w := fun _ => by kernel_rfl
    go_enter Tryd.func41, Tryd.ntmps41
    go_wp2_with (first | ((with_reducible refine gate_callee (f := 30) rfl ?_); refine goesL_ (some 8) rfl rfl Tryd.func30 (by kernel_rfl) rfl #[.int .i64 a0] rfl (by (try simp only [List.map_toArray, List.map_cons, List.map_nil]); first | done | rfl | (simp only [List.length_drop, List.length_take]; rfl)) ?_; (with_reducible refine (impl_formatOf.calls a0 t210 t211 t212 _ ?side1 A3.out).mono ?_); (case side1 => exact Gformats.below hGformats zb); rintro e w10 ⟨rfl, hb⟩; refine ⟨_, rfl, ?_⟩; have n0_ := Aside0.mk (below_step zb hb); clear HB; have HB := n0_; clear n0_; (try clear hb); (try clear hb2); (try clear hk); (try clear hi)) | ((with_reducible refine gate_callee (f := 49) rfl ?_); refine goesL_ (some 9) rfl rfl Tryd.func49 (by kernel_rfl) rfl #[.agg #[.int .i64 t210, .int .i64 t211, .int .i64 t212], .int .i64 1] rfl (by (try simp only [List.map_toArray, List.map_cons, List.map_nil]); first | done | rfl | (simp only [List.length_drop, List.length_take]; rfl)) ?_; (with_reducible refine (impl_format_zero.calls t210 t211 t212 1 t213 _ A4.out).mono ?_); rintro e w11 ⟨rfl, hb⟩; refine ⟨_, rfl, ?_⟩; have n0_ := Aside0.mk (below_step zb hb); clear HB; have HB := n0_; clear n0_; (try clear hb); (try clear hb2); (try clear hk); (try clear hi)) | ((with_reducible refine gate_callee (f := 10) rfl ?_); refine goesL_ (some 14) rfl rfl Tryd.func10 (by kernel_rfl) rfl #[.int .i64 a0, .int .u64 a1] rfl (by (try simp only [List.map_toArray, List.map_cons, List.map_nil]); first | done | rfl | (simp only [List.length_drop, List.length_take]; rfl)) ?_; (with_reducible refine (impl_Unpack.calls k a0 a1 t214 t215 t216 t217 _ ?side1 A5.out).mono ?_); (case side1 => exact Gformats.below hGformats zb); rintro e w12 ⟨rfl, hb⟩; refine ⟨_, rfl, ?_⟩; have n0_ := Aside0.mk (below_step zb hb); clear HB; have HB := n0_; clear n0_; (try clear hb); (try clear hb2); (try clear hk); (try clear hi)))
    go_ret
    exact ⟨by first | rfl | (simp [errW_none, errW_some] <;> rfl) | (simp [*, errW_none, errW_some] <;> rfl), zb⟩

end Go.Proofs.YtokbmgneigdofaaDoor.PA
