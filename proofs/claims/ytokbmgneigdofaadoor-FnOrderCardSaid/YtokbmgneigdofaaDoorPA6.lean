-- Written by gprint.py (this session's program) through the kit's print.py. Lean checks it.
import Derived.Test.YtokbmgneigdofaaDoorPA0
import Derived.Test.YtokbmgneigdofaaDoorPA2
import Derived.Test.YtokbmgneigdofaaDoorPA3
import Derived.Test.YtokbmgneigdofaaDoorPA5
namespace Go.Proofs.YtokbmgneigdofaaDoor.PA
open Go.Proofs.YtokbmgneigdofaaDoorW.Z
open Go.Proofs.YtokbmgneigdofaaDoor.Given
open Go.RowKit Go.Proofs.YtokbmgneigdofaaDoorW.PrintWords Go.Proofs.YtokbmgneigdofaaDoorW.PrintLast
set_option linter.unusedVariables false
set_option linter.unusedSimpArgs false

/-! ### impl_Compare: function 15 -/
mutual
def impl_Compare.j0 : Nat → Int → Int → Int → Bool → Bool → Option (Int × Int)
  | 0, _, _, _, _, _ => none
  | k + 1, x0, x1, x2, x3, x31 => if x31 = true then (some (2, 1)) else ((impl_Unpack.f k x0 x1).bind fun bt225 => ((impl_Unpack.f k x0 x2).bind fun bt229 => ((impl_isNaN.f bt225.1 bt225.2.1 bt225.2.2.1 bt225.2.2.2).bind fun t235 => (if t235 = true then (impl_Compare.j1 k x0 x1 x2 x3 true bt225.1 bt225.2.1 bt225.2.2.1 bt225.2.2.2 bt229.1 bt229.2.1 bt229.2.2.1 bt229.2.2.2) else ((impl_isNaN.f bt229.1 bt229.2.1 bt229.2.2.1 bt229.2.2.2).bind fun t236 => (impl_Compare.j1 k x0 x1 x2 x3 t236 bt225.1 bt225.2.1 bt225.2.2.1 bt225.2.2.2 bt229.1 bt229.2.1 bt229.2.2.1 bt229.2.2.2))))))
def impl_Compare.j1 : Nat → Int → Int → Int → Bool → Bool → Int → Int → Int → Int → Int → Int → Int → Int → Option (Int × Int)
  | 0, _, _, _, _, _, _, _, _, _, _, _, _, _ => none
  | k + 1, x0, x1, x2, x3, x43, x234000, x234001, x234002, x234003, x235000, x235001, x235002, x235003 => if x43 = true then (if x3 = true then (some (2, 1)) else (if x234000 = 4 then (some (2, 1)) else (if x235000 = 4 then (some (2, 1)) else (some (2, 0))))) else ((impl_key.f k x0 x1).bind fun t237 => ((impl_key.f k x0 x2).bind fun t238 => (if t237 < t238 then (some ((-1), 0)) else (if t237 > t238 then (some (1, 0)) else (some (0, 0))))))
end
def impl_Compare.f (k : Nat) (a0 : Int) (a1 : Int) (a2 : Int) (a3 : Bool) : Option (Int × Int) := (impl_formatOf.f a0).bind fun bt218 => ((impl_goodFormat.f a0).bind fun t222 => (if t222 = true then ((impl_format_fits.f bt218.1 bt218.2.1 bt218.2.2 a1).bind fun t223 => (if t223 = true then ((impl_format_fits.f bt218.1 bt218.2.1 bt218.2.2 a2).bind fun t224 => (impl_Compare.j0 k a0 a1 a2 a3 (!t224))) else (impl_Compare.j0 k a0 a1 a2 a3 true))) else (impl_Compare.j0 k a0 a1 a2 a3 true)))
theorem impl_Compare.mono_l : ∀ k, (∀ y0 y1 y2 y3 y4, LeO (impl_Compare.j0 k y0 y1 y2 y3 y4) (impl_Compare.j0 (k + 1) y0 y1 y2 y3 y4)) ∧ (∀ y0 y1 y2 y3 y4 y5 y6 y7 y8 y9 y10 y11 y12, LeO (impl_Compare.j1 k y0 y1 y2 y3 y4 y5 y6 y7 y8 y9 y10 y11 y12) (impl_Compare.j1 (k + 1) y0 y1 y2 y3 y4 y5 y6 y7 y8 y9 y10 y11 y12))
  | 0 => ⟨fun _ _ _ _ _ r h => by simp [impl_Compare.j0] at h, fun _ _ _ _ _ _ _ _ _ _ _ _ _ r h => by simp [impl_Compare.j1] at h⟩
  | k + 1 => by
    obtain ⟨ih0, ih1⟩ := impl_Compare.mono_l k
    refine ⟨?_, ?_⟩
    · intro y0 y1 y2 y3 y4
      unfold impl_Compare.j0
      repeat' first
      | (with_reducible exact ih0 _ _ _ _ _)
      | (with_reducible exact ih1 _ _ _ _ _ _ _ _ _ _ _ _ _)
      | (with_reducible exact impl_Unpack.mono _ _ _)
      | (with_reducible exact impl_key.mono _ _ _)
      | (with_reducible exact LeO.refl _)
      | (with_reducible exact LeO.none _)
      | (with_reducible refine LeO.ite ?_ ?_)
      | (with_reducible refine LeO.bind ?_ (fun _ => ?_))
      | exact ih0 _ _ _ _ _
      | exact ih1 _ _ _ _ _ _ _ _ _ _ _ _ _
      | exact impl_Unpack.mono _ _ _
      | exact impl_key.mono _ _ _
      | exact LeO.none _
      | refine LeO.ite ?_ ?_
      | refine LeO.bind ?_ (fun _ => ?_)
    · intro y0 y1 y2 y3 y4 y5 y6 y7 y8 y9 y10 y11 y12
      unfold impl_Compare.j1
      repeat' first
      | (with_reducible exact ih0 _ _ _ _ _)
      | (with_reducible exact ih1 _ _ _ _ _ _ _ _ _ _ _ _ _)
      | (with_reducible exact impl_Unpack.mono _ _ _)
      | (with_reducible exact impl_key.mono _ _ _)
      | (with_reducible exact LeO.refl _)
      | (with_reducible exact LeO.none _)
      | (with_reducible refine LeO.ite ?_ ?_)
      | (with_reducible refine LeO.bind ?_ (fun _ => ?_))
      | exact ih0 _ _ _ _ _
      | exact ih1 _ _ _ _ _ _ _ _ _ _ _ _ _
      | exact impl_Unpack.mono _ _ _
      | exact impl_key.mono _ _ _
      | exact LeO.none _
      | refine LeO.ite ?_ ?_
      | refine LeO.bind ?_ (fun _ => ?_)
theorem impl_Compare.mono : ∀ a0 a1 a2 a3 k, LeO (impl_Compare.f k a0 a1 a2 a3) (impl_Compare.f (k + 1) a0 a1 a2 a3) := by
  intro a0 a1 a2 a3 k
  obtain ⟨ih0, ih1⟩ := impl_Compare.mono_l k
  unfold impl_Compare.f
  repeat' first
      | (with_reducible exact ih0 _ _ _ _ _)
      | (with_reducible exact ih1 _ _ _ _ _ _ _ _ _ _ _ _ _)
      | (with_reducible exact impl_Unpack.mono _ _ _)
      | (with_reducible exact impl_key.mono _ _ _)
      | (with_reducible exact LeO.refl _)
      | (with_reducible exact LeO.none _)
      | (with_reducible refine LeO.ite ?_ ?_)
      | (with_reducible refine LeO.bind ?_ (fun _ => ?_))
      | exact ih0 _ _ _ _ _
      | exact ih1 _ _ _ _ _ _ _ _ _ _ _ _ _
      | exact impl_Unpack.mono _ _ _
      | exact impl_key.mono _ _ _
      | exact LeO.none _
      | refine LeO.ite ?_ ?_
      | refine LeO.bind ?_ (fun _ => ?_)
set_option maxHeartbeats 8000000 in
set_option maxRecDepth 100000 in
theorem impl_Compare.calls (k : Nat) (a0 : Int) (a1 : Int) (a2 : Int) (a3 : Bool) (r1 : Int) (r2 : Int) (w : World) (hGformats : Gformats w) (h : impl_Compare.f k a0 a1 a2 a3 = some (r1, r2)) :
    Calls Tryd.prog 15 #[.int .i64 a0, .int .u64 a1, .int .u64 a2, .bool a3] w fun e w' => e = .returned (.tuple #[.int .i64 r1, .int .i64 r2]) ∧ Below w.heap.size w w' := by
  have hu45 := Tryd.underlying45
  have hu24 := Tryd.underlying24
  have HB := Aside0.mk (Below.refl w.heap.size w)
  have H : ((impl_formatOf.f a0).bind fun bt218 => ((impl_goodFormat.f a0).bind fun t222 => (if t222 = true then ((impl_format_fits.f bt218.1 bt218.2.1 bt218.2.2 a1).bind fun t223 => (if t223 = true then ((impl_format_fits.f bt218.1 bt218.2.1 bt218.2.2 a2).bind fun t224 => (impl_Compare.j0 k a0 a1 a2 a3 (!t224))) else (impl_Compare.j0 k a0 a1 a2 a3 true))) else (impl_Compare.j0 k a0 a1 a2 a3 true)))) = some (r1, r2) := h
  clear h
  replace H := Option.bind_eq_some_iff.mp H
  obtain ⟨⟨t218, t219, t220⟩, A50, H⟩ := H
  replace H : ((impl_goodFormat.f a0).bind fun t222 => (if t222 = true then ((impl_format_fits.f t218 t219 t220 a1).bind fun t223 => (if t223 = true then ((impl_format_fits.f t218 t219 t220 a2).bind fun t224 => (impl_Compare.j0 k a0 a1 a2 a3 (!t224))) else (impl_Compare.j0 k a0 a1 a2 a3 true))) else (impl_Compare.j0 k a0 a1 a2 a3 true))) = some (r1, r2) := H
  have A5 := Aside0.mk A50
  clear A50
  have HC6 := Aside0.mk H
  clear H
  go_enter Tryd.func15, Tryd.ntmps15
  go_upto_region 2 with (first | ((with_reducible refine gate_callee (f := 30) rfl ?_); refine goesL_ (some 16) rfl rfl Tryd.func30 (by kernel_rfl) rfl #[.int .i64 a0] rfl (by (try simp only [List.map_toArray, List.map_cons, List.map_nil]); first | done | rfl | (simp only [List.length_drop, List.length_take]; rfl)) ?_; (with_reducible refine (impl_formatOf.calls a0 t218 t219 t220 _ ?side1 A5.out).mono ?_); (case side1 => exact Gformats.below hGformats zb); rintro e w7 ⟨rfl, hb⟩; refine ⟨_, rfl, ?_⟩; have n0_ := Aside0.mk (below_step zb hb); clear HB; have HB := n0_; clear n0_; (try clear hb); (try clear hb2); (try clear hk); (try clear hi)) | ((with_reducible refine gate_dst (N := 10) rfl ?_); refine box_event ?hg (N := 10) ?hd (cs := #[.int .i64 0, .int .i64 0, .int .i64 0]) (t := 45) ?hr ?_; (case hd => rfl); (case hg => rfl); (case hr => first | (go_simp; done) | (go_simp; rfl)); intro gb221 hg w8 hbox hb; have n0_ := Aside0.mk (below_step zb hb); have n1_ := Aside0.mk (hbox); have n2_ := zs w hg; have n3_ := zs w hg; clear HB; have HB := n0_; have BK221 := n1_; have GW221 := n2_; have GE221 := n3_; clear n0_ n1_ n2_ n3_ hb hbox hg; have hcz9_0 : w8.cell? ⟨gb221, 0, none⟩ = some (.int .i64 0) := (blk_cell BK221.out 0).trans rfl; have hcz9_1 : w8.cell? ⟨gb221, 1, none⟩ = some (.int .i64 0) := (blk_cell BK221.out 1).trans rfl; have hcz9_2 : w8.cell? ⟨gb221, 2, none⟩ = some (.int .i64 0) := (blk_cell BK221.out 2).trans rfl; have hfz9_0 := blk_frozen BK221.out 0; have hfz9_1 := blk_frozen BK221.out 1; have hfz9_2 := blk_frozen BK221.out 2))
  (try simp only [Act.put, List.setIfInBounds_toArray, List.set_cons_zero, List.set_cons_succ])
  go_cut [31] (fun v31 wc => ∃ (kq : Nat) (x31_5 : Bool), v31 = .bool x31_5 ∧ Aside0 (impl_Compare.j0 kq a0 a1 a2 a3 x31_5 = some (r1, r2)) ∧ Aside0 (kq ≤ k) ∧ Aside0 (wc.heap[gb221]? = some (.cells #[.int .i64 t218, .int .i64 t219, .int .i64 t220] 45 (0, 0))) ∧ Aside0 (Below w.heap.size w wc))
  case first =>
    have H := HC6.out
    clear HC6
    replace H := Option.bind_eq_some_iff.mp H
    obtain ⟨t222, A100, H⟩ := H
    replace H : (if t222 = true then ((impl_format_fits.f t218 t219 t220 a1).bind fun t223 => (if t223 = true then ((impl_format_fits.f t218 t219 t220 a2).bind fun t224 => (impl_Compare.j0 k a0 a1 a2 a3 (!t224))) else (impl_Compare.j0 k a0 a1 a2 a3 true))) else (impl_Compare.j0 k a0 a1 a2 a3 true)) = some (r1, r2) := H
    have A10 := Aside0.mk A100
    clear A100
    by_cases c11 : t222 = true
    · subst c11
      have H1 : ((impl_format_fits.f t218 t219 t220 a1).bind fun t223 => (if t223 = true then ((impl_format_fits.f t218 t219 t220 a2).bind fun t224 => (impl_Compare.j0 k a0 a1 a2 a3 (!t224))) else (impl_Compare.j0 k a0 a1 a2 a3 true))) = some (r1, r2) := by rw [if_pos rfl] at H; exact H
      clear H
      have H := H1
      clear H1
      replace H := Option.bind_eq_some_iff.mp H
      obtain ⟨t223, A120, H⟩ := H
      replace H : (if t223 = true then ((impl_format_fits.f t218 t219 t220 a2).bind fun t224 => (impl_Compare.j0 k a0 a1 a2 a3 (!t224))) else (impl_Compare.j0 k a0 a1 a2 a3 true)) = some (r1, r2) := H
      have A12 := Aside0.mk A120
      clear A120
      by_cases c13 : t223 = true
      · subst c13
        have H1 : ((impl_format_fits.f t218 t219 t220 a2).bind fun t224 => (impl_Compare.j0 k a0 a1 a2 a3 (!t224))) = some (r1, r2) := by rw [if_pos rfl] at H; exact H
        clear H
        have H := H1
        clear H1
        replace H := Option.bind_eq_some_iff.mp H
        obtain ⟨t224, A140, H⟩ := H
        replace H : (impl_Compare.j0 k a0 a1 a2 a3 (!t224)) = some (r1, r2) := H
        have A14 := Aside0.mk A140
        clear A140
        have H' := Aside0.mk H
        clear H
        go_wp2_with (first | ((with_reducible refine gate_callee (f := 31) rfl ?_); refine goesL_ (some 18) rfl rfl Tryd.func31 (by kernel_rfl) rfl #[.int .i64 a0] rfl (by (try simp only [List.map_toArray, List.map_cons, List.map_nil]); first | done | rfl | (simp only [List.length_drop, List.length_take]; rfl)) ?_; (with_reducible refine (impl_goodFormat.calls a0 true _ A10.out).mono ?_); rintro e w' ⟨rfl, ⟨nd, rfl⟩⟩; refine ⟨_, rfl, ?_⟩; have hcz15_0 : w8.cell? ⟨gb221, 0, none⟩ = some (.int .i64 0) := (blk_cell BK221.out 0).trans rfl; have hcz15_1 : w8.cell? ⟨gb221, 1, none⟩ = some (.int .i64 0) := (blk_cell BK221.out 1).trans rfl; have hcz15_2 : w8.cell? ⟨gb221, 2, none⟩ = some (.int .i64 0) := (blk_cell BK221.out 2).trans rfl; have hfz15_0 := blk_frozen BK221.out 0; have hfz15_1 := blk_frozen BK221.out 1; have hfz15_2 := blk_frozen BK221.out 2) | (go_at_call 32; (with_reducible refine (impl_format_fits.calls t218 t219 t220 a1 true _ A12.out).mono ?_); rintro e w16 ⟨rfl, hb⟩; have n0_ := Aside0.mk (blk_below (g := gb221) (o := .cells #[.int .i64 t218, .int .i64 t219, .int .i64 t220] 45 (0, 0)) (by (with_reducible repeat (first | refine blk_drewN ?_ _ | refine blk_drew ?_ | refine blk_alloc ?_ _)); refine blk_put (cs := #[.int .i64 t218, .int .i64 t219, .int .i64 0]) ?_ 2 _ rfl; (with_reducible repeat (first | refine blk_drewN ?_ _ | refine blk_drew ?_ | refine blk_alloc ?_ _)); refine blk_put (cs := #[.int .i64 t218, .int .i64 0, .int .i64 0]) ?_ 1 _ rfl; (with_reducible repeat (first | refine blk_drewN ?_ _ | refine blk_drew ?_ | refine blk_alloc ?_ _)); refine blk_put (cs := #[.int .i64 0, .int .i64 0, .int .i64 0]) ?_ 0 _ rfl; (with_reducible repeat (first | refine blk_drewN ?_ _ | refine blk_drew ?_ | refine blk_alloc ?_ _)); exact BK221.out) hb); have n1_ := Aside0.mk (below_step zb hb); clear BK221 HB; have BK221 := n0_; have HB := n1_; clear n0_ n1_; (try clear hb); (try clear hb2); (try clear hk); (try clear hi); have hcz17_0 : w16.cell? ⟨gb221, 0, none⟩ = some (.int .i64 t218) := (blk_cell BK221.out 0).trans rfl; have hcz17_1 : w16.cell? ⟨gb221, 1, none⟩ = some (.int .i64 t219) := (blk_cell BK221.out 1).trans rfl; have hcz17_2 : w16.cell? ⟨gb221, 2, none⟩ = some (.int .i64 t220) := (blk_cell BK221.out 2).trans rfl; have hfz17_0 := blk_frozen BK221.out 0; have hfz17_1 := blk_frozen BK221.out 1; have hfz17_2 := blk_frozen BK221.out 2) | (go_at_call 32; (with_reducible refine (impl_format_fits.calls t218 t219 t220 a2 t224 _ A14.out).mono ?_); rintro e w18 ⟨rfl, hb⟩; have n0_ := za BK221 hb; have n1_ := Aside0.mk (below_step zb hb); clear BK221 HB; have BK221 := n0_; have HB := n1_; clear n0_ n1_; (try clear hb); (try clear hb2); (try clear hk); (try clear hi)))
        go_meet
        case rel => exact ⟨_, (!t224), (by first | rfl | (simp; done) | (simp [*]; done)), H', ⟨by first | omega | exact Nat.le_refl _⟩, ⟨zk⟩, ⟨zb⟩⟩
      · replace c13 := Bool.eq_false_iff.mpr c13
        subst c13
        have H1 : (impl_Compare.j0 k a0 a1 a2 a3 true) = some (r1, r2) := by rw [if_neg (show ¬ (false = true) by decide)] at H; exact H
        clear H
        have H := H1
        clear H1
        have H' := Aside0.mk H
        clear H
        go_wp2_with (first | ((with_reducible refine gate_callee (f := 31) rfl ?_); refine goesL_ (some 18) rfl rfl Tryd.func31 (by kernel_rfl) rfl #[.int .i64 a0] rfl (by (try simp only [List.map_toArray, List.map_cons, List.map_nil]); first | done | rfl | (simp only [List.length_drop, List.length_take]; rfl)) ?_; (with_reducible refine (impl_goodFormat.calls a0 true _ A10.out).mono ?_); rintro e w' ⟨rfl, ⟨nd, rfl⟩⟩; refine ⟨_, rfl, ?_⟩; have hcz19_0 : w8.cell? ⟨gb221, 0, none⟩ = some (.int .i64 0) := (blk_cell BK221.out 0).trans rfl; have hcz19_1 : w8.cell? ⟨gb221, 1, none⟩ = some (.int .i64 0) := (blk_cell BK221.out 1).trans rfl; have hcz19_2 : w8.cell? ⟨gb221, 2, none⟩ = some (.int .i64 0) := (blk_cell BK221.out 2).trans rfl; have hfz19_0 := blk_frozen BK221.out 0; have hfz19_1 := blk_frozen BK221.out 1; have hfz19_2 := blk_frozen BK221.out 2) | (go_at_call 32; (with_reducible refine (impl_format_fits.calls t218 t219 t220 a1 false _ A12.out).mono ?_); rintro e w20 ⟨rfl, hb⟩; have n0_ := Aside0.mk (blk_below (g := gb221) (o := .cells #[.int .i64 t218, .int .i64 t219, .int .i64 t220] 45 (0, 0)) (by (with_reducible repeat (first | refine blk_drewN ?_ _ | refine blk_drew ?_ | refine blk_alloc ?_ _)); refine blk_put (cs := #[.int .i64 t218, .int .i64 t219, .int .i64 0]) ?_ 2 _ rfl; (with_reducible repeat (first | refine blk_drewN ?_ _ | refine blk_drew ?_ | refine blk_alloc ?_ _)); refine blk_put (cs := #[.int .i64 t218, .int .i64 0, .int .i64 0]) ?_ 1 _ rfl; (with_reducible repeat (first | refine blk_drewN ?_ _ | refine blk_drew ?_ | refine blk_alloc ?_ _)); refine blk_put (cs := #[.int .i64 0, .int .i64 0, .int .i64 0]) ?_ 0 _ rfl; (with_reducible repeat (first | refine blk_drewN ?_ _ | refine blk_drew ?_ | refine blk_alloc ?_ _)); exact BK221.out) hb); have n1_ := Aside0.mk (below_step zb hb); clear BK221 HB; have BK221 := n0_; have HB := n1_; clear n0_ n1_; (try clear hb); (try clear hb2); (try clear hk); (try clear hi)))
        go_meet
        case rel => exact ⟨_, (true), (by first | rfl | (simp; done) | (simp [*]; done)), H', ⟨by first | omega | exact Nat.le_refl _⟩, ⟨zk⟩, ⟨zb⟩⟩
    · replace c11 := Bool.eq_false_iff.mpr c11
      subst c11
      have H1 : (impl_Compare.j0 k a0 a1 a2 a3 true) = some (r1, r2) := by rw [if_neg (show ¬ (false = true) by decide)] at H; exact H
      clear H
      have H := H1
      clear H1
      have H' := Aside0.mk H
      clear H
      go_wp2_with (first | ((with_reducible refine gate_callee (f := 31) rfl ?_); refine goesL_ (some 18) rfl rfl Tryd.func31 (by kernel_rfl) rfl #[.int .i64 a0] rfl (by (try simp only [List.map_toArray, List.map_cons, List.map_nil]); first | done | rfl | (simp only [List.length_drop, List.length_take]; rfl)) ?_; (with_reducible refine (impl_goodFormat.calls a0 false _ A10.out).mono ?_); rintro e w' ⟨rfl, ⟨nd, rfl⟩⟩; refine ⟨_, rfl, ?_⟩))
      go_meet
      case rel => exact ⟨_, (true), (by first | rfl | (simp; done) | (simp [*]; done)), H', ⟨by first | omega | exact Nat.le_refl _⟩, ⟨by (with_reducible repeat (first | refine blk_drewN ?_ _ | refine blk_drew ?_ | refine blk_alloc ?_ _)); refine blk_put (cs := #[.int .i64 t218, .int .i64 t219, .int .i64 0]) ?_ 2 _ rfl; (with_reducible repeat (first | refine blk_drewN ?_ _ | refine blk_drew ?_ | refine blk_alloc ?_ _)); refine blk_put (cs := #[.int .i64 t218, .int .i64 0, .int .i64 0]) ?_ 1 _ rfl; (with_reducible repeat (first | refine blk_drewN ?_ _ | refine blk_drew ?_ | refine blk_alloc ?_ _)); refine blk_put (cs := #[.int .i64 0, .int .i64 0, .int .i64 0]) ?_ 0 _ rfl; (with_reducible repeat (first | refine blk_drewN ?_ _ | refine blk_drew ?_ | refine blk_alloc ?_ _)); exact BK221.out⟩, ⟨zb⟩⟩
  case rest =>
    clear HC6
    (try clear c1); (try clear p2); (try clear c3); (try clear c11); (try clear c13); (try clear c15); (try clear hcz15_0); (try clear hcz15_1); (try clear hcz15_2); (try clear hcz17_0); (try clear hcz17_1); (try clear hcz17_2); (try clear hcz19_0); (try clear hcz19_1); (try clear hcz19_2); (try clear hcz9_0); (try clear hcz9_1); (try clear hcz9_2); (try clear hfz15_0); (try clear hfz15_1); (try clear hfz15_2); (try clear hfz17_0); (try clear hfz17_1); (try clear hfz17_2); (try clear hfz19_0); (try clear hfz19_1); (try clear hfz19_2); (try clear hfz9_0); (try clear hfz9_1); (try clear hfz9_2)
    obtain ⟨kq, x31_5, rfl, HA, HJ5, BK221, HB⟩ := hcut
    cases kq with
    | zero => exact absurd HA.out (by simp [impl_Compare.j0])
    | succ kj5 =>
      have H := HA.out
      clear HA
      simp only [impl_Compare.j0] at H
      by_cases c21 : x31_5 = true
      · subst c21
        have H1 : (some (2, 1)) = some (r1, r2) := by rw [if_pos rfl] at H; exact H
        clear H
        have H := H1
        clear H1
        simp only [Option.some.injEq, Prod.mk.injEq] at H
        obtain ⟨rfl, rfl⟩ := H
        go_wp2
        go_ret2
        exact ⟨by first | rfl | (simp [errW_none, errW_some] <;> rfl) | (simp [*, errW_none, errW_some] <;> rfl), zb⟩
      · replace c21 := Bool.eq_false_iff.mpr c21
        subst c21
        have H1 : ((impl_Unpack.f kj5 a0 a1).bind fun bt225 => ((impl_Unpack.f kj5 a0 a2).bind fun bt229 => ((impl_isNaN.f bt225.1 bt225.2.1 bt225.2.2.1 bt225.2.2.2).bind fun t235 => (if t235 = true then (impl_Compare.j1 kj5 a0 a1 a2 a3 true bt225.1 bt225.2.1 bt225.2.2.1 bt225.2.2.2 bt229.1 bt229.2.1 bt229.2.2.1 bt229.2.2.2) else ((impl_isNaN.f bt229.1 bt229.2.1 bt229.2.2.1 bt229.2.2.2).bind fun t236 => (impl_Compare.j1 kj5 a0 a1 a2 a3 t236 bt225.1 bt225.2.1 bt225.2.2.1 bt225.2.2.2 bt229.1 bt229.2.1 bt229.2.2.1 bt229.2.2.2)))))) = some (r1, r2) := by rw [if_neg (show ¬ (false = true) by decide)] at H; exact H
        clear H
        have H := H1
        clear H1
        replace H := Option.bind_eq_some_iff.mp H
        obtain ⟨⟨t225, t226, t227, t228⟩, A220, H⟩ := H
        replace H : ((impl_Unpack.f kj5 a0 a2).bind fun bt229 => ((impl_isNaN.f t225 t226 t227 t228).bind fun t235 => (if t235 = true then (impl_Compare.j1 kj5 a0 a1 a2 a3 true t225 t226 t227 t228 bt229.1 bt229.2.1 bt229.2.2.1 bt229.2.2.2) else ((impl_isNaN.f bt229.1 bt229.2.1 bt229.2.2.1 bt229.2.2.2).bind fun t236 => (impl_Compare.j1 kj5 a0 a1 a2 a3 t236 t225 t226 t227 t228 bt229.1 bt229.2.1 bt229.2.2.1 bt229.2.2.2))))) = some (r1, r2) := H
        have A22 := Aside0.mk A220
        clear A220
        replace H := Option.bind_eq_some_iff.mp H
        obtain ⟨⟨t229, t230, t231, t232⟩, A230, H⟩ := H
        replace H : ((impl_isNaN.f t225 t226 t227 t228).bind fun t235 => (if t235 = true then (impl_Compare.j1 kj5 a0 a1 a2 a3 true t225 t226 t227 t228 t229 t230 t231 t232) else ((impl_isNaN.f t229 t230 t231 t232).bind fun t236 => (impl_Compare.j1 kj5 a0 a1 a2 a3 t236 t225 t226 t227 t228 t229 t230 t231 t232)))) = some (r1, r2) := H
        have A23 := Aside0.mk A230
        clear A230
        have HC24 := Aside0.mk H
        clear H
        go_upto_region 5 with (first | ((with_reducible refine gate_callee (f := 10) rfl ?_); refine goesL_ (some 34) rfl rfl Tryd.func10 (by kernel_rfl) rfl #[.int .i64 a0, .int .u64 a1] rfl (by (try simp only [List.map_toArray, List.map_cons, List.map_nil]); first | done | rfl | (simp only [List.length_drop, List.length_take]; rfl)) ?_; (with_reducible refine (impl_Unpack.calls kj5 a0 a1 t225 t226 t227 t228 _ ?side1 A22.out).mono ?_); (case side1 => exact Gformats.below hGformats zb); rintro e w25 ⟨rfl, hb⟩; refine ⟨_, rfl, ?_⟩; have n0_ := za BK221 hb; have n1_ := Aside0.mk (below_step zb hb); clear BK221 HB; have BK221 := n0_; have HB := n1_; clear n0_ n1_; (try clear hb); (try clear hb2); (try clear hk); (try clear hi)) | ((with_reducible refine gate_callee (f := 10) rfl ?_); refine goesL_ (some 37) rfl rfl Tryd.func10 (by kernel_rfl) rfl #[.int .i64 a0, .int .u64 a2] rfl (by (try simp only [List.map_toArray, List.map_cons, List.map_nil]); first | done | rfl | (simp only [List.length_drop, List.length_take]; rfl)) ?_; (with_reducible refine (impl_Unpack.calls kj5 a0 a2 t229 t230 t231 t232 _ ?side1 A23.out).mono ?_); (case side1 => exact Gformats.below hGformats zb); rintro e w26 ⟨rfl, hb⟩; refine ⟨_, rfl, ?_⟩; have n0_ := za BK221 hb; have n1_ := Aside0.mk (below_step zb hb); clear BK221 HB; have BK221 := n0_; have HB := n1_; clear n0_ n1_; (try clear hb); (try clear hb2); (try clear hk); (try clear hi)) | ((with_reducible refine gate_dst (N := 11) rfl ?_); refine box_event ?hg (N := 11) ?hd (cs := #[.int .i64 0, .int .i64 0, .int .i64 0, .int .u64 0]) (t := 24) ?hr ?_; (case hd => rfl); (case hg => rfl); (case hr => first | (go_simp; done) | (go_simp; rfl)); intro gb233 hg w27 hbox hb; have n0_ := za BK221 hb; have n1_ := Aside0.mk (below_step zb hb); have n2_ := Aside0.mk (hbox); have n3_ := zs w hg; have n4_ := zs w hg; have n5_ := zl BK221 hg; have n6_ := zg BK221 hg; clear BK221 HB; have BK221 := n0_; have HB := n1_; have BK233 := n2_; have GW233 := n3_; have GE233 := n4_; have NB221_233 := n5_; have NB233_221 := n6_; clear n0_ n1_ n2_ n3_ n4_ n5_ n6_ hb hbox hg) | ((with_reducible refine gate_dst (N := 12) rfl ?_); refine box_event ?hg (N := 12) ?hd (cs := #[.int .i64 0, .int .i64 0, .int .i64 0, .int .u64 0]) (t := 24) ?hr ?_; (case hd => rfl); (case hg => rfl); (case hr => first | (go_simp; done) | (go_simp; rfl)); intro gb234 hg w28 hbox hb; have n0_ := za BK221 hb; have n1_ := za BK233 hb; have n2_ := Aside0.mk (below_step zb hb); have n3_ := Aside0.mk (hbox); have n4_ := zs w hg; have n5_ := zs w hg; have n6_ := zl BK221 hg; have n7_ := zg BK221 hg; have n8_ := zl BK233 hg; have n9_ := zg BK233 hg; clear BK221 BK233 HB; have BK221 := n0_; have BK233 := n1_; have HB := n2_; have BK234 := n3_; have GW234 := n4_; have GE234 := n5_; have NB221_234 := n6_; have NB234_221 := n7_; have NB233_234 := n8_; have NB234_233 := n9_; clear n0_ n1_ n2_ n3_ n4_ n5_ n6_ n7_ n8_ n9_ hb hbox hg; have hnb29 := NB233_221.out; have hnc29 := NB221_233.out; have hnb30 := NB233_234.out; have hnc30 := NB234_233.out; have hcz31_0 : w28.cell? ⟨gb233, 0, none⟩ = some (.int .i64 0) := (blk_cell BK233.out 0).trans rfl; have hcz31_1 : w28.cell? ⟨gb233, 1, none⟩ = some (.int .i64 0) := (blk_cell BK233.out 1).trans rfl; have hcz31_2 : w28.cell? ⟨gb233, 2, none⟩ = some (.int .i64 0) := (blk_cell BK233.out 2).trans rfl; have hcz31_3 : w28.cell? ⟨gb233, 3, none⟩ = some (.int .u64 0) := (blk_cell BK233.out 3).trans rfl; have hfz31_0 := blk_frozen BK233.out 0; have hfz31_1 := blk_frozen BK233.out 1; have hfz31_2 := blk_frozen BK233.out 2; have hfz31_3 := blk_frozen BK233.out 3; have hnb32 := NB234_221.out; have hnc32 := NB221_234.out; have hcz33_0 : w28.cell? ⟨gb234, 0, none⟩ = some (.int .i64 0) := (blk_cell BK234.out 0).trans rfl; have hcz33_1 : w28.cell? ⟨gb234, 1, none⟩ = some (.int .i64 0) := (blk_cell BK234.out 1).trans rfl; have hcz33_2 : w28.cell? ⟨gb234, 2, none⟩ = some (.int .i64 0) := (blk_cell BK234.out 2).trans rfl; have hcz33_3 : w28.cell? ⟨gb234, 3, none⟩ = some (.int .u64 0) := (blk_cell BK234.out 3).trans rfl; have hfz33_0 := blk_frozen BK234.out 0; have hfz33_1 := blk_frozen BK234.out 1; have hfz33_2 := blk_frozen BK234.out 2; have hfz33_3 := blk_frozen BK234.out 3))
        (try simp only [Act.put, List.setIfInBounds_toArray, List.set_cons_zero, List.set_cons_succ])
        go_cut [43] (fun v43 wc => ∃ (kq : Nat) (x43_23 : Bool), v43 = .bool x43_23 ∧ Aside0 (impl_Compare.j1 kq a0 a1 a2 a3 x43_23 t225 t226 t227 t228 t229 t230 t231 t232 = some (r1, r2)) ∧ Aside0 (kq ≤ kj5) ∧ Aside0 (wc.heap[gb221]? = some (.cells #[.int .i64 t218, .int .i64 t219, .int .i64 t220] 45 (0, 0))) ∧ Aside0 (wc.heap[gb233]? = some (.cells #[.int .i64 t225, .int .i64 t226, .int .i64 t227, .int .u64 t228] 24 (0, 0))) ∧ Aside0 (wc.heap[gb234]? = some (.cells #[.int .i64 t229, .int .i64 t230, .int .i64 t231, .int .u64 t232] 24 (0, 0))) ∧ Aside0 (Below w.heap.size w wc))
        case first =>
          have H := HC24.out
          clear HC24
          replace H := Option.bind_eq_some_iff.mp H
          obtain ⟨t235, A340, H⟩ := H
          replace H : (if t235 = true then (impl_Compare.j1 kj5 a0 a1 a2 a3 true t225 t226 t227 t228 t229 t230 t231 t232) else ((impl_isNaN.f t229 t230 t231 t232).bind fun t236 => (impl_Compare.j1 kj5 a0 a1 a2 a3 t236 t225 t226 t227 t228 t229 t230 t231 t232))) = some (r1, r2) := H
          have A34 := Aside0.mk A340
          clear A340
          by_cases c35 : t235 = true
          · subst c35
            have H1 : (impl_Compare.j1 kj5 a0 a1 a2 a3 true t225 t226 t227 t228 t229 t230 t231 t232) = some (r1, r2) := by rw [if_pos rfl] at H; exact H
            clear H
            have H := H1
            clear H1
            have H' := Aside0.mk H
            clear H
            have hnb36 := NB233_221.out
            have hnc36 := NB221_233.out
            have hnb37 := NB233_234.out
            have hnc37 := NB234_233.out
            have hcz38_0 : w28.cell? ⟨gb233, 0, none⟩ = some (.int .i64 0) := (blk_cell BK233.out 0).trans rfl
            have hcz38_1 : w28.cell? ⟨gb233, 1, none⟩ = some (.int .i64 0) := (blk_cell BK233.out 1).trans rfl
            have hcz38_2 : w28.cell? ⟨gb233, 2, none⟩ = some (.int .i64 0) := (blk_cell BK233.out 2).trans rfl
            have hcz38_3 : w28.cell? ⟨gb233, 3, none⟩ = some (.int .u64 0) := (blk_cell BK233.out 3).trans rfl
            have hfz38_0 := blk_frozen BK233.out 0
            have hfz38_1 := blk_frozen BK233.out 1
            have hfz38_2 := blk_frozen BK233.out 2
            have hfz38_3 := blk_frozen BK233.out 3
            go_wp2_with (first | ((with_reducible refine gate_callee (f := 40) rfl ?_); refine goesL_ (some 39) rfl rfl Tryd.func40 (by kernel_rfl) rfl #[.agg #[.int .i64 t225, .int .i64 t226, .int .i64 t227, .int .u64 t228]] rfl (by (try simp only [List.map_toArray, List.map_cons, List.map_nil]); first | done | rfl | (simp only [List.length_drop, List.length_take]; rfl)) ?_; (with_reducible refine (impl_isNaN.calls t225 t226 t227 t228 true _ A34.out).mono ?_); rintro e w39 ⟨rfl, hb⟩; refine ⟨_, rfl, ?_⟩; have n0_ := Aside0.mk (blk_below (g := gb221) (o := .cells #[.int .i64 t218, .int .i64 t219, .int .i64 t220] 45 (0, 0)) (by (with_reducible repeat (first | refine blk_drewN ?_ _ | refine blk_drew ?_ | refine blk_alloc ?_ _)); refine blk_far ?_ NB221_234.out _; (with_reducible repeat (first | refine blk_drewN ?_ _ | refine blk_drew ?_ | refine blk_alloc ?_ _)); refine blk_far ?_ NB221_234.out _; (with_reducible repeat (first | refine blk_drewN ?_ _ | refine blk_drew ?_ | refine blk_alloc ?_ _)); refine blk_far ?_ NB221_234.out _; (with_reducible repeat (first | refine blk_drewN ?_ _ | refine blk_drew ?_ | refine blk_alloc ?_ _)); refine blk_far ?_ NB221_234.out _; (with_reducible repeat (first | refine blk_drewN ?_ _ | refine blk_drew ?_ | refine blk_alloc ?_ _)); refine blk_far ?_ NB221_233.out _; (with_reducible repeat (first | refine blk_drewN ?_ _ | refine blk_drew ?_ | refine blk_alloc ?_ _)); refine blk_far ?_ NB221_233.out _; (with_reducible repeat (first | refine blk_drewN ?_ _ | refine blk_drew ?_ | refine blk_alloc ?_ _)); refine blk_far ?_ NB221_233.out _; (with_reducible repeat (first | refine blk_drewN ?_ _ | refine blk_drew ?_ | refine blk_alloc ?_ _)); refine blk_far ?_ NB221_233.out _; (with_reducible repeat (first | refine blk_drewN ?_ _ | refine blk_drew ?_ | refine blk_alloc ?_ _)); exact BK221.out) hb); have n1_ := Aside0.mk (blk_below (g := gb233) (o := .cells #[.int .i64 t225, .int .i64 t226, .int .i64 t227, .int .u64 t228] 24 (0, 0)) (by (with_reducible repeat (first | refine blk_drewN ?_ _ | refine blk_drew ?_ | refine blk_alloc ?_ _)); refine blk_far ?_ NB233_234.out _; (with_reducible repeat (first | refine blk_drewN ?_ _ | refine blk_drew ?_ | refine blk_alloc ?_ _)); refine blk_far ?_ NB233_234.out _; (with_reducible repeat (first | refine blk_drewN ?_ _ | refine blk_drew ?_ | refine blk_alloc ?_ _)); refine blk_far ?_ NB233_234.out _; (with_reducible repeat (first | refine blk_drewN ?_ _ | refine blk_drew ?_ | refine blk_alloc ?_ _)); refine blk_far ?_ NB233_234.out _; (with_reducible repeat (first | refine blk_drewN ?_ _ | refine blk_drew ?_ | refine blk_alloc ?_ _)); refine blk_put (cs := #[.int .i64 t225, .int .i64 t226, .int .i64 t227, .int .u64 0]) ?_ 3 _ rfl; (with_reducible repeat (first | refine blk_drewN ?_ _ | refine blk_drew ?_ | refine blk_alloc ?_ _)); refine blk_put (cs := #[.int .i64 t225, .int .i64 t226, .int .i64 0, .int .u64 0]) ?_ 2 _ rfl; (with_reducible repeat (first | refine blk_drewN ?_ _ | refine blk_drew ?_ | refine blk_alloc ?_ _)); refine blk_put (cs := #[.int .i64 t225, .int .i64 0, .int .i64 0, .int .u64 0]) ?_ 1 _ rfl; (with_reducible repeat (first | refine blk_drewN ?_ _ | refine blk_drew ?_ | refine blk_alloc ?_ _)); refine blk_put (cs := #[.int .i64 0, .int .i64 0, .int .i64 0, .int .u64 0]) ?_ 0 _ rfl; (with_reducible repeat (first | refine blk_drewN ?_ _ | refine blk_drew ?_ | refine blk_alloc ?_ _)); exact BK233.out) hb); have n2_ := Aside0.mk (blk_below (g := gb234) (o := .cells #[.int .i64 t229, .int .i64 t230, .int .i64 t231, .int .u64 t232] 24 (0, 0)) (by (with_reducible repeat (first | refine blk_drewN ?_ _ | refine blk_drew ?_ | refine blk_alloc ?_ _)); refine blk_put (cs := #[.int .i64 t229, .int .i64 t230, .int .i64 t231, .int .u64 0]) ?_ 3 _ rfl; (with_reducible repeat (first | refine blk_drewN ?_ _ | refine blk_drew ?_ | refine blk_alloc ?_ _)); refine blk_put (cs := #[.int .i64 t229, .int .i64 t230, .int .i64 0, .int .u64 0]) ?_ 2 _ rfl; (with_reducible repeat (first | refine blk_drewN ?_ _ | refine blk_drew ?_ | refine blk_alloc ?_ _)); refine blk_put (cs := #[.int .i64 t229, .int .i64 0, .int .i64 0, .int .u64 0]) ?_ 1 _ rfl; (with_reducible repeat (first | refine blk_drewN ?_ _ | refine blk_drew ?_ | refine blk_alloc ?_ _)); refine blk_put (cs := #[.int .i64 0, .int .i64 0, .int .i64 0, .int .u64 0]) ?_ 0 _ rfl; (with_reducible repeat (first | refine blk_drewN ?_ _ | refine blk_drew ?_ | refine blk_alloc ?_ _)); refine blk_far ?_ NB234_233.out _; (with_reducible repeat (first | refine blk_drewN ?_ _ | refine blk_drew ?_ | refine blk_alloc ?_ _)); refine blk_far ?_ NB234_233.out _; (with_reducible repeat (first | refine blk_drewN ?_ _ | refine blk_drew ?_ | refine blk_alloc ?_ _)); refine blk_far ?_ NB234_233.out _; (with_reducible repeat (first | refine blk_drewN ?_ _ | refine blk_drew ?_ | refine blk_alloc ?_ _)); refine blk_far ?_ NB234_233.out _; (with_reducible repeat (first | refine blk_drewN ?_ _ | refine blk_drew ?_ | refine blk_alloc ?_ _)); exact BK234.out) hb); have n3_ := Aside0.mk (below_step zb hb); clear BK221 BK233 BK234 HB; have BK221 := n0_; have BK233 := n1_; have BK234 := n2_; have HB := n3_; clear n0_ n1_ n2_ n3_; (try clear hb); (try clear hb2); (try clear hk); (try clear hi)))
            go_meet
            case rel => exact ⟨_, (true), (by first | rfl | (simp; done) | (simp [*]; done)), H', ⟨by have := HJ5.out; first | omega | exact Nat.le_refl _⟩, ⟨zk⟩, ⟨zk⟩, ⟨zk⟩, ⟨zb⟩⟩
          · replace c35 := Bool.eq_false_iff.mpr c35
            subst c35
            have H1 : ((impl_isNaN.f t229 t230 t231 t232).bind fun t236 => (impl_Compare.j1 kj5 a0 a1 a2 a3 t236 t225 t226 t227 t228 t229 t230 t231 t232)) = some (r1, r2) := by rw [if_neg (show ¬ (false = true) by decide)] at H; exact H
            clear H
            have H := H1
            clear H1
            replace H := Option.bind_eq_some_iff.mp H
            obtain ⟨t236, A400, H⟩ := H
            replace H : (impl_Compare.j1 kj5 a0 a1 a2 a3 t236 t225 t226 t227 t228 t229 t230 t231 t232) = some (r1, r2) := H
            have A40 := Aside0.mk A400
            clear A400
            have H' := Aside0.mk H
            clear H
            have hnb41 := NB233_221.out
            have hnc41 := NB221_233.out
            have hnb42 := NB233_234.out
            have hnc42 := NB234_233.out
            have hcz43_0 : w28.cell? ⟨gb233, 0, none⟩ = some (.int .i64 0) := (blk_cell BK233.out 0).trans rfl
            have hcz43_1 : w28.cell? ⟨gb233, 1, none⟩ = some (.int .i64 0) := (blk_cell BK233.out 1).trans rfl
            have hcz43_2 : w28.cell? ⟨gb233, 2, none⟩ = some (.int .i64 0) := (blk_cell BK233.out 2).trans rfl
            have hcz43_3 : w28.cell? ⟨gb233, 3, none⟩ = some (.int .u64 0) := (blk_cell BK233.out 3).trans rfl
            have hfz43_0 := blk_frozen BK233.out 0
            have hfz43_1 := blk_frozen BK233.out 1
            have hfz43_2 := blk_frozen BK233.out 2
            have hfz43_3 := blk_frozen BK233.out 3
            go_wp2_with (first | ((with_reducible refine gate_callee (f := 40) rfl ?_); refine goesL_ (some 39) rfl rfl Tryd.func40 (by kernel_rfl) rfl #[.agg #[.int .i64 t225, .int .i64 t226, .int .i64 t227, .int .u64 t228]] rfl (by (try simp only [List.map_toArray, List.map_cons, List.map_nil]); first | done | rfl | (simp only [List.length_drop, List.length_take]; rfl)) ?_; (with_reducible refine (impl_isNaN.calls t225 t226 t227 t228 false _ A34.out).mono ?_); rintro e w44 ⟨rfl, hb⟩; refine ⟨_, rfl, ?_⟩; have n0_ := Aside0.mk (blk_below (g := gb221) (o := .cells #[.int .i64 t218, .int .i64 t219, .int .i64 t220] 45 (0, 0)) (by (with_reducible repeat (first | refine blk_drewN ?_ _ | refine blk_drew ?_ | refine blk_alloc ?_ _)); refine blk_far ?_ NB221_234.out _; (with_reducible repeat (first | refine blk_drewN ?_ _ | refine blk_drew ?_ | refine blk_alloc ?_ _)); refine blk_far ?_ NB221_234.out _; (with_reducible repeat (first | refine blk_drewN ?_ _ | refine blk_drew ?_ | refine blk_alloc ?_ _)); refine blk_far ?_ NB221_234.out _; (with_reducible repeat (first | refine blk_drewN ?_ _ | refine blk_drew ?_ | refine blk_alloc ?_ _)); refine blk_far ?_ NB221_234.out _; (with_reducible repeat (first | refine blk_drewN ?_ _ | refine blk_drew ?_ | refine blk_alloc ?_ _)); refine blk_far ?_ NB221_233.out _; (with_reducible repeat (first | refine blk_drewN ?_ _ | refine blk_drew ?_ | refine blk_alloc ?_ _)); refine blk_far ?_ NB221_233.out _; (with_reducible repeat (first | refine blk_drewN ?_ _ | refine blk_drew ?_ | refine blk_alloc ?_ _)); refine blk_far ?_ NB221_233.out _; (with_reducible repeat (first | refine blk_drewN ?_ _ | refine blk_drew ?_ | refine blk_alloc ?_ _)); refine blk_far ?_ NB221_233.out _; (with_reducible repeat (first | refine blk_drewN ?_ _ | refine blk_drew ?_ | refine blk_alloc ?_ _)); exact BK221.out) hb); have n1_ := Aside0.mk (blk_below (g := gb233) (o := .cells #[.int .i64 t225, .int .i64 t226, .int .i64 t227, .int .u64 t228] 24 (0, 0)) (by (with_reducible repeat (first | refine blk_drewN ?_ _ | refine blk_drew ?_ | refine blk_alloc ?_ _)); refine blk_far ?_ NB233_234.out _; (with_reducible repeat (first | refine blk_drewN ?_ _ | refine blk_drew ?_ | refine blk_alloc ?_ _)); refine blk_far ?_ NB233_234.out _; (with_reducible repeat (first | refine blk_drewN ?_ _ | refine blk_drew ?_ | refine blk_alloc ?_ _)); refine blk_far ?_ NB233_234.out _; (with_reducible repeat (first | refine blk_drewN ?_ _ | refine blk_drew ?_ | refine blk_alloc ?_ _)); refine blk_far ?_ NB233_234.out _; (with_reducible repeat (first | refine blk_drewN ?_ _ | refine blk_drew ?_ | refine blk_alloc ?_ _)); refine blk_put (cs := #[.int .i64 t225, .int .i64 t226, .int .i64 t227, .int .u64 0]) ?_ 3 _ rfl; (with_reducible repeat (first | refine blk_drewN ?_ _ | refine blk_drew ?_ | refine blk_alloc ?_ _)); refine blk_put (cs := #[.int .i64 t225, .int .i64 t226, .int .i64 0, .int .u64 0]) ?_ 2 _ rfl; (with_reducible repeat (first | refine blk_drewN ?_ _ | refine blk_drew ?_ | refine blk_alloc ?_ _)); refine blk_put (cs := #[.int .i64 t225, .int .i64 0, .int .i64 0, .int .u64 0]) ?_ 1 _ rfl; (with_reducible repeat (first | refine blk_drewN ?_ _ | refine blk_drew ?_ | refine blk_alloc ?_ _)); refine blk_put (cs := #[.int .i64 0, .int .i64 0, .int .i64 0, .int .u64 0]) ?_ 0 _ rfl; (with_reducible repeat (first | refine blk_drewN ?_ _ | refine blk_drew ?_ | refine blk_alloc ?_ _)); exact BK233.out) hb); have n2_ := Aside0.mk (blk_below (g := gb234) (o := .cells #[.int .i64 t229, .int .i64 t230, .int .i64 t231, .int .u64 t232] 24 (0, 0)) (by (with_reducible repeat (first | refine blk_drewN ?_ _ | refine blk_drew ?_ | refine blk_alloc ?_ _)); refine blk_put (cs := #[.int .i64 t229, .int .i64 t230, .int .i64 t231, .int .u64 0]) ?_ 3 _ rfl; (with_reducible repeat (first | refine blk_drewN ?_ _ | refine blk_drew ?_ | refine blk_alloc ?_ _)); refine blk_put (cs := #[.int .i64 t229, .int .i64 t230, .int .i64 0, .int .u64 0]) ?_ 2 _ rfl; (with_reducible repeat (first | refine blk_drewN ?_ _ | refine blk_drew ?_ | refine blk_alloc ?_ _)); refine blk_put (cs := #[.int .i64 t229, .int .i64 0, .int .i64 0, .int .u64 0]) ?_ 1 _ rfl; (with_reducible repeat (first | refine blk_drewN ?_ _ | refine blk_drew ?_ | refine blk_alloc ?_ _)); refine blk_put (cs := #[.int .i64 0, .int .i64 0, .int .i64 0, .int .u64 0]) ?_ 0 _ rfl; (with_reducible repeat (first | refine blk_drewN ?_ _ | refine blk_drew ?_ | refine blk_alloc ?_ _)); refine blk_far ?_ NB234_233.out _; (with_reducible repeat (first | refine blk_drewN ?_ _ | refine blk_drew ?_ | refine blk_alloc ?_ _)); refine blk_far ?_ NB234_233.out _; (with_reducible repeat (first | refine blk_drewN ?_ _ | refine blk_drew ?_ | refine blk_alloc ?_ _)); refine blk_far ?_ NB234_233.out _; (with_reducible repeat (first | refine blk_drewN ?_ _ | refine blk_drew ?_ | refine blk_alloc ?_ _)); refine blk_far ?_ NB234_233.out _; (with_reducible repeat (first | refine blk_drewN ?_ _ | refine blk_drew ?_ | refine blk_alloc ?_ _)); exact BK234.out) hb); have n3_ := Aside0.mk (below_step zb hb); clear BK221 BK233 BK234 HB; have BK221 := n0_; have BK233 := n1_; have BK234 := n2_; have HB := n3_; clear n0_ n1_ n2_ n3_; (try clear hb); (try clear hb2); (try clear hk); (try clear hi); have hnb45 := NB234_221.out; have hnc45 := NB221_234.out; have hcz46_0 : w44.cell? ⟨gb234, 0, none⟩ = some (.int .i64 t229) := (blk_cell BK234.out 0).trans rfl; have hcz46_1 : w44.cell? ⟨gb234, 1, none⟩ = some (.int .i64 t230) := (blk_cell BK234.out 1).trans rfl; have hcz46_2 : w44.cell? ⟨gb234, 2, none⟩ = some (.int .i64 t231) := (blk_cell BK234.out 2).trans rfl; have hcz46_3 : w44.cell? ⟨gb234, 3, none⟩ = some (.int .u64 t232) := (blk_cell BK234.out 3).trans rfl; have hfz46_0 := blk_frozen BK234.out 0; have hfz46_1 := blk_frozen BK234.out 1; have hfz46_2 := blk_frozen BK234.out 2; have hfz46_3 := blk_frozen BK234.out 3) | (go_at_call 40; (with_reducible refine (impl_isNaN.calls t229 t230 t231 t232 t236 _ A40.out).mono ?_); rintro e w47 ⟨rfl, hb⟩; have n0_ := za BK221 hb; have n1_ := za BK233 hb; have n2_ := za BK234 hb; have n3_ := Aside0.mk (below_step zb hb); clear BK221 BK233 BK234 HB; have BK221 := n0_; have BK233 := n1_; have BK234 := n2_; have HB := n3_; clear n0_ n1_ n2_ n3_; (try clear hb); (try clear hb2); (try clear hk); (try clear hi)))
            go_meet
            case rel => exact ⟨_, (t236), (by first | rfl | (simp; done) | (simp [*]; done)), H', ⟨by have := HJ5.out; first | omega | exact Nat.le_refl _⟩, ⟨zk⟩, ⟨zk⟩, ⟨zk⟩, ⟨zb⟩⟩
        case rest =>
          clear HC24
          (try clear c1); (try clear c2); (try clear p2); (try clear c3); (try clear c4); (try clear c10); (try clear c11); (try clear c13); (try clear c15); (try clear c21); (try clear c29); (try clear c30); (try clear c31); (try clear c32); (try clear c35); (try clear c36); (try clear c37); (try clear c40); (try clear c41); (try clear c42); (try clear c45); (try clear hcz15_0); (try clear hcz15_1); (try clear hcz15_2); (try clear hcz17_0); (try clear hcz17_1); (try clear hcz17_2); (try clear hcz19_0); (try clear hcz19_1); (try clear hcz19_2); (try clear hcz31_0); (try clear hcz31_1); (try clear hcz31_2); (try clear hcz31_3); (try clear hcz33_0); (try clear hcz33_1); (try clear hcz33_2); (try clear hcz33_3); (try clear hcz38_0); (try clear hcz38_1); (try clear hcz38_2); (try clear hcz38_3); (try clear hcz43_0); (try clear hcz43_1); (try clear hcz43_2); (try clear hcz43_3); (try clear hcz46_0); (try clear hcz46_1); (try clear hcz46_2); (try clear hcz46_3); (try clear hcz9_0); (try clear hcz9_1); (try clear hcz9_2); (try clear hfz15_0); (try clear hfz15_1); (try clear hfz15_2); (try clear hfz17_0); (try clear hfz17_1); (try clear hfz17_2); (try clear hfz19_0); (try clear hfz19_1); (try clear hfz19_2); (try clear hfz31_0); (try clear hfz31_1); (try clear hfz31_2); (try clear hfz31_3); (try clear hfz33_0); (try clear hfz33_1); (try clear hfz33_2); (try clear hfz33_3); (try clear hfz38_0); (try clear hfz38_1); (try clear hfz38_2); (try clear hfz38_3); (try clear hfz43_0); (try clear hfz43_1); (try clear hfz43_2); (try clear hfz43_3); (try clear hfz46_0); (try clear hfz46_1); (try clear hfz46_2); (try clear hfz46_3); (try clear hfz9_0); (try clear hfz9_1); (try clear hfz9_2); (try clear p2)
          obtain ⟨kq, x43_23, rfl, HA, HJ23, BK221, BK233, BK234, HB⟩ := hcut
          cases kq with
          | zero => exact absurd HA.out (by simp [impl_Compare.j1])
          | succ kj23 =>
            have H := HA.out
            clear HA
            simp only [impl_Compare.j1] at H
            by_cases c48 : x43_23 = true
            · subst c48
              have H1 : (if a3 = true then (some (2, 1)) else (if t225 = 4 then (some (2, 1)) else (if t229 = 4 then (some (2, 1)) else (some (2, 0))))) = some (r1, r2) := by rw [if_pos rfl] at H; exact H
              clear H
              have H := H1
              clear H1
              by_cases c49 : a3 = true
              · subst c49
                have H1 : (some (2, 1)) = some (r1, r2) := by rw [if_pos rfl] at H; exact H
                clear H
                have H := H1
                clear H1
                simp only [Option.some.injEq, Prod.mk.injEq] at H
                obtain ⟨rfl, rfl⟩ := H
                go_wp2
                go_ret2
                exact ⟨by first | rfl | (simp [errW_none, errW_some] <;> rfl) | (simp [*, errW_none, errW_some] <;> rfl), zb⟩
              · replace c49 := Bool.eq_false_iff.mpr c49
                subst c49
                have H1 : (if t225 = 4 then (some (2, 1)) else (if t229 = 4 then (some (2, 1)) else (some (2, 0)))) = some (r1, r2) := by rw [if_neg (show ¬ (false = true) by decide)] at H; exact H
                clear H
                have H := H1
                clear H1
                by_cases c50 : t225 = 4
                · rw [if_pos c50] at H
                  have c50b0 : (t225 == 4) = true := beq_iff_eq.mpr c50
                  have c50b1 : (t225 != 4) = false := bne_eq_false_iff_eq.mpr c50
                  clear c50
                  simp only [Option.some.injEq, Prod.mk.injEq] at H
                  obtain ⟨rfl, rfl⟩ := H
                  have hnb51 := NB233_221.out
                  have hnc51 := NB221_233.out
                  have hnb52 := NB233_234.out
                  have hnc52 := NB234_233.out
                  have hcz53_0 : wc.cell? ⟨gb233, 0, none⟩ = some (.int .i64 t225) := (blk_cell BK233.out 0).trans rfl
                  have hcz53_1 : wc.cell? ⟨gb233, 1, none⟩ = some (.int .i64 t226) := (blk_cell BK233.out 1).trans rfl
                  have hcz53_2 : wc.cell? ⟨gb233, 2, none⟩ = some (.int .i64 t227) := (blk_cell BK233.out 2).trans rfl
                  have hcz53_3 : wc.cell? ⟨gb233, 3, none⟩ = some (.int .u64 t228) := (blk_cell BK233.out 3).trans rfl
                  have hfz53_0 := blk_frozen BK233.out 0
                  have hfz53_1 := blk_frozen BK233.out 1
                  have hfz53_2 := blk_frozen BK233.out 2
                  have hfz53_3 := blk_frozen BK233.out 3
                  go_wp2
                  go_ret2
                  exact ⟨by first | rfl | (simp [errW_none, errW_some] <;> rfl) | (simp [*, errW_none, errW_some] <;> rfl), zb⟩
                · rw [if_neg c50] at H
                  have c50b0 : (t225 == 4) = false := beq_eq_false_iff_ne.mpr c50
                  have c50b1 : (t225 != 4) = true := bne_iff_ne.mpr c50
                  by_cases c54 : t229 = 4
                  · rw [if_pos c54] at H
                    have c54b0 : (t229 == 4) = true := beq_iff_eq.mpr c54
                    have c54b1 : (t229 != 4) = false := bne_eq_false_iff_eq.mpr c54
                    clear c54
                    simp only [Option.some.injEq, Prod.mk.injEq] at H
                    obtain ⟨rfl, rfl⟩ := H
                    have hnb55 := NB233_221.out
                    have hnc55 := NB221_233.out
                    have hnb56 := NB233_234.out
                    have hnc56 := NB234_233.out
                    have hcz57_0 : wc.cell? ⟨gb233, 0, none⟩ = some (.int .i64 t225) := (blk_cell BK233.out 0).trans rfl
                    have hcz57_1 : wc.cell? ⟨gb233, 1, none⟩ = some (.int .i64 t226) := (blk_cell BK233.out 1).trans rfl
                    have hcz57_2 : wc.cell? ⟨gb233, 2, none⟩ = some (.int .i64 t227) := (blk_cell BK233.out 2).trans rfl
                    have hcz57_3 : wc.cell? ⟨gb233, 3, none⟩ = some (.int .u64 t228) := (blk_cell BK233.out 3).trans rfl
                    have hfz57_0 := blk_frozen BK233.out 0
                    have hfz57_1 := blk_frozen BK233.out 1
                    have hfz57_2 := blk_frozen BK233.out 2
                    have hfz57_3 := blk_frozen BK233.out 3
                    have hnb58 := NB234_221.out
                    have hnc58 := NB221_234.out
                    have hcz59_0 : wc.cell? ⟨gb234, 0, none⟩ = some (.int .i64 t229) := (blk_cell BK234.out 0).trans rfl
                    have hcz59_1 : wc.cell? ⟨gb234, 1, none⟩ = some (.int .i64 t230) := (blk_cell BK234.out 1).trans rfl
                    have hcz59_2 : wc.cell? ⟨gb234, 2, none⟩ = some (.int .i64 t231) := (blk_cell BK234.out 2).trans rfl
                    have hcz59_3 : wc.cell? ⟨gb234, 3, none⟩ = some (.int .u64 t232) := (blk_cell BK234.out 3).trans rfl
                    have hfz59_0 := blk_frozen BK234.out 0
                    have hfz59_1 := blk_frozen BK234.out 1
                    have hfz59_2 := blk_frozen BK234.out 2
                    have hfz59_3 := blk_frozen BK234.out 3
                    go_wp2
                    go_ret2
                    exact ⟨by first | rfl | (simp [errW_none, errW_some] <;> rfl) | (simp [*, errW_none, errW_some] <;> rfl), zb⟩
                  · rw [if_neg c54] at H
                    have c54b0 : (t229 == 4) = false := beq_eq_false_iff_ne.mpr c54
                    have c54b1 : (t229 != 4) = true := bne_iff_ne.mpr c54
                    simp only [Option.some.injEq, Prod.mk.injEq] at H
                    obtain ⟨rfl, rfl⟩ := H
                    have hnb60 := NB233_221.out
                    have hnc60 := NB221_233.out
                    have hnb61 := NB233_234.out
                    have hnc61 := NB234_233.out
                    have hcz62_0 : wc.cell? ⟨gb233, 0, none⟩ = some (.int .i64 t225) := (blk_cell BK233.out 0).trans rfl
                    have hcz62_1 : wc.cell? ⟨gb233, 1, none⟩ = some (.int .i64 t226) := (blk_cell BK233.out 1).trans rfl
                    have hcz62_2 : wc.cell? ⟨gb233, 2, none⟩ = some (.int .i64 t227) := (blk_cell BK233.out 2).trans rfl
                    have hcz62_3 : wc.cell? ⟨gb233, 3, none⟩ = some (.int .u64 t228) := (blk_cell BK233.out 3).trans rfl
                    have hfz62_0 := blk_frozen BK233.out 0
                    have hfz62_1 := blk_frozen BK233.out 1
                    have hfz62_2 := blk_frozen BK233.out 2
                    have hfz62_3 := blk_frozen BK233.out 3
                    have hnb63 := NB234_221.out
                    have hnc63 := NB221_234.out
                    have hcz64_0 : wc.cell? ⟨gb234, 0, none⟩ = some (.int .i64 t229) := (blk_cell BK234.out 0).trans rfl
                    have hcz64_1 : wc.cell? ⟨gb234, 1, none⟩ = some (.int .i64 t230) := (blk_cell BK234.out 1).trans rfl
                    have hcz64_2 : wc.cell? ⟨gb234, 2, none⟩ = some (.int .i64 t231) := (blk_cell BK234.out 2).trans rfl
                    have hcz64_3 : wc.cell? ⟨gb234, 3, none⟩ = some (.int .u64 t232) := (blk_cell BK234.out 3).trans rfl
                    have hfz64_0 := blk_frozen BK234.out 0
                    have hfz64_1 := blk_frozen BK234.out 1
                    have hfz64_2 := blk_frozen BK234.out 2
                    have hfz64_3 := blk_frozen BK234.out 3
                    go_wp2
                    go_ret2
                    exact ⟨by first | rfl | (simp [errW_none, errW_some] <;> rfl) | (simp [*, errW_none, errW_some] <;> rfl), zb⟩
            · replace c48 := Bool.eq_false_iff.mpr c48
              subst c48
              have H1 : ((impl_key.f kj23 a0 a1).bind fun t237 => ((impl_key.f kj23 a0 a2).bind fun t238 => (if t237 < t238 then (some ((-1), 0)) else (if t237 > t238 then (some (1, 0)) else (some (0, 0)))))) = some (r1, r2) := by rw [if_neg (show ¬ (false = true) by decide)] at H; exact H
              clear H
              have H := H1
              clear H1
              replace H := Option.bind_eq_some_iff.mp H
              obtain ⟨t237, A650, H⟩ := H
              replace H : ((impl_key.f kj23 a0 a2).bind fun t238 => (if t237 < t238 then (some ((-1), 0)) else (if t237 > t238 then (some (1, 0)) else (some (0, 0))))) = some (r1, r2) := H
              have A65 := Aside0.mk A650
              clear A650
              replace H := Option.bind_eq_some_iff.mp H
              obtain ⟨t238, A660, H⟩ := H
              replace H : (if t237 < t238 then (some ((-1), 0)) else (if t237 > t238 then (some (1, 0)) else (some (0, 0)))) = some (r1, r2) := H
              have A66 := Aside0.mk A660
              clear A660
              by_cases c67 : t237 < t238
              · rw [if_pos c67] at H
                have c67b0 : decide (t237 < t238) = true := decide_eq_true c67
                clear c67
                simp only [Option.some.injEq, Prod.mk.injEq] at H
                obtain ⟨rfl, rfl⟩ := H
                go_wp2_with (first | ((with_reducible refine gate_callee (f := 41) rfl ?_); refine goesL_ (some 57) rfl rfl Tryd.func41 (by kernel_rfl) rfl #[.int .i64 a0, .int .u64 a1] rfl (by (try simp only [List.map_toArray, List.map_cons, List.map_nil]); first | done | rfl | (simp only [List.length_drop, List.length_take]; rfl)) ?_; (with_reducible refine (impl_key.calls kj23 a0 a1 t237 _ ?side1 A65.out).mono ?_); (case side1 => exact Gformats.below hGformats zb); rintro e w68 ⟨rfl, hb⟩; refine ⟨_, rfl, ?_⟩; have n0_ := za BK221 hb; have n1_ := za BK233 hb; have n2_ := za BK234 hb; have n3_ := Aside0.mk (below_step zb hb); clear BK221 BK233 BK234 HB; have BK221 := n0_; have BK233 := n1_; have BK234 := n2_; have HB := n3_; clear n0_ n1_ n2_ n3_; (try clear hb); (try clear hb2); (try clear hk); (try clear hi)) | ((with_reducible refine gate_callee (f := 41) rfl ?_); refine goesL_ (some 60) rfl rfl Tryd.func41 (by kernel_rfl) rfl #[.int .i64 a0, .int .u64 a2] rfl (by (try simp only [List.map_toArray, List.map_cons, List.map_nil]); first | done | rfl | (simp only [List.length_drop, List.length_take]; rfl)) ?_; (with_reducible refine (impl_key.calls kj23 a0 a2 t238 _ ?side1 A66.out).mono ?_); (case side1 => exact Gformats.below hGformats zb); rintro e w69 ⟨rfl, hb⟩; refine ⟨_, rfl, ?_⟩; have n0_ := za BK221 hb; have n1_ := za BK233 hb; have n2_ := za BK234 hb; have n3_ := Aside0.mk (below_step zb hb); clear BK221 BK233 BK234 HB; have BK221 := n0_; have BK233 := n1_; have BK234 := n2_; have HB := n3_; clear n0_ n1_ n2_ n3_; (try clear hb); (try clear hb2); (try clear hk); (try clear hi)))
                go_ret2
                exact ⟨by first | rfl | (simp [errW_none, errW_some] <;> rfl) | (simp [*, errW_none, errW_some] <;> rfl), zb⟩
              · rw [if_neg c67] at H
                have c67b0 : decide (t237 < t238) = false := decide_eq_false c67
                clear c67
                by_cases c70 : t237 > t238
                · rw [if_pos c70] at H
                  have c70b0 : decide (t238 < t237) = true := decide_eq_true c70
                  clear c70
                  simp only [Option.some.injEq, Prod.mk.injEq] at H
                  obtain ⟨rfl, rfl⟩ := H
                  go_wp2_with (first | ((with_reducible refine gate_callee (f := 41) rfl ?_); refine goesL_ (some 57) rfl rfl Tryd.func41 (by kernel_rfl) rfl #[.int .i64 a0, .int .u64 a1] rfl (by (try simp only [List.map_toArray, List.map_cons, List.map_nil]); first | done | rfl | (simp only [List.length_drop, List.length_take]; rfl)) ?_; (with_reducible refine (impl_key.calls kj23 a0 a1 t237 _ ?side1 A65.out).mono ?_); (case side1 => exact Gformats.below hGformats zb); rintro e w71 ⟨rfl, hb⟩; refine ⟨_, rfl, ?_⟩; have n0_ := za BK221 hb; have n1_ := za BK233 hb; have n2_ := za BK234 hb; have n3_ := Aside0.mk (below_step zb hb); clear BK221 BK233 BK234 HB; have BK221 := n0_; have BK233 := n1_; have BK234 := n2_; have HB := n3_; clear n0_ n1_ n2_ n3_; (try clear hb); (try clear hb2); (try clear hk); (try clear hi)) | ((with_reducible refine gate_callee (f := 41) rfl ?_); refine goesL_ (some 60) rfl rfl Tryd.func41 (by kernel_rfl) rfl #[.int .i64 a0, .int .u64 a2] rfl (by (try simp only [List.map_toArray, List.map_cons, List.map_nil]); first | done | rfl | (simp only [List.length_drop, List.length_take]; rfl)) ?_; (with_reducible refine (impl_key.calls kj23 a0 a2 t238 _ ?side1 A66.out).mono ?_); (case side1 => exact Gformats.below hGformats zb); rintro e w72 ⟨rfl, hb⟩; refine ⟨_, rfl, ?_⟩; have n0_ := za BK221 hb; have n1_ := za BK233 hb; have n2_ := za BK234 hb; have n3_ := Aside0.mk (below_step zb hb); clear BK221 BK233 BK234 HB; have BK221 := n0_; have BK233 := n1_; have BK234 := n2_; have HB := n3_; clear n0_ n1_ n2_ n3_; (try clear hb); (try clear hb2); (try clear hk); (try clear hi)))
                  go_ret2
                  exact ⟨by first | rfl | (simp [errW_none, errW_some] <;> rfl) | (simp [*, errW_none, errW_some] <;> rfl), zb⟩
                · rw [if_neg c70] at H
                  have c70b0 : decide (t238 < t237) = false := decide_eq_false c70
                  clear c70
                  simp only [Option.some.injEq, Prod.mk.injEq] at H
                  obtain ⟨rfl, rfl⟩ := H
                  go_wp2_with (first | ((with_reducible refine gate_callee (f := 41) rfl ?_); refine goesL_ (some 57) rfl rfl Tryd.func41 (by kernel_rfl) rfl #[.int .i64 a0, .int .u64 a1] rfl (by (try simp only [List.map_toArray, List.map_cons, List.map_nil]); first | done | rfl | (simp only [List.length_drop, List.length_take]; rfl)) ?_; (with_reducible refine (impl_key.calls kj23 a0 a1 t237 _ ?side1 A65.out).mono ?_); (case side1 => exact Gformats.below hGformats zb); rintro e w73 ⟨rfl, hb⟩; refine ⟨_, rfl, ?_⟩; have n0_ := za BK221 hb; have n1_ := za BK233 hb; have n2_ := za BK234 hb; have n3_ := Aside0.mk (below_step zb hb); clear BK221 BK233 BK234 HB; have BK221 := n0_; have BK233 := n1_; have BK234 := n2_; have HB := n3_; clear n0_ n1_ n2_ n3_; (try clear hb); (try clear hb2); (try clear hk); (try clear hi)) | ((with_reducible refine gate_callee (f := 41) rfl ?_); refine goesL_ (some 60) rfl rfl Tryd.func41 (by kernel_rfl) rfl #[.int .i64 a0, .int .u64 a2] rfl (by (try simp only [List.map_toArray, List.map_cons, List.map_nil]); first | done | rfl | (simp only [List.length_drop, List.length_take]; rfl)) ?_; (with_reducible refine (impl_key.calls kj23 a0 a2 t238 _ ?side1 A66.out).mono ?_); (case side1 => exact Gformats.below hGformats zb); rintro e w74 ⟨rfl, hb⟩; refine ⟨_, rfl, ?_⟩; have n0_ := za BK221 hb; have n1_ := za BK233 hb; have n2_ := za BK234 hb; have n3_ := Aside0.mk (below_step zb hb); clear BK221 BK233 BK234 HB; have BK221 := n0_; have BK233 := n1_; have BK234 := n2_; have HB := n3_; clear n0_ n1_ n2_ n3_; (try clear hb); (try clear hb2); (try clear hk); (try clear hi)))
                  go_ret2
                  exact ⟨by first | rfl | (simp [errW_none, errW_some] <;> rfl) | (simp [*, errW_none, errW_some] <;> rfl), zb⟩

/-! ### laws_FnExactCompare: function 5 -/
def laws_FnExactCompare.f (k : Nat) (a0 : Int) (a1 : Int) (a2 : Int) (a3 : Bool) : Option (Bool) := (spec_Compare.f k a0 a1 a2 a3).bind fun bt239 => ((impl_Compare.f k a0 a1 a2 a3).bind fun bt241 => (if bt241.1 = bt239.1 then (if bt241.2 = bt239.2 then (some true) else (none)) else (none)))
theorem laws_FnExactCompare.mono : ∀ a0 a1 a2 a3 k, LeO (laws_FnExactCompare.f k a0 a1 a2 a3) (laws_FnExactCompare.f (k + 1) a0 a1 a2 a3) := by
  intro a0 a1 a2 a3 k
  unfold laws_FnExactCompare.f
  repeat' first
      | (with_reducible exact impl_Compare.mono _ _ _ _ _)
      | (with_reducible exact spec_Compare.mono _ _ _ _ _)
      | (with_reducible exact LeO.refl _)
      | (with_reducible exact LeO.none _)
      | (with_reducible refine LeO.ite ?_ ?_)
      | (with_reducible refine LeO.bind ?_ (fun _ => ?_))
      | exact impl_Compare.mono _ _ _ _ _
      | exact spec_Compare.mono _ _ _ _ _
      | exact LeO.none _
      | refine LeO.ite ?_ ?_
      | refine LeO.bind ?_ (fun _ => ?_)
set_option maxHeartbeats 8000000 in
set_option maxRecDepth 100000 in
theorem laws_FnExactCompare.calls (k : Nat) (a0 : Int) (a1 : Int) (a2 : Int) (a3 : Bool) (r : Bool) (w : World) (hGformats : Gformats w) (h : laws_FnExactCompare.f k a0 a1 a2 a3 = some r) :
    Calls Tryd.prog 5 #[.int .i64 a0, .int .u64 a1, .int .u64 a2, .bool a3] w fun e w' => e = .returned (.bool r) ∧ Below w.heap.size w w' := by
  have HB := Aside0.mk (Below.refl w.heap.size w)
  have H : ((spec_Compare.f k a0 a1 a2 a3).bind fun bt239 => ((impl_Compare.f k a0 a1 a2 a3).bind fun bt241 => (if bt241.1 = bt239.1 then (if bt241.2 = bt239.2 then (some true) else (none)) else (none)))) = some r := h
  clear h
  replace H := Option.bind_eq_some_iff.mp H
  obtain ⟨⟨t239, t240⟩, A50, H⟩ := H
  replace H : ((impl_Compare.f k a0 a1 a2 a3).bind fun bt241 => (if bt241.1 = t239 then (if bt241.2 = t240 then (some true) else (none)) else (none))) = some r := H
  have A5 := Aside0.mk A50
  clear A50
  replace H := Option.bind_eq_some_iff.mp H
  obtain ⟨⟨t241, t242⟩, A60, H⟩ := H
  replace H : (if t241 = t239 then (if t242 = t240 then (some true) else (none)) else (none)) = some r := H
  have A6 := Aside0.mk A60
  clear A60
  by_cases c7 : t241 = t239
  · rw [if_pos c7] at H
    have c7b0 : (t241 == t239) = true := beq_iff_eq.mpr c7
    have c7b1 : (t241 != t239) = false := bne_eq_false_iff_eq.mpr c7
    clear c7
    by_cases c8 : t242 = t240
    · rw [if_pos c8] at H
      have c8b0 : (t242 == t240) = true := beq_iff_eq.mpr c8
      have c8b1 : (t242 != t240) = false := bne_eq_false_iff_eq.mpr c8
      clear c8
      obtain rfl := Option.some.inj H
      go_enter Tryd.func5, Tryd.ntmps5
      go_wp2_with (first | ((with_reducible refine gate_callee (f := 14) rfl ?_); refine goesL_ (some 18) rfl rfl Tryd.func14 (by kernel_rfl) rfl #[.int .i64 a0, .int .u64 a1, .int .u64 a2, .bool a3] rfl (by (try simp only [List.map_toArray, List.map_cons, List.map_nil]); first | done | rfl | (simp only [List.length_drop, List.length_take]; rfl)) ?_; (with_reducible refine (spec_Compare.calls k a0 a1 a2 a3 t239 t240 _ A5.out).mono ?_); rintro e w9 ⟨rfl, hb⟩; refine ⟨_, rfl, ?_⟩; have n0_ := Aside0.mk (below_step zb hb); clear HB; have HB := n0_; clear n0_; (try clear hb); (try clear hb2); (try clear hk); (try clear hi)) | ((with_reducible refine gate_callee (f := 15) rfl ?_); refine goesL_ (some 26) rfl rfl Tryd.func15 (by kernel_rfl) rfl #[.int .i64 a0, .int .u64 a1, .int .u64 a2, .bool a3] rfl (by (try simp only [List.map_toArray, List.map_cons, List.map_nil]); first | done | rfl | (simp only [List.length_drop, List.length_take]; rfl)) ?_; (with_reducible refine (impl_Compare.calls k a0 a1 a2 a3 t241 t242 _ ?side1 A6.out).mono ?_); (case side1 => exact Gformats.below hGformats zb); rintro e w10 ⟨rfl, hb⟩; refine ⟨_, rfl, ?_⟩; have n0_ := Aside0.mk (below_step zb hb); clear HB; have HB := n0_; clear n0_; (try clear hb); (try clear hb2); (try clear hk); (try clear hi)))
      go_ret
      exact ⟨by first | rfl | (simp [errW_none, errW_some] <;> rfl) | (simp [*, errW_none, errW_some] <;> rfl), zb⟩
    · rw [if_neg c8] at H
      exact absurd H (by simp)
  · rw [if_neg c7] at H
    exact absurd H (by simp)

end Go.Proofs.YtokbmgneigdofaaDoor.PA
