-- Written by gprint.py (this session's program) through the kit's print.py. Lean checks it.
import Derived.Test.YtbcjhnhkpbcmcaaPA0
import Derived.Test.YtbcjhnhkpbcmcaaPA1
import Derived.Test.YtbcjhnhkpbcmcaaPA4
import Derived.Test.YtbcjhnhkpbcmcaaPA6
import Derived.Test.YtbcjhnhkpbcmcaaPA7
import Derived.Test.YtbcjhnhkpbcmcaaPA8
import Derived.Test.YtbcjhnhkpbcmcaaPA9
import Derived.Test.YtbcjhnhkpbcmcaaPA11
import Derived.Test.YtbcjhnhkpbcmcaaPA12
namespace Go.Proofs.Ytbcjhnhkpbcmcaa.PA
open Go.Proofs.YtbcjhnhkpbcmcaaW.Z
open Go.Proofs.Ytbcjhnhkpbcmcaa.Given
open Go.RowKit Go.Proofs.YtbcjhnhkpbcmcaaW.PrintWords Go.Proofs.YtbcjhnhkpbcmcaaW.PrintLast Go.Proofs.YtbcjhnhkpbcmcaaW.PrintMore
attribute [local go_sem] max2_int min2_int max_two min_two max_three min_three max_four min_four   -- for this text's walks alone
set_option linter.unusedVariables false
set_option linter.unusedSimpArgs false

attribute [local go_sem high] eqA26
/-! ### laws_FnWords: function 12 -/
mutual
def laws_FnWords.j0 : Nat → List Int → Bool → Option (Bool)
  | 0, _, _ => none
  | k + 1, x0, x64 => if x64 = true then (none) else ((spec_DrawAddWide.f k x0).bind fun bt347 => ((impl_AddWide.f bt347.1 bt347.2.1 bt347.2.2.1 bt347.2.2.2).bind fun bt353 => ((spec_AddWide.f bt347.1 bt347.2.1 bt347.2.2.1 bt347.2.2.2).bind fun bt357 => ((impl_SubWide.f bt353.1 bt353.2.1 bt347.2.2.1 bt347.2.2.2).bind fun bt361 => (if (!(bt353.1 == bt357.1) || (!(bt353.2.1 == bt357.2.1))) = true then (laws_FnWords.j1 k x0 true) else (if (bt353.2.2 != bt357.2.2) = true then (laws_FnWords.j1 k x0 true) else (if (!(bt361.1 == bt347.1) || (!(bt361.2.1 == bt347.2.1))) = true then (laws_FnWords.j1 k x0 true) else (laws_FnWords.j1 k x0 (bt361.2.2 != bt353.2.2)))))))))
def laws_FnWords.j1 : Nat → List Int → Bool → Option (Bool)
  | 0, _, _ => none
  | k + 1, x0, x105 => if x105 = true then (none) else ((spec_DrawDivWide.f k x0).bind fun bt365 => ((impl_DivWide.f k bt365.1 bt365.2.1 bt365.2.2).bind fun bt369 => (if bt365.2.2 > 0 then (laws_FnWords.j2 k x0 bt369.2.2 bt365.2.2 (decide (bt369.2.2 ≥ bt365.2.2)) bt369.1 bt369.2.1 bt365.1 bt365.2.1) else (laws_FnWords.j2 k x0 bt369.2.2 bt365.2.2 false bt369.1 bt369.2.1 bt365.1 bt365.2.1))))
def laws_FnWords.j2 : Nat → List Int → Int → Int → Bool → Int → Int → Int → Int → Option (Bool)
  | 0, _, _, _, _, _, _, _, _ => none
  | k + 1, x0, x7, x17, x123, x345000, x345001, x369000, x369001 => if x123 = true then (none) else (if x17 > 0 then (laws_FnWords.j3 k x0 x7 x17 (x345000 == 0) x345000 x345001 x369000 x369001) else (laws_FnWords.j3 k x0 x7 x17 false x345000 x345001 x369000 x369001))
def laws_FnWords.j3 : Nat → List Int → Int → Int → Bool → Int → Int → Int → Int → Option (Bool)
  | 0, _, _, _, _, _, _, _, _ => none
  | k + 1, x0, x7, x17, x130, x345000, x345001, x369000, x369001 => if x130 = true then ((impl_MulWide.f x345001 x17).bind fun bt372 => ((impl_AddWide.f bt372.1 bt372.2 0 x7).bind fun bt374 => (if bt374.2.2 = true then (none) else (if (!(bt374.1 == x369000) || (!(bt374.2.1 == x369001))) = true then (none) else (laws_FnWords.j4 k x0))))) else (laws_FnWords.j4 k x0)
def laws_FnWords.j4 : Nat → List Int → Option (Bool)
  | 0, _ => none
  | k + 1, x0 => (spec_DrawSqrtWide.f k x0).bind fun bt378 => ((impl_SqrtWide.f k bt378.1 bt378.2).bind fun bt381 => ((spec_SqrtWide.f k bt378.1 bt378.2).bind fun bt383 => (if bt381.1 = bt383.1 then (laws_FnWords.j5 k x0 (bt381.2 != bt383.2)) else (laws_FnWords.j5 k x0 true))))
def laws_FnWords.j5 : Nat → List Int → Bool → Option (Bool)
  | 0, _, _ => none
  | k + 1, x0, x166 => if x166 = true then (none) else ((spec_DrawZeros.f k x0).bind fun bt385 => ((impl_Zeros.f bt385.1 bt385.2).bind fun t388 => ((impl_ShiftLeft.f bt385.1 bt385.2 t388).bind fun bt389 => ((impl_ShiftRight.f bt389.1 bt389.2 t388).bind fun bt391 => (if (bt391.1 == bt385.1 && (bt391.2.1 == bt385.2)) = true then (if bt391.2.2 = true then (none) else ((spec_Zeros.f k bt385.1 bt385.2).bind fun t395 => (some (t388 == t395)))) else (none))))))
end
def laws_FnWords.f (k : Nat) (l0 : List Int) : Option (Bool) := if (l0.length : Int) > 1048576 then (some true) else ((spec_DrawMulWide.f k l0).bind fun bt336 => ((impl_MulWide.f bt336.1 bt336.2).bind fun bt338 => ((impl_DivWide.f k bt338.1 bt338.2 bt336.2).bind fun bt341 => ((spec_MulWide.f bt336.1 bt336.2).bind fun bt345 => (if (!(bt338.1 == bt345.1) || (!(bt338.2 == bt345.2))) = true then (laws_FnWords.j0 k l0 true) else (if bt336.2 > 0 then (if (!(bt341.1 == 0) || (!(bt341.2.1 == bt336.1))) = true then (laws_FnWords.j0 k l0 true) else (laws_FnWords.j0 k l0 (bt341.2.2 != 0))) else (laws_FnWords.j0 k l0 false)))))))
def laws_FnWords.T6 : Bool × List (List Nat × List Nat) := (true, [([], []), ([], []), ([], []), ([1, 2], [1, 2]), ([0, 3], [0, 3]), ([4, 3], [4]), ([5], [5]), ([6, 5], [5, 6]), ([7, 5, 5], [5, 7]), ([8], [8]), ([8], [8]), ([10, 8], [8, 10]), ([9, 11, 8], [8, 9, 11]), ([12, 8, 8], [8, 12]), ([13], [13]), ([14, 13], [13, 14]), ([13, 15, 8], [8, 13, 15]), ([8, 16, 5], [5, 8, 16]), ([5, 17], [5, 17])])
def laws_FnWords.B6 : List Nat := [0, 0, 0, 6, 15, 31, 63, 127, 255, 511, 511, 1535, 4095, 8191, 16383, 32767, 65535, 131071, 262143]
theorem laws_FnWords.tab6 : rtab .any (opsOf Try.f12 6) = laws_FnWords.T6 := by kernel_rfl
theorem laws_FnWords.bits6 : waitsOk laws_FnWords.T6.2 laws_FnWords.B6 = true := by kernel_rfl
set_option maxHeartbeats 8000000 in
set_option maxRecDepth 100000 in
theorem laws_FnWords.calls (k : Nat) (A0 : Option Addr) (c0 : Nat) (l0 : List Int) (r : Bool) (w : World) (hr0 : Kd.C (Kd.int .u8) w A0 l0.length l0) (hc0 : l0.length ≤ c0) (h : laws_FnWords.f k l0 = some r) :
    Calls Try.prog 12 #[.slice A0 l0.length c0] w fun e w' => e = .returned (.bool r) ∧ Below w.heap.size w w' := by
  have hu26 := Try.underlying26
  have HR0 := Aside0.mk hr0
  have HC0 := Aside0.mk hc0
  clear hr0 hc0
  have HB := Aside0.mk (Below.refl w.heap.size w)
  have H : (if (l0.length : Int) > 1048576 then (some true) else ((spec_DrawMulWide.f k l0).bind fun bt336 => ((impl_MulWide.f bt336.1 bt336.2).bind fun bt338 => ((impl_DivWide.f k bt338.1 bt338.2 bt336.2).bind fun bt341 => ((spec_MulWide.f bt336.1 bt336.2).bind fun bt345 => (if (!(bt338.1 == bt345.1) || (!(bt338.2 == bt345.2))) = true then (laws_FnWords.j0 k l0 true) else (if bt336.2 > 0 then (if (!(bt341.1 == 0) || (!(bt341.2.1 == bt336.1))) = true then (laws_FnWords.j0 k l0 true) else (laws_FnWords.j0 k l0 (bt341.2.2 != 0))) else (laws_FnWords.j0 k l0 false)))))))) = some r := h
  clear h
  by_cases c2 : (l0.length : Int) > 1048576
  · rw [if_pos c2] at H
    have c2b0 : decide (1048576 < (l0.length : Int)) = true := decide_eq_true c2
    have c2b1 : decide (1048576 < l0.length) = true := decide_eq_true (by omega)
    clear c2
    obtain rfl := Option.some.inj H
    go_enter Try.func12, Try.ntmps12
    go_wp2
    go_ret
    exact ⟨by first | rfl | (simp [errW_none, errW_some] <;> rfl) | (simp [*, errW_none, errW_some] <;> rfl), zb⟩
  · rw [if_neg c2] at H
    have c2b0 : decide (1048576 < (l0.length : Int)) = false := decide_eq_false c2
    have c2b1 : decide (1048576 < l0.length) = false := decide_eq_false (by omega)
    clear c2
    replace H := Option.bind_eq_some_iff.mp H
    obtain ⟨⟨t336, t337⟩, A30, H⟩ := H
    replace H : ((impl_MulWide.f t336 t337).bind fun bt338 => ((impl_DivWide.f k bt338.1 bt338.2 t337).bind fun bt341 => ((spec_MulWide.f t336 t337).bind fun bt345 => (if (!(bt338.1 == bt345.1) || (!(bt338.2 == bt345.2))) = true then (laws_FnWords.j0 k l0 true) else (if t337 > 0 then (if (!(bt341.1 == 0) || (!(bt341.2.1 == t336))) = true then (laws_FnWords.j0 k l0 true) else (laws_FnWords.j0 k l0 (bt341.2.2 != 0))) else (laws_FnWords.j0 k l0 false)))))) = some r := H
    have A3 := Aside0.mk A30
    clear A30
    replace H := Option.bind_eq_some_iff.mp H
    obtain ⟨⟨t338, t339⟩, A40, H⟩ := H
    replace H : ((impl_DivWide.f k t338 t339 t337).bind fun bt341 => ((spec_MulWide.f t336 t337).bind fun bt345 => (if (!(t338 == bt345.1) || (!(t339 == bt345.2))) = true then (laws_FnWords.j0 k l0 true) else (if t337 > 0 then (if (!(bt341.1 == 0) || (!(bt341.2.1 == t336))) = true then (laws_FnWords.j0 k l0 true) else (laws_FnWords.j0 k l0 (bt341.2.2 != 0))) else (laws_FnWords.j0 k l0 false))))) = some r := H
    have A4 := Aside0.mk A40
    clear A40
    replace H := Option.bind_eq_some_iff.mp H
    obtain ⟨⟨t341, t342, t343⟩, A50, H⟩ := H
    replace H : ((spec_MulWide.f t336 t337).bind fun bt345 => (if (!(t338 == bt345.1) || (!(t339 == bt345.2))) = true then (laws_FnWords.j0 k l0 true) else (if t337 > 0 then (if (!(t341 == 0) || (!(t342 == t336))) = true then (laws_FnWords.j0 k l0 true) else (laws_FnWords.j0 k l0 (t343 != 0))) else (laws_FnWords.j0 k l0 false)))) = some r := H
    have A5 := Aside0.mk A50
    clear A50
    have HC6 := Aside0.mk H
    clear H
    go_enter Try.func12, Try.ntmps12
    go_upto_region 6 with (first | ((with_reducible refine gate_callee (f := 31) rfl ?_); refine goesL_ (some 34) rfl rfl Try.func31 (by kernel_rfl) rfl #[.slice A0 l0.length c0] rfl (by (try simp only [List.map_toArray, List.map_cons, List.map_nil]); first | done | rfl | (simp only [List.length_drop, List.length_take]; rfl)) ?_; (with_reducible refine (spec_DrawMulWide.calls k _ _ l0 t336 t337 _ ?side1 ?side2 A3.out).mono ?_); (case side1 => repeat (first | exact HR0.out | (with_reducible refine Kd.C_alloc ?_ _) | (with_reducible refine Kd.C_drewN ?_ _) | (with_reducible refine Kd.C_drew ?_))); (case side2 => exact HC0.out); rintro e w' ⟨rfl, ⟨nd, rfl⟩⟩; refine ⟨_, rfl, ?_⟩) | ((with_reducible refine gate_callee (f := 20) rfl ?_); refine goesL_ (some 39) rfl rfl Try.func20 (by kernel_rfl) rfl #[.int .u64 t336, .int .u64 t337] rfl (by (try simp only [List.map_toArray, List.map_cons, List.map_nil]); first | done | rfl | (simp only [List.length_drop, List.length_take]; rfl)) ?_; (with_reducible refine (impl_MulWide.calls t336 t337 t338 t339 _ A4.out).mono ?_); rintro e w7 ⟨rfl, hb⟩; refine ⟨_, rfl, ?_⟩; have n0_ := Aside0.mk (below_step zb hb); clear HB; have HB := n0_; clear n0_; (try clear hb); (try clear hb2); (try clear hk); (try clear hi)) | ((with_reducible refine gate_dst (N := 5) rfl ?_); refine box_event ?hg (N := 5) ?hd (cs := #[.int .u64 0, .int .u64 0]) (t := 26) ?hr ?_; (case hd => rfl); (case hg => rfl); (case hr => first | (go_simp; done) | (go_simp; rfl)); intro gb340 hg w8 hbox hb; have n0_ := Aside0.mk (below_step zb hb); have n1_ := Aside0.mk (hbox); have n2_ := zs w hg; have n3_ := zs w hg; clear HB; have HB := n0_; have BK340 := n1_; have GW340 := n2_; have GE340 := n3_; clear n0_ n1_ n2_ n3_ hb hbox hg; have hcz9_0 : w8.cell? ⟨gb340, 0, none⟩ = some (.int .u64 0) := (blk_cell BK340.out 0).trans rfl; have hcz9_1 : w8.cell? ⟨gb340, 1, none⟩ = some (.int .u64 0) := (blk_cell BK340.out 1).trans rfl; have hfz9_0 := blk_frozen BK340.out 0; have hfz9_1 := blk_frozen BK340.out 1) | ((with_reducible refine gate_callee (f := 30) rfl ?_); refine goesL_ (some 43) rfl rfl Try.func30 (by kernel_rfl) rfl #[.agg #[.int .u64 t338, .int .u64 t339], .int .u64 t337] rfl (by (try simp only [List.map_toArray, List.map_cons, List.map_nil]); first | done | rfl | (simp only [List.length_drop, List.length_take]; rfl)) ?_; (with_reducible refine (impl_DivWide.calls k t338 t339 t337 t341 t342 t343 _ A5.out).mono ?_); rintro e w10 ⟨rfl, hb⟩; refine ⟨_, rfl, ?_⟩; have n0_ := Aside0.mk (blk_below (g := gb340) (o := .cells #[.int .u64 t338, .int .u64 t339] 26 (0, 0)) (by (with_reducible repeat (first | refine blk_drewN ?_ _ | refine blk_drew ?_ | refine blk_alloc ?_ _)); refine blk_put (cs := #[.int .u64 t338, .int .u64 0]) ?_ 1 _ rfl; (with_reducible repeat (first | refine blk_drewN ?_ _ | refine blk_drew ?_ | refine blk_alloc ?_ _)); refine blk_put (cs := #[.int .u64 0, .int .u64 0]) ?_ 0 _ rfl; (with_reducible repeat (first | refine blk_drewN ?_ _ | refine blk_drew ?_ | refine blk_alloc ?_ _)); exact BK340.out) hb); have n1_ := Aside0.mk (below_step zb hb); clear BK340 HB; have BK340 := n0_; have HB := n1_; clear n0_ n1_; (try clear hb); (try clear hb2); (try clear hk); (try clear hi)) | ((with_reducible refine gate_dst (N := 6) rfl ?_); refine box_event ?hg (N := 6) ?hd (cs := #[.int .u64 0, .int .u64 0]) (t := 26) ?hr ?_; (case hd => rfl); (case hg => rfl); (case hr => first | (go_simp; done) | (go_simp; rfl)); intro gb344 hg w11 hbox hb; have n0_ := za BK340 hb; have n1_ := Aside0.mk (below_step zb hb); have n2_ := Aside0.mk (hbox); have n3_ := zs w hg; have n4_ := zs w hg; have n5_ := zl BK340 hg; have n6_ := zg BK340 hg; clear BK340 HB; have BK340 := n0_; have HB := n1_; have BK344 := n2_; have GW344 := n3_; have GE344 := n4_; have NB340_344 := n5_; have NB344_340 := n6_; clear n0_ n1_ n2_ n3_ n4_ n5_ n6_ hb hbox hg; have hnb12 := NB344_340.out; have hnc12 := NB340_344.out; have hcz13_0 : w11.cell? ⟨gb344, 0, none⟩ = some (.int .u64 0) := (blk_cell BK344.out 0).trans rfl; have hcz13_1 : w11.cell? ⟨gb344, 1, none⟩ = some (.int .u64 0) := (blk_cell BK344.out 1).trans rfl; have hfz13_0 := blk_frozen BK344.out 0; have hfz13_1 := blk_frozen BK344.out 1))
    (try simp only [Act.put, List.setIfInBounds_toArray, List.set_cons_zero, List.set_cons_succ])
    go_cut [64] (fun v64 wc => ∃ (kq : Nat) (x64_5 : Bool), v64 = .bool x64_5 ∧ Aside0 (laws_FnWords.j0 kq l0 x64_5 = some r) ∧ Aside0 (kq ≤ k) ∧ Aside0 (wc.heap[gb340]? = some (.cells #[.int .u64 t338, .int .u64 t339] 26 (0, 0))) ∧ Aside0 (wc.heap[gb344]? = some (.cells #[.int .u64 t341, .int .u64 t342] 26 (0, 0))) ∧ Aside0 (Below w.heap.size w wc))
    case first => as_aux_lemma =>
      have H := HC6.out
      clear HC6
      replace H := Option.bind_eq_some_iff.mp H
      obtain ⟨⟨t345, t346⟩, A140, H⟩ := H
      replace H : (if (!(t338 == t345) || (!(t339 == t346))) = true then (laws_FnWords.j0 k l0 true) else (if t337 > 0 then (if (!(t341 == 0) || (!(t342 == t336))) = true then (laws_FnWords.j0 k l0 true) else (laws_FnWords.j0 k l0 (t343 != 0))) else (laws_FnWords.j0 k l0 false))) = some r := H
      have A14 := Aside0.mk A140
      clear A140
      by_cases c15 : (!(t338 == t345) || (!(t339 == t346))) = true
      · rw [if_pos c15] at H
        have c15b0 : (!(t338 == t345) || (!(t339 == t346))) = true := c15
        clear c15
        (first | rw [c15b0] | (simp only [i64_w, i32_w]; rw [c15b0]) | skip)
        have H' := Aside0.mk H
        clear H
        try go_wp2
        have n0_ : Aside0 (((w11.setCell ⟨gb344, 0, none⟩ (.int .u64 t341)).setCell ⟨gb344, 1, none⟩ (.int .u64 t342)).heap[gb340]? = some (.cells #[.int .u64 t338, .int .u64 t339] 26 (0, 0))) := ⟨by (with_reducible repeat (first | refine blk_drewN ?_ _ | refine blk_drew ?_ | refine blk_alloc ?_ _)); refine blk_far ?_ NB340_344.out _; (with_reducible repeat (first | refine blk_drewN ?_ _ | refine blk_drew ?_ | refine blk_alloc ?_ _)); refine blk_far ?_ NB340_344.out _; (with_reducible repeat (first | refine blk_drewN ?_ _ | refine blk_drew ?_ | refine blk_alloc ?_ _)); exact BK340.out⟩
        have n1_ : Aside0 (((w11.setCell ⟨gb344, 0, none⟩ (.int .u64 t341)).setCell ⟨gb344, 1, none⟩ (.int .u64 t342)).heap[gb344]? = some (.cells #[.int .u64 t341, .int .u64 t342] 26 (0, 0))) := ⟨by (with_reducible repeat (first | refine blk_drewN ?_ _ | refine blk_drew ?_ | refine blk_alloc ?_ _)); refine blk_put (cs := #[.int .u64 t341, .int .u64 0]) ?_ 1 _ rfl; (with_reducible repeat (first | refine blk_drewN ?_ _ | refine blk_drew ?_ | refine blk_alloc ?_ _)); refine blk_put (cs := #[.int .u64 0, .int .u64 0]) ?_ 0 _ rfl; (with_reducible repeat (first | refine blk_drewN ?_ _ | refine blk_drew ?_ | refine blk_alloc ?_ _)); exact BK344.out⟩
        have n2_ : Aside0 (Below w.heap.size w ((w11.setCell ⟨gb344, 0, none⟩ (.int .u64 t341)).setCell ⟨gb344, 1, none⟩ (.int .u64 t342))) := ⟨zb⟩
        (try clear BK340)
        (try clear BK344)
        (try clear HB)
        first
          | ((try simp only [set_drewN, drewN_two]); rw [drewN_self ((w11.setCell ⟨gb344, 0, none⟩ (.int .u64 t341)).setCell ⟨gb344, 1, none⟩ (.int .u64 t342))]; generalize hq_ : World.drewN ((w11.setCell ⟨gb344, 0, none⟩ (.int .u64 t341)).setCell ⟨gb344, 1, none⟩ (.int .u64 t342)) _ = w16 at ⊢; (first | (have n0_ := Aside0.mk (blk_at hq_ n0_.out)) | (have n0_ := Aside0.mk (cell_at hq_ n0_.out)) | (have n0_ := Aside0.mk (below_at hq_ n0_.out))); (first | (have n1_ := Aside0.mk (blk_at hq_ n1_.out)) | (have n1_ := Aside0.mk (cell_at hq_ n1_.out)) | (have n1_ := Aside0.mk (below_at hq_ n1_.out))); (first | (have n2_ := Aside0.mk (blk_at hq_ n2_.out)) | (have n2_ := Aside0.mk (cell_at hq_ n2_.out)) | (have n2_ := Aside0.mk (below_at hq_ n2_.out))); clear hq_)
          | generalize ((w11.setCell ⟨gb344, 0, none⟩ (.int .u64 t341)).setCell ⟨gb344, 1, none⟩ (.int .u64 t342)) = w16 at n0_ n1_ n2_  ⊢
        have BK340 := n0_
        have BK344 := n1_
        have HB := n2_
        clear n0_ n1_ n2_
        have n0_ := Aside0.mk (blk_drew BK340.out)
        have n1_ := Aside0.mk (blk_drew BK344.out)
        have n2_ := Aside0.mk (below_drew1 HB.out)
        clear BK340
        clear BK344
        clear HB
        have BK340 := n0_
        have BK344 := n1_
        have HB := n2_
        clear n0_ n1_ n2_
        refine start_ (n := 19) (S := fun w' => w'.cell? ⟨gb340, 0, none⟩ = some (.int .u64 t338) ∧ w'.cell? ⟨gb340, 1, none⟩ = some (.int .u64 t339)) (ds := []) #[false, false, false, false, false, false, false, false, false, false, false, false, false, false, false, false, false, false, false] (by kernel_rfl) rfl rfl ⟨(blk_cell BK340.out 0).trans rfl, (blk_cell BK340.out 1).trans rfl⟩ (fun hHeld => ?_); refine with_tabW laws_FnWords.tab6 laws_FnWords.bits6 (fun HT_ HW_ => ?_)
        generalize w16.drew = w17 at BK340 BK344 HB hHeld ⊢
        refine pure_ (i := 1) (N := some 47) (v := ?_) (a' := ?_) #[false, true, false, false, false, false, false, false, false, false, false, false, false, false, false, false, false, false, false] rfl rfl (any_of HT_.out (by kernel_rfl)) (fun _ _ _ h => h) (Or.inl ⟨by rfl, ?_⟩) ?_ ?_
        rotate_left
        · intro w'
          go_simp
          with_reducible rfl
        rotate_left
        · simp only [Act.put, List.setIfInBounds_toArray, List.set_cons_zero, List.set_cons_succ, i64_w, i32_w]
          rfl
        refine pure_ (i := 2) (N := some 48) (v := ?_) (a' := ?_) #[false, true, true, false, false, false, false, false, false, false, false, false, false, false, false, false, false, false, false] rfl rfl (any_of HT_.out (by kernel_rfl)) (fun _ _ _ h => h) (Or.inl ⟨by rfl, ?_⟩) ?_ ?_
        rotate_left
        · intro w'
          go_simp
          with_reducible rfl
        rotate_left
        · simp only [Act.put, List.setIfInBounds_toArray, List.set_cons_zero, List.set_cons_succ, i64_w, i32_w]
          rfl
        refine take_ (i := 0) (N := some 46) (v := ?_) (a' := ?_) #[true, true, true, false, false, false, false, false, false, false, false, false, false, false, false, false, false, false, false] rfl rfl (take_ofW HT_.out HW_.out (by kernel_rfl)) (fun _ _ _ h => h) (Or.inl ⟨by rfl, ?_⟩) hHeld ?_ ?_
        rotate_left
        · rintro w' ⟨s0, s1⟩
          go_simp
          with_reducible rfl
        rotate_left
        · simp only [Act.put, List.setIfInBounds_toArray, List.set_cons_zero, List.set_cons_succ, i64_w, i32_w]
          rfl
        refine one_ (i := 3) (N := some 49) #[true, true, true, true, false, false, false, false, false, false, false, false, false, false, false, false, false, false, false] rfl rfl (one_of HT_.out (by kernel_rfl)) (by decide) (fun K hK => ?_)
        refine goes_ Try.func19 (by kernel_rfl) rfl #[.int .u64 t336, .int .u64 t337] (by rfl) rfl rfl (by (try simp only [List.map_toArray, List.map_cons, List.map_nil]); first | done | rfl | (simp only [List.length_drop, List.length_take]; rfl)) ?_
        with_reducible refine (spec_MulWide.calls t336 t337 t345 t346 _ A14.out).mono ?_
        rintro e w18 ⟨rfl, hb⟩
        refine ⟨_, rfl, ?_⟩
        have n0_ := za BK340 hb
        have n1_ := za BK344 hb
        have n2_ := Aside0.mk (below_step zb hb)
        clear BK340
        clear BK344
        clear HB
        have BK340 := n0_
        have BK344 := n1_
        have HB := n2_
        clear n0_ n1_ n2_
        (try clear hb)
        (try clear hb2)
        (try clear hk)
        (try clear hi)
        refine hK.out _ _ ⟨(blk_cell BK340.out 0).trans rfl, (blk_cell BK340.out 1).trans rfl⟩ (fun hHeld => ?_)
        clear hK K
        refine norm_ (a' := ?_) ?_ ?_
        rotate_left
        · show Act.put _ (some 49) _ = _
          simp only [Act.put, List.setIfInBounds_toArray, List.set_cons_zero, List.set_cons_succ, i64_w, i32_w]
          rfl
        refine pure_ (i := 4) (N := some 50) (v := ?_) (a' := ?_) #[true, true, true, true, true, false, false, false, false, false, false, false, false, false, false, false, false, false, false] rfl rfl (any_of HT_.out (by kernel_rfl)) (fun _ _ _ h => h) (Or.inl ⟨by rfl, ?_⟩) ?_ ?_
        rotate_left
        · intro w'
          go_simp
          with_reducible rfl
        rotate_left
        · simp only [Act.put, List.setIfInBounds_toArray, List.set_cons_zero, List.set_cons_succ, i64_w, i32_w]
          rfl
        refine pure_ (i := 5) (N := some 51) (v := ?_) (a' := ?_) #[true, true, true, true, true, true, false, false, false, false, false, false, false, false, false, false, false, false, false] rfl rfl (any_of HT_.out (by kernel_rfl)) (fun _ _ _ h => h) (Or.inl ⟨by rfl, ?_⟩) ?_ ?_
        rotate_left
        · intro w'
          go_simp
          with_reducible rfl
        rotate_left
        · simp only [Act.put, List.setIfInBounds_toArray, List.set_cons_zero, List.set_cons_succ, i64_w, i32_w]
          rfl
        refine pure_ (i := 6) (N := some 52) (v := undef) (a' := ?_) #[true, true, true, true, true, true, true, false, false, false, false, false, false, false, false, false, false, false, false] rfl rfl (any_of HT_.out (by kernel_rfl)) (fun _ _ _ h => h) (Or.inr ⟨by rfl, rfl⟩) ?_ ?_
        rotate_left
        · simp only [Act.put, List.setIfInBounds_toArray, List.set_cons_zero, List.set_cons_succ, i64_w, i32_w]
          rfl
        refine pure_ (i := 7) (N := some 53) (v := undef) (a' := ?_) #[true, true, true, true, true, true, true, true, false, false, false, false, false, false, false, false, false, false, false] rfl rfl (any_of HT_.out (by kernel_rfl)) (fun _ _ _ h => h) (Or.inr ⟨by rfl, rfl⟩) ?_ ?_
        rotate_left
        · simp only [Act.put, List.setIfInBounds_toArray, List.set_cons_zero, List.set_cons_succ, i64_w, i32_w]
          rfl
        refine pure_ (i := 8) (N := some 54) (v := undef) (a' := ?_) #[true, true, true, true, true, true, true, true, true, false, false, false, false, false, false, false, false, false, false] rfl rfl (any_of HT_.out (by kernel_rfl)) (fun _ _ _ h => h) (Or.inr ⟨by rfl, rfl⟩) ?_ ?_
        rotate_left
        · simp only [Act.put, List.setIfInBounds_toArray, List.set_cons_zero, List.set_cons_succ, i64_w, i32_w]
          rfl
        refine pure_ (i := 9) (N := some 55) (v := undef) (a' := ?_) #[true, true, true, true, true, true, true, true, true, true, false, false, false, false, false, false, false, false, false] rfl rfl (any_of HT_.out (by kernel_rfl)) (fun _ _ _ h => h) (Or.inr ⟨by rfl, rfl⟩) ?_ ?_
        rotate_left
        · simp only [Act.put, List.setIfInBounds_toArray, List.set_cons_zero, List.set_cons_succ, i64_w, i32_w]
          rfl
        refine pure_ (i := 10) (N := some 56) (v := undef) (a' := ?_) #[true, true, true, true, true, true, true, true, true, true, true, false, false, false, false, false, false, false, false] rfl rfl (any_of HT_.out (by kernel_rfl)) (fun _ _ _ h => h) (Or.inr ⟨by rfl, rfl⟩) ?_ ?_
        rotate_left
        · simp only [Act.put, List.setIfInBounds_toArray, List.set_cons_zero, List.set_cons_succ, i64_w, i32_w]
          rfl
        refine pure_ (i := 11) (N := some 57) (v := undef) (a' := ?_) #[true, true, true, true, true, true, true, true, true, true, true, true, false, false, false, false, false, false, false] rfl rfl (any_of HT_.out (by kernel_rfl)) (fun _ _ _ h => h) (Or.inr ⟨by rfl, rfl⟩) ?_ ?_
        rotate_left
        · simp only [Act.put, List.setIfInBounds_toArray, List.set_cons_zero, List.set_cons_succ, i64_w, i32_w]
          rfl
        refine pure_ (i := 12) (N := some 58) (v := undef) (a' := ?_) #[true, true, true, true, true, true, true, true, true, true, true, true, true, false, false, false, false, false, false] rfl rfl (any_of HT_.out (by kernel_rfl)) (fun _ _ _ h => h) (Or.inr ⟨by rfl, rfl⟩) ?_ ?_
        rotate_left
        · simp only [Act.put, List.setIfInBounds_toArray, List.set_cons_zero, List.set_cons_succ, i64_w, i32_w]
          rfl
        refine pure_ (i := 13) (N := some 59) (v := undef) (a' := ?_) #[true, true, true, true, true, true, true, true, true, true, true, true, true, true, false, false, false, false, false] rfl rfl (any_of HT_.out (by kernel_rfl)) (fun _ _ _ h => h) (Or.inr ⟨by rfl, rfl⟩) ?_ ?_
        rotate_left
        · simp only [Act.put, List.setIfInBounds_toArray, List.set_cons_zero, List.set_cons_succ, i64_w, i32_w]
          rfl
        refine pure_ (i := 14) (N := some 60) (v := undef) (a' := ?_) #[true, true, true, true, true, true, true, true, true, true, true, true, true, true, true, false, false, false, false] rfl rfl (any_of HT_.out (by kernel_rfl)) (fun _ _ _ h => h) (Or.inr ⟨by rfl, rfl⟩) ?_ ?_
        rotate_left
        · simp only [Act.put, List.setIfInBounds_toArray, List.set_cons_zero, List.set_cons_succ, i64_w, i32_w]
          rfl
        refine pure_ (i := 15) (N := some 61) (v := undef) (a' := ?_) #[true, true, true, true, true, true, true, true, true, true, true, true, true, true, true, true, false, false, false] rfl rfl (any_of HT_.out (by kernel_rfl)) (fun _ _ _ h => h) (Or.inr ⟨by rfl, rfl⟩) ?_ ?_
        rotate_left
        · simp only [Act.put, List.setIfInBounds_toArray, List.set_cons_zero, List.set_cons_succ, i64_w, i32_w]
          rfl
        refine pure_ (i := 16) (N := some 62) (v := undef) (a' := ?_) #[true, true, true, true, true, true, true, true, true, true, true, true, true, true, true, true, true, false, false] rfl rfl (any_of HT_.out (by kernel_rfl)) (fun _ _ _ h => h) (Or.inr ⟨by rfl, rfl⟩) ?_ ?_
        rotate_left
        · simp only [Act.put, List.setIfInBounds_toArray, List.set_cons_zero, List.set_cons_succ, i64_w, i32_w]
          rfl
        refine pure_ (i := 17) (N := some 63) (v := undef) (a' := ?_) #[true, true, true, true, true, true, true, true, true, true, true, true, true, true, true, true, true, true, false] rfl rfl (any_of HT_.out (by kernel_rfl)) (fun _ _ _ h => h) (Or.inr ⟨by rfl, rfl⟩) ?_ ?_
        rotate_left
        · simp only [Act.put, List.setIfInBounds_toArray, List.set_cons_zero, List.set_cons_succ, i64_w, i32_w]
          rfl
        refine pure_ (i := 18) (N := some 64) (v := ?_) (a' := ?_) #[true, true, true, true, true, true, true, true, true, true, true, true, true, true, true, true, true, true, true] rfl rfl (any_of HT_.out (by kernel_rfl)) (fun _ _ _ h => h) (Or.inl ⟨by rfl, ?_⟩) ?_ ?_
        rotate_left
        · intro w'
          go_simp
          with_reducible rfl
        rotate_left
        · simp only [Act.put, List.setIfInBounds_toArray, List.set_cons_zero, List.set_cons_succ, i64_w, i32_w]
          rfl
        refine done_ (done_of HT_.out (by kernel_rfl)) ?_
        try go_wp2
        go_meet
        case rel => exact ⟨_, (true), (by first | rfl | (simp; done) | (simp [*]; done)), H', ⟨by first | omega | exact Nat.le_refl _⟩, ⟨zk⟩, ⟨zk⟩, ⟨zb⟩⟩
      · rw [if_neg c15] at H
        have c15b0 : (!(t338 == t345) || (!(t339 == t346))) = false := by simpa using c15
        clear c15
        (first | rw [c15b0] | (simp only [i64_w, i32_w]; rw [c15b0]) | skip)
        by_cases c19 : t337 > 0
        · rw [if_pos c19] at H
          have c19b0 : decide (0 < t337) = true := decide_eq_true c19
          clear c19
          by_cases c20 : (!(t341 == 0) || (!(t342 == t336))) = true
          · rw [if_pos c20] at H
            have c20b0 : (!(t341 == 0) || (!(t342 == t336))) = true := c20
            clear c20
            have H' := Aside0.mk H
            clear H
            try go_wp2
            have n0_ : Aside0 (((w11.setCell ⟨gb344, 0, none⟩ (.int .u64 t341)).setCell ⟨gb344, 1, none⟩ (.int .u64 t342)).heap[gb340]? = some (.cells #[.int .u64 t338, .int .u64 t339] 26 (0, 0))) := ⟨by (with_reducible repeat (first | refine blk_drewN ?_ _ | refine blk_drew ?_ | refine blk_alloc ?_ _)); refine blk_far ?_ NB340_344.out _; (with_reducible repeat (first | refine blk_drewN ?_ _ | refine blk_drew ?_ | refine blk_alloc ?_ _)); refine blk_far ?_ NB340_344.out _; (with_reducible repeat (first | refine blk_drewN ?_ _ | refine blk_drew ?_ | refine blk_alloc ?_ _)); exact BK340.out⟩
            have n1_ : Aside0 (((w11.setCell ⟨gb344, 0, none⟩ (.int .u64 t341)).setCell ⟨gb344, 1, none⟩ (.int .u64 t342)).heap[gb344]? = some (.cells #[.int .u64 t341, .int .u64 t342] 26 (0, 0))) := ⟨by (with_reducible repeat (first | refine blk_drewN ?_ _ | refine blk_drew ?_ | refine blk_alloc ?_ _)); refine blk_put (cs := #[.int .u64 t341, .int .u64 0]) ?_ 1 _ rfl; (with_reducible repeat (first | refine blk_drewN ?_ _ | refine blk_drew ?_ | refine blk_alloc ?_ _)); refine blk_put (cs := #[.int .u64 0, .int .u64 0]) ?_ 0 _ rfl; (with_reducible repeat (first | refine blk_drewN ?_ _ | refine blk_drew ?_ | refine blk_alloc ?_ _)); exact BK344.out⟩
            have n2_ : Aside0 (Below w.heap.size w ((w11.setCell ⟨gb344, 0, none⟩ (.int .u64 t341)).setCell ⟨gb344, 1, none⟩ (.int .u64 t342))) := ⟨zb⟩
            (try clear BK340)
            (try clear BK344)
            (try clear HB)
            first
              | ((try simp only [set_drewN, drewN_two]); rw [drewN_self ((w11.setCell ⟨gb344, 0, none⟩ (.int .u64 t341)).setCell ⟨gb344, 1, none⟩ (.int .u64 t342))]; generalize hq_ : World.drewN ((w11.setCell ⟨gb344, 0, none⟩ (.int .u64 t341)).setCell ⟨gb344, 1, none⟩ (.int .u64 t342)) _ = w21 at ⊢; (first | (have n0_ := Aside0.mk (blk_at hq_ n0_.out)) | (have n0_ := Aside0.mk (cell_at hq_ n0_.out)) | (have n0_ := Aside0.mk (below_at hq_ n0_.out))); (first | (have n1_ := Aside0.mk (blk_at hq_ n1_.out)) | (have n1_ := Aside0.mk (cell_at hq_ n1_.out)) | (have n1_ := Aside0.mk (below_at hq_ n1_.out))); (first | (have n2_ := Aside0.mk (blk_at hq_ n2_.out)) | (have n2_ := Aside0.mk (cell_at hq_ n2_.out)) | (have n2_ := Aside0.mk (below_at hq_ n2_.out))); clear hq_)
              | generalize ((w11.setCell ⟨gb344, 0, none⟩ (.int .u64 t341)).setCell ⟨gb344, 1, none⟩ (.int .u64 t342)) = w21 at n0_ n1_ n2_  ⊢
            have BK340 := n0_
            have BK344 := n1_
            have HB := n2_
            clear n0_ n1_ n2_
            have n0_ := Aside0.mk (blk_drew BK340.out)
            have n1_ := Aside0.mk (blk_drew BK344.out)
            have n2_ := Aside0.mk (below_drew1 HB.out)
            clear BK340
            clear BK344
            clear HB
            have BK340 := n0_
            have BK344 := n1_
            have HB := n2_
            clear n0_ n1_ n2_
            refine start_ (n := 19) (S := fun w' => w'.cell? ⟨gb340, 0, none⟩ = some (.int .u64 t338) ∧ w'.cell? ⟨gb340, 1, none⟩ = some (.int .u64 t339) ∧ w'.cell? ⟨gb344, 0, none⟩ = some (.int .u64 t341) ∧ w'.cell? ⟨gb344, 1, none⟩ = some (.int .u64 t342)) (ds := []) #[false, false, false, false, false, false, false, false, false, false, false, false, false, false, false, false, false, false, false] (by kernel_rfl) rfl rfl ⟨(blk_cell BK340.out 0).trans rfl, (blk_cell BK340.out 1).trans rfl, (blk_cell BK344.out 0).trans rfl, (blk_cell BK344.out 1).trans rfl⟩ (fun hHeld => ?_); refine with_tabW laws_FnWords.tab6 laws_FnWords.bits6 (fun HT_ HW_ => ?_)
            generalize w21.drew = w22 at BK340 BK344 HB hHeld ⊢
            refine pure_ (i := 1) (N := some 47) (v := ?_) (a' := ?_) #[false, true, false, false, false, false, false, false, false, false, false, false, false, false, false, false, false, false, false] rfl rfl (any_of HT_.out (by kernel_rfl)) (fun _ _ _ h => h) (Or.inl ⟨by rfl, ?_⟩) ?_ ?_
            rotate_left
            · intro w'
              go_simp
              with_reducible rfl
            rotate_left
            · simp only [Act.put, List.setIfInBounds_toArray, List.set_cons_zero, List.set_cons_succ, i64_w, i32_w]
              rfl
            refine pure_ (i := 2) (N := some 48) (v := ?_) (a' := ?_) #[false, true, true, false, false, false, false, false, false, false, false, false, false, false, false, false, false, false, false] rfl rfl (any_of HT_.out (by kernel_rfl)) (fun _ _ _ h => h) (Or.inl ⟨by rfl, ?_⟩) ?_ ?_
            rotate_left
            · intro w'
              go_simp
              with_reducible rfl
            rotate_left
            · simp only [Act.put, List.setIfInBounds_toArray, List.set_cons_zero, List.set_cons_succ, i64_w, i32_w]
              rfl
            refine take_ (i := 0) (N := some 46) (v := ?_) (a' := ?_) #[true, true, true, false, false, false, false, false, false, false, false, false, false, false, false, false, false, false, false] rfl rfl (take_ofW HT_.out HW_.out (by kernel_rfl)) (fun _ _ _ h => h) (Or.inl ⟨by rfl, ?_⟩) hHeld ?_ ?_
            rotate_left
            · rintro w' ⟨s0, s1, s2, s3⟩
              go_simp
              with_reducible rfl
            rotate_left
            · simp only [Act.put, List.setIfInBounds_toArray, List.set_cons_zero, List.set_cons_succ, i64_w, i32_w]
              rfl
            refine one_ (i := 3) (N := some 49) #[true, true, true, true, false, false, false, false, false, false, false, false, false, false, false, false, false, false, false] rfl rfl (one_of HT_.out (by kernel_rfl)) (by decide) (fun K hK => ?_)
            refine goes_ Try.func19 (by kernel_rfl) rfl #[.int .u64 t336, .int .u64 t337] (by rfl) rfl rfl (by (try simp only [List.map_toArray, List.map_cons, List.map_nil]); first | done | rfl | (simp only [List.length_drop, List.length_take]; rfl)) ?_
            with_reducible refine (spec_MulWide.calls t336 t337 t345 t346 _ A14.out).mono ?_
            rintro e w23 ⟨rfl, hb⟩
            refine ⟨_, rfl, ?_⟩
            have n0_ := za BK340 hb
            have n1_ := za BK344 hb
            have n2_ := Aside0.mk (below_step zb hb)
            clear BK340
            clear BK344
            clear HB
            have BK340 := n0_
            have BK344 := n1_
            have HB := n2_
            clear n0_ n1_ n2_
            (try clear hb)
            (try clear hb2)
            (try clear hk)
            (try clear hi)
            refine hK.out _ _ ⟨(blk_cell BK340.out 0).trans rfl, (blk_cell BK340.out 1).trans rfl, (blk_cell BK344.out 0).trans rfl, (blk_cell BK344.out 1).trans rfl⟩ (fun hHeld => ?_)
            clear hK K
            refine norm_ (a' := ?_) ?_ ?_
            rotate_left
            · show Act.put _ (some 49) _ = _
              simp only [Act.put, List.setIfInBounds_toArray, List.set_cons_zero, List.set_cons_succ, i64_w, i32_w]
              rfl
            refine pure_ (i := 4) (N := some 50) (v := ?_) (a' := ?_) #[true, true, true, true, true, false, false, false, false, false, false, false, false, false, false, false, false, false, false] rfl rfl (any_of HT_.out (by kernel_rfl)) (fun _ _ _ h => h) (Or.inl ⟨by rfl, ?_⟩) ?_ ?_
            rotate_left
            · intro w'
              go_simp
              with_reducible rfl
            rotate_left
            · simp only [Act.put, List.setIfInBounds_toArray, List.set_cons_zero, List.set_cons_succ, i64_w, i32_w]
              rfl
            refine pure_ (i := 5) (N := some 51) (v := ?_) (a' := ?_) #[true, true, true, true, true, true, false, false, false, false, false, false, false, false, false, false, false, false, false] rfl rfl (any_of HT_.out (by kernel_rfl)) (fun _ _ _ h => h) (Or.inl ⟨by rfl, ?_⟩) ?_ ?_
            rotate_left
            · intro w'
              go_simp
              with_reducible rfl
            rotate_left
            · simp only [Act.put, List.setIfInBounds_toArray, List.set_cons_zero, List.set_cons_succ, i64_w, i32_w]
              rfl
            refine pure_ (i := 6) (N := some 52) (v := ?_) (a' := ?_) #[true, true, true, true, true, true, true, false, false, false, false, false, false, false, false, false, false, false, false] rfl rfl (any_of HT_.out (by kernel_rfl)) (fun _ _ _ h => h) (Or.inl ⟨by rfl, ?_⟩) ?_ ?_
            rotate_left
            · intro w'
              go_simp
              with_reducible rfl
            rotate_left
            · simp only [Act.put, List.setIfInBounds_toArray, List.set_cons_zero, List.set_cons_succ, i64_w, i32_w]
              rfl
            refine pure_ (i := 7) (N := some 53) (v := ?_) (a' := ?_) #[true, true, true, true, true, true, true, true, false, false, false, false, false, false, false, false, false, false, false] rfl rfl (any_of HT_.out (by kernel_rfl)) (fun _ _ _ h => h) (Or.inl ⟨by rfl, ?_⟩) ?_ ?_
            rotate_left
            · intro w'
              go_simp
              with_reducible rfl
            rotate_left
            · simp only [Act.put, List.setIfInBounds_toArray, List.set_cons_zero, List.set_cons_succ, i64_w, i32_w]
              rfl
            refine pure_ (i := 8) (N := some 54) (v := ?_) (a' := ?_) #[true, true, true, true, true, true, true, true, true, false, false, false, false, false, false, false, false, false, false] rfl rfl (any_of HT_.out (by kernel_rfl)) (fun _ _ _ h => h) (Or.inl ⟨by rfl, ?_⟩) ?_ ?_
            rotate_left
            · intro w'
              go_simp
              with_reducible rfl
            rotate_left
            · simp only [Act.put, List.setIfInBounds_toArray, List.set_cons_zero, List.set_cons_succ, i64_w, i32_w]
              rfl
            refine pure_ (i := 10) (N := some 56) (v := ?_) (a' := ?_) #[true, true, true, true, true, true, true, true, true, false, true, false, false, false, false, false, false, false, false] rfl rfl (any_of HT_.out (by kernel_rfl)) (fun _ _ _ h => h) (Or.inl ⟨by rfl, ?_⟩) ?_ ?_
            rotate_left
            · intro w'
              go_simp
              with_reducible rfl
            rotate_left
            · simp only [Act.put, List.setIfInBounds_toArray, List.set_cons_zero, List.set_cons_succ, i64_w, i32_w]
              rfl
            refine pure_ (i := 11) (N := some 57) (v := ?_) (a' := ?_) #[true, true, true, true, true, true, true, true, true, false, true, true, false, false, false, false, false, false, false] rfl rfl (any_of HT_.out (by kernel_rfl)) (fun _ _ _ h => h) (Or.inl ⟨by rfl, ?_⟩) ?_ ?_
            rotate_left
            · intro w'
              go_simp
              with_reducible rfl
            rotate_left
            · simp only [Act.put, List.setIfInBounds_toArray, List.set_cons_zero, List.set_cons_succ, i64_w, i32_w]
              rfl
            refine take_ (i := 9) (N := some 55) (v := ?_) (a' := ?_) #[true, true, true, true, true, true, true, true, true, true, true, true, false, false, false, false, false, false, false] rfl rfl (take_ofW HT_.out HW_.out (by kernel_rfl)) (fun _ _ _ h => h) (Or.inl ⟨by rfl, ?_⟩) hHeld ?_ ?_
            rotate_left
            · rintro w' ⟨s0, s1, s2, s3⟩
              go_simp
              with_reducible rfl
            rotate_left
            · simp only [Act.put, List.setIfInBounds_toArray, List.set_cons_zero, List.set_cons_succ, i64_w, i32_w]
              rfl
            refine pure_ (i := 12) (N := some 58) (v := ?_) (a' := ?_) #[true, true, true, true, true, true, true, true, true, true, true, true, true, false, false, false, false, false, false] rfl rfl (any_of HT_.out (by kernel_rfl)) (fun _ _ _ h => h) (Or.inl ⟨by rfl, ?_⟩) ?_ ?_
            rotate_left
            · intro w'
              go_simp
              with_reducible rfl
            rotate_left
            · simp only [Act.put, List.setIfInBounds_toArray, List.set_cons_zero, List.set_cons_succ, i64_w, i32_w]
              rfl
            refine pure_ (i := 13) (N := some 59) (v := ?_) (a' := ?_) #[true, true, true, true, true, true, true, true, true, true, true, true, true, true, false, false, false, false, false] rfl rfl (any_of HT_.out (by kernel_rfl)) (fun _ _ _ h => h) (Or.inl ⟨by rfl, ?_⟩) ?_ ?_
            rotate_left
            · intro w'
              go_simp
              with_reducible rfl
            rotate_left
            · simp only [Act.put, List.setIfInBounds_toArray, List.set_cons_zero, List.set_cons_succ, i64_w, i32_w]
              rfl
            refine pure_ (i := 14) (N := some 60) (v := undef) (a' := ?_) #[true, true, true, true, true, true, true, true, true, true, true, true, true, true, true, false, false, false, false] rfl rfl (any_of HT_.out (by kernel_rfl)) (fun _ _ _ h => h) (Or.inr ⟨by rfl, rfl⟩) ?_ ?_
            rotate_left
            · simp only [Act.put, List.setIfInBounds_toArray, List.set_cons_zero, List.set_cons_succ, i64_w, i32_w]
              rfl
            refine pure_ (i := 15) (N := some 61) (v := undef) (a' := ?_) #[true, true, true, true, true, true, true, true, true, true, true, true, true, true, true, true, false, false, false] rfl rfl (any_of HT_.out (by kernel_rfl)) (fun _ _ _ h => h) (Or.inr ⟨by rfl, rfl⟩) ?_ ?_
            rotate_left
            · simp only [Act.put, List.setIfInBounds_toArray, List.set_cons_zero, List.set_cons_succ, i64_w, i32_w]
              rfl
            refine pure_ (i := 16) (N := some 62) (v := ?_) (a' := ?_) #[true, true, true, true, true, true, true, true, true, true, true, true, true, true, true, true, true, false, false] rfl rfl (any_of HT_.out (by kernel_rfl)) (fun _ _ _ h => h) (Or.inl ⟨by rfl, ?_⟩) ?_ ?_
            rotate_left
            · intro w'
              go_simp
              with_reducible rfl
            rotate_left
            · simp only [Act.put, List.setIfInBounds_toArray, List.set_cons_zero, List.set_cons_succ, i64_w, i32_w]
              rfl
            refine pure_ (i := 17) (N := some 63) (v := ?_) (a' := ?_) #[true, true, true, true, true, true, true, true, true, true, true, true, true, true, true, true, true, true, false] rfl rfl (any_of HT_.out (by kernel_rfl)) (fun _ _ _ h => h) (Or.inl ⟨by rfl, ?_⟩) ?_ ?_
            rotate_left
            · intro w'
              go_simp
              with_reducible rfl
            rotate_left
            · simp only [Act.put, List.setIfInBounds_toArray, List.set_cons_zero, List.set_cons_succ, i64_w, i32_w]
              rfl
            refine pure_ (i := 18) (N := some 64) (v := ?_) (a' := ?_) #[true, true, true, true, true, true, true, true, true, true, true, true, true, true, true, true, true, true, true] rfl rfl (any_of HT_.out (by kernel_rfl)) (fun _ _ _ h => h) (Or.inl ⟨by rfl, ?_⟩) ?_ ?_
            rotate_left
            · intro w'
              go_simp
              with_reducible rfl
            rotate_left
            · simp only [Act.put, List.setIfInBounds_toArray, List.set_cons_zero, List.set_cons_succ, i64_w, i32_w]
              rfl
            refine done_ (done_of HT_.out (by kernel_rfl)) ?_
            try go_wp2
            go_meet
            case rel => exact ⟨_, (true), (by first | rfl | (simp; done) | (simp [*]; done)), H', ⟨by first | omega | exact Nat.le_refl _⟩, ⟨zk⟩, ⟨zk⟩, ⟨zb⟩⟩
          · rw [if_neg c20] at H
            have c20b0 : (!(t341 == 0) || (!(t342 == t336))) = false := by simpa using c20
            clear c20
            have H' := Aside0.mk H
            clear H
            try go_wp2
            have n0_ : Aside0 (((w11.setCell ⟨gb344, 0, none⟩ (.int .u64 t341)).setCell ⟨gb344, 1, none⟩ (.int .u64 t342)).heap[gb340]? = some (.cells #[.int .u64 t338, .int .u64 t339] 26 (0, 0))) := ⟨by (with_reducible repeat (first | refine blk_drewN ?_ _ | refine blk_drew ?_ | refine blk_alloc ?_ _)); refine blk_far ?_ NB340_344.out _; (with_reducible repeat (first | refine blk_drewN ?_ _ | refine blk_drew ?_ | refine blk_alloc ?_ _)); refine blk_far ?_ NB340_344.out _; (with_reducible repeat (first | refine blk_drewN ?_ _ | refine blk_drew ?_ | refine blk_alloc ?_ _)); exact BK340.out⟩
            have n1_ : Aside0 (((w11.setCell ⟨gb344, 0, none⟩ (.int .u64 t341)).setCell ⟨gb344, 1, none⟩ (.int .u64 t342)).heap[gb344]? = some (.cells #[.int .u64 t341, .int .u64 t342] 26 (0, 0))) := ⟨by (with_reducible repeat (first | refine blk_drewN ?_ _ | refine blk_drew ?_ | refine blk_alloc ?_ _)); refine blk_put (cs := #[.int .u64 t341, .int .u64 0]) ?_ 1 _ rfl; (with_reducible repeat (first | refine blk_drewN ?_ _ | refine blk_drew ?_ | refine blk_alloc ?_ _)); refine blk_put (cs := #[.int .u64 0, .int .u64 0]) ?_ 0 _ rfl; (with_reducible repeat (first | refine blk_drewN ?_ _ | refine blk_drew ?_ | refine blk_alloc ?_ _)); exact BK344.out⟩
            have n2_ : Aside0 (Below w.heap.size w ((w11.setCell ⟨gb344, 0, none⟩ (.int .u64 t341)).setCell ⟨gb344, 1, none⟩ (.int .u64 t342))) := ⟨zb⟩
            (try clear BK340)
            (try clear BK344)
            (try clear HB)
            first
              | ((try simp only [set_drewN, drewN_two]); rw [drewN_self ((w11.setCell ⟨gb344, 0, none⟩ (.int .u64 t341)).setCell ⟨gb344, 1, none⟩ (.int .u64 t342))]; generalize hq_ : World.drewN ((w11.setCell ⟨gb344, 0, none⟩ (.int .u64 t341)).setCell ⟨gb344, 1, none⟩ (.int .u64 t342)) _ = w24 at ⊢; (first | (have n0_ := Aside0.mk (blk_at hq_ n0_.out)) | (have n0_ := Aside0.mk (cell_at hq_ n0_.out)) | (have n0_ := Aside0.mk (below_at hq_ n0_.out))); (first | (have n1_ := Aside0.mk (blk_at hq_ n1_.out)) | (have n1_ := Aside0.mk (cell_at hq_ n1_.out)) | (have n1_ := Aside0.mk (below_at hq_ n1_.out))); (first | (have n2_ := Aside0.mk (blk_at hq_ n2_.out)) | (have n2_ := Aside0.mk (cell_at hq_ n2_.out)) | (have n2_ := Aside0.mk (below_at hq_ n2_.out))); clear hq_)
              | generalize ((w11.setCell ⟨gb344, 0, none⟩ (.int .u64 t341)).setCell ⟨gb344, 1, none⟩ (.int .u64 t342)) = w24 at n0_ n1_ n2_  ⊢
            have BK340 := n0_
            have BK344 := n1_
            have HB := n2_
            clear n0_ n1_ n2_
            have n0_ := Aside0.mk (blk_drew BK340.out)
            have n1_ := Aside0.mk (blk_drew BK344.out)
            have n2_ := Aside0.mk (below_drew1 HB.out)
            clear BK340
            clear BK344
            clear HB
            have BK340 := n0_
            have BK344 := n1_
            have HB := n2_
            clear n0_ n1_ n2_
            refine start_ (n := 19) (S := fun w' => w'.cell? ⟨gb340, 0, none⟩ = some (.int .u64 t338) ∧ w'.cell? ⟨gb340, 1, none⟩ = some (.int .u64 t339) ∧ w'.cell? ⟨gb344, 0, none⟩ = some (.int .u64 t341) ∧ w'.cell? ⟨gb344, 1, none⟩ = some (.int .u64 t342)) (ds := []) #[false, false, false, false, false, false, false, false, false, false, false, false, false, false, false, false, false, false, false] (by kernel_rfl) rfl rfl ⟨(blk_cell BK340.out 0).trans rfl, (blk_cell BK340.out 1).trans rfl, (blk_cell BK344.out 0).trans rfl, (blk_cell BK344.out 1).trans rfl⟩ (fun hHeld => ?_); refine with_tabW laws_FnWords.tab6 laws_FnWords.bits6 (fun HT_ HW_ => ?_)
            generalize w24.drew = w25 at BK340 BK344 HB hHeld ⊢
            refine pure_ (i := 1) (N := some 47) (v := ?_) (a' := ?_) #[false, true, false, false, false, false, false, false, false, false, false, false, false, false, false, false, false, false, false] rfl rfl (any_of HT_.out (by kernel_rfl)) (fun _ _ _ h => h) (Or.inl ⟨by rfl, ?_⟩) ?_ ?_
            rotate_left
            · intro w'
              go_simp
              with_reducible rfl
            rotate_left
            · simp only [Act.put, List.setIfInBounds_toArray, List.set_cons_zero, List.set_cons_succ, i64_w, i32_w]
              rfl
            refine pure_ (i := 2) (N := some 48) (v := ?_) (a' := ?_) #[false, true, true, false, false, false, false, false, false, false, false, false, false, false, false, false, false, false, false] rfl rfl (any_of HT_.out (by kernel_rfl)) (fun _ _ _ h => h) (Or.inl ⟨by rfl, ?_⟩) ?_ ?_
            rotate_left
            · intro w'
              go_simp
              with_reducible rfl
            rotate_left
            · simp only [Act.put, List.setIfInBounds_toArray, List.set_cons_zero, List.set_cons_succ, i64_w, i32_w]
              rfl
            refine take_ (i := 0) (N := some 46) (v := ?_) (a' := ?_) #[true, true, true, false, false, false, false, false, false, false, false, false, false, false, false, false, false, false, false] rfl rfl (take_ofW HT_.out HW_.out (by kernel_rfl)) (fun _ _ _ h => h) (Or.inl ⟨by rfl, ?_⟩) hHeld ?_ ?_
            rotate_left
            · rintro w' ⟨s0, s1, s2, s3⟩
              go_simp
              with_reducible rfl
            rotate_left
            · simp only [Act.put, List.setIfInBounds_toArray, List.set_cons_zero, List.set_cons_succ, i64_w, i32_w]
              rfl
            refine one_ (i := 3) (N := some 49) #[true, true, true, true, false, false, false, false, false, false, false, false, false, false, false, false, false, false, false] rfl rfl (one_of HT_.out (by kernel_rfl)) (by decide) (fun K hK => ?_)
            refine goes_ Try.func19 (by kernel_rfl) rfl #[.int .u64 t336, .int .u64 t337] (by rfl) rfl rfl (by (try simp only [List.map_toArray, List.map_cons, List.map_nil]); first | done | rfl | (simp only [List.length_drop, List.length_take]; rfl)) ?_
            with_reducible refine (spec_MulWide.calls t336 t337 t345 t346 _ A14.out).mono ?_
            rintro e w26 ⟨rfl, hb⟩
            refine ⟨_, rfl, ?_⟩
            have n0_ := za BK340 hb
            have n1_ := za BK344 hb
            have n2_ := Aside0.mk (below_step zb hb)
            clear BK340
            clear BK344
            clear HB
            have BK340 := n0_
            have BK344 := n1_
            have HB := n2_
            clear n0_ n1_ n2_
            (try clear hb)
            (try clear hb2)
            (try clear hk)
            (try clear hi)
            refine hK.out _ _ ⟨(blk_cell BK340.out 0).trans rfl, (blk_cell BK340.out 1).trans rfl, (blk_cell BK344.out 0).trans rfl, (blk_cell BK344.out 1).trans rfl⟩ (fun hHeld => ?_)
            clear hK K
            refine norm_ (a' := ?_) ?_ ?_
            rotate_left
            · show Act.put _ (some 49) _ = _
              simp only [Act.put, List.setIfInBounds_toArray, List.set_cons_zero, List.set_cons_succ, i64_w, i32_w]
              rfl
            refine pure_ (i := 4) (N := some 50) (v := ?_) (a' := ?_) #[true, true, true, true, true, false, false, false, false, false, false, false, false, false, false, false, false, false, false] rfl rfl (any_of HT_.out (by kernel_rfl)) (fun _ _ _ h => h) (Or.inl ⟨by rfl, ?_⟩) ?_ ?_
            rotate_left
            · intro w'
              go_simp
              with_reducible rfl
            rotate_left
            · simp only [Act.put, List.setIfInBounds_toArray, List.set_cons_zero, List.set_cons_succ, i64_w, i32_w]
              rfl
            refine pure_ (i := 5) (N := some 51) (v := ?_) (a' := ?_) #[true, true, true, true, true, true, false, false, false, false, false, false, false, false, false, false, false, false, false] rfl rfl (any_of HT_.out (by kernel_rfl)) (fun _ _ _ h => h) (Or.inl ⟨by rfl, ?_⟩) ?_ ?_
            rotate_left
            · intro w'
              go_simp
              with_reducible rfl
            rotate_left
            · simp only [Act.put, List.setIfInBounds_toArray, List.set_cons_zero, List.set_cons_succ, i64_w, i32_w]
              rfl
            refine pure_ (i := 6) (N := some 52) (v := ?_) (a' := ?_) #[true, true, true, true, true, true, true, false, false, false, false, false, false, false, false, false, false, false, false] rfl rfl (any_of HT_.out (by kernel_rfl)) (fun _ _ _ h => h) (Or.inl ⟨by rfl, ?_⟩) ?_ ?_
            rotate_left
            · intro w'
              go_simp
              with_reducible rfl
            rotate_left
            · simp only [Act.put, List.setIfInBounds_toArray, List.set_cons_zero, List.set_cons_succ, i64_w, i32_w]
              rfl
            refine pure_ (i := 7) (N := some 53) (v := ?_) (a' := ?_) #[true, true, true, true, true, true, true, true, false, false, false, false, false, false, false, false, false, false, false] rfl rfl (any_of HT_.out (by kernel_rfl)) (fun _ _ _ h => h) (Or.inl ⟨by rfl, ?_⟩) ?_ ?_
            rotate_left
            · intro w'
              go_simp
              with_reducible rfl
            rotate_left
            · simp only [Act.put, List.setIfInBounds_toArray, List.set_cons_zero, List.set_cons_succ, i64_w, i32_w]
              rfl
            refine pure_ (i := 8) (N := some 54) (v := ?_) (a' := ?_) #[true, true, true, true, true, true, true, true, true, false, false, false, false, false, false, false, false, false, false] rfl rfl (any_of HT_.out (by kernel_rfl)) (fun _ _ _ h => h) (Or.inl ⟨by rfl, ?_⟩) ?_ ?_
            rotate_left
            · intro w'
              go_simp
              with_reducible rfl
            rotate_left
            · simp only [Act.put, List.setIfInBounds_toArray, List.set_cons_zero, List.set_cons_succ, i64_w, i32_w]
              rfl
            refine pure_ (i := 10) (N := some 56) (v := ?_) (a' := ?_) #[true, true, true, true, true, true, true, true, true, false, true, false, false, false, false, false, false, false, false] rfl rfl (any_of HT_.out (by kernel_rfl)) (fun _ _ _ h => h) (Or.inl ⟨by rfl, ?_⟩) ?_ ?_
            rotate_left
            · intro w'
              go_simp
              with_reducible rfl
            rotate_left
            · simp only [Act.put, List.setIfInBounds_toArray, List.set_cons_zero, List.set_cons_succ, i64_w, i32_w]
              rfl
            refine pure_ (i := 11) (N := some 57) (v := ?_) (a' := ?_) #[true, true, true, true, true, true, true, true, true, false, true, true, false, false, false, false, false, false, false] rfl rfl (any_of HT_.out (by kernel_rfl)) (fun _ _ _ h => h) (Or.inl ⟨by rfl, ?_⟩) ?_ ?_
            rotate_left
            · intro w'
              go_simp
              with_reducible rfl
            rotate_left
            · simp only [Act.put, List.setIfInBounds_toArray, List.set_cons_zero, List.set_cons_succ, i64_w, i32_w]
              rfl
            refine take_ (i := 9) (N := some 55) (v := ?_) (a' := ?_) #[true, true, true, true, true, true, true, true, true, true, true, true, false, false, false, false, false, false, false] rfl rfl (take_ofW HT_.out HW_.out (by kernel_rfl)) (fun _ _ _ h => h) (Or.inl ⟨by rfl, ?_⟩) hHeld ?_ ?_
            rotate_left
            · rintro w' ⟨s0, s1, s2, s3⟩
              go_simp
              with_reducible rfl
            rotate_left
            · simp only [Act.put, List.setIfInBounds_toArray, List.set_cons_zero, List.set_cons_succ, i64_w, i32_w]
              rfl
            refine pure_ (i := 12) (N := some 58) (v := ?_) (a' := ?_) #[true, true, true, true, true, true, true, true, true, true, true, true, true, false, false, false, false, false, false] rfl rfl (any_of HT_.out (by kernel_rfl)) (fun _ _ _ h => h) (Or.inl ⟨by rfl, ?_⟩) ?_ ?_
            rotate_left
            · intro w'
              go_simp
              with_reducible rfl
            rotate_left
            · simp only [Act.put, List.setIfInBounds_toArray, List.set_cons_zero, List.set_cons_succ, i64_w, i32_w]
              rfl
            refine pure_ (i := 13) (N := some 59) (v := ?_) (a' := ?_) #[true, true, true, true, true, true, true, true, true, true, true, true, true, true, false, false, false, false, false] rfl rfl (any_of HT_.out (by kernel_rfl)) (fun _ _ _ h => h) (Or.inl ⟨by rfl, ?_⟩) ?_ ?_
            rotate_left
            · intro w'
              go_simp
              with_reducible rfl
            rotate_left
            · simp only [Act.put, List.setIfInBounds_toArray, List.set_cons_zero, List.set_cons_succ, i64_w, i32_w]
              rfl
            refine pure_ (i := 14) (N := some 60) (v := ?_) (a' := ?_) #[true, true, true, true, true, true, true, true, true, true, true, true, true, true, true, false, false, false, false] rfl rfl (any_of HT_.out (by kernel_rfl)) (fun _ _ _ h => h) (Or.inl ⟨by rfl, ?_⟩) ?_ ?_
            rotate_left
            · intro w'
              go_simp
              with_reducible rfl
            rotate_left
            · simp only [Act.put, List.setIfInBounds_toArray, List.set_cons_zero, List.set_cons_succ, i64_w, i32_w]
              rfl
            refine pure_ (i := 15) (N := some 61) (v := ?_) (a' := ?_) #[true, true, true, true, true, true, true, true, true, true, true, true, true, true, true, true, false, false, false] rfl rfl (any_of HT_.out (by kernel_rfl)) (fun _ _ _ h => h) (Or.inl ⟨by rfl, ?_⟩) ?_ ?_
            rotate_left
            · intro w'
              go_simp
              with_reducible rfl
            rotate_left
            · simp only [Act.put, List.setIfInBounds_toArray, List.set_cons_zero, List.set_cons_succ, i64_w, i32_w]
              rfl
            refine pure_ (i := 16) (N := some 62) (v := ?_) (a' := ?_) #[true, true, true, true, true, true, true, true, true, true, true, true, true, true, true, true, true, false, false] rfl rfl (any_of HT_.out (by kernel_rfl)) (fun _ _ _ h => h) (Or.inl ⟨by rfl, ?_⟩) ?_ ?_
            rotate_left
            · intro w'
              go_simp
              with_reducible rfl
            rotate_left
            · simp only [Act.put, List.setIfInBounds_toArray, List.set_cons_zero, List.set_cons_succ, i64_w, i32_w]
              rfl
            refine pure_ (i := 17) (N := some 63) (v := ?_) (a' := ?_) #[true, true, true, true, true, true, true, true, true, true, true, true, true, true, true, true, true, true, false] rfl rfl (any_of HT_.out (by kernel_rfl)) (fun _ _ _ h => h) (Or.inl ⟨by rfl, ?_⟩) ?_ ?_
            rotate_left
            · intro w'
              go_simp
              with_reducible rfl
            rotate_left
            · simp only [Act.put, List.setIfInBounds_toArray, List.set_cons_zero, List.set_cons_succ, i64_w, i32_w]
              rfl
            refine pure_ (i := 18) (N := some 64) (v := ?_) (a' := ?_) #[true, true, true, true, true, true, true, true, true, true, true, true, true, true, true, true, true, true, true] rfl rfl (any_of HT_.out (by kernel_rfl)) (fun _ _ _ h => h) (Or.inl ⟨by rfl, ?_⟩) ?_ ?_
            rotate_left
            · intro w'
              go_simp
              with_reducible rfl
            rotate_left
            · simp only [Act.put, List.setIfInBounds_toArray, List.set_cons_zero, List.set_cons_succ, i64_w, i32_w]
              rfl
            refine done_ (done_of HT_.out (by kernel_rfl)) ?_
            try go_wp2
            go_meet
            case rel => exact ⟨_, ((t343 != 0)), (by first | rfl | (simp; done) | (simp [*]; done)), H', ⟨by first | omega | exact Nat.le_refl _⟩, ⟨zk⟩, ⟨zk⟩, ⟨zb⟩⟩
        · rw [if_neg c19] at H
          have c19b0 : decide (0 < t337) = false := decide_eq_false c19
          clear c19
          have H' := Aside0.mk H
          clear H
          try go_wp2
          have n0_ : Aside0 (((w11.setCell ⟨gb344, 0, none⟩ (.int .u64 t341)).setCell ⟨gb344, 1, none⟩ (.int .u64 t342)).heap[gb340]? = some (.cells #[.int .u64 t338, .int .u64 t339] 26 (0, 0))) := ⟨by (with_reducible repeat (first | refine blk_drewN ?_ _ | refine blk_drew ?_ | refine blk_alloc ?_ _)); refine blk_far ?_ NB340_344.out _; (with_reducible repeat (first | refine blk_drewN ?_ _ | refine blk_drew ?_ | refine blk_alloc ?_ _)); refine blk_far ?_ NB340_344.out _; (with_reducible repeat (first | refine blk_drewN ?_ _ | refine blk_drew ?_ | refine blk_alloc ?_ _)); exact BK340.out⟩
          have n1_ : Aside0 (((w11.setCell ⟨gb344, 0, none⟩ (.int .u64 t341)).setCell ⟨gb344, 1, none⟩ (.int .u64 t342)).heap[gb344]? = some (.cells #[.int .u64 t341, .int .u64 t342] 26 (0, 0))) := ⟨by (with_reducible repeat (first | refine blk_drewN ?_ _ | refine blk_drew ?_ | refine blk_alloc ?_ _)); refine blk_put (cs := #[.int .u64 t341, .int .u64 0]) ?_ 1 _ rfl; (with_reducible repeat (first | refine blk_drewN ?_ _ | refine blk_drew ?_ | refine blk_alloc ?_ _)); refine blk_put (cs := #[.int .u64 0, .int .u64 0]) ?_ 0 _ rfl; (with_reducible repeat (first | refine blk_drewN ?_ _ | refine blk_drew ?_ | refine blk_alloc ?_ _)); exact BK344.out⟩
          have n2_ : Aside0 (Below w.heap.size w ((w11.setCell ⟨gb344, 0, none⟩ (.int .u64 t341)).setCell ⟨gb344, 1, none⟩ (.int .u64 t342))) := ⟨zb⟩
          (try clear BK340)
          (try clear BK344)
          (try clear HB)
          first
            | ((try simp only [set_drewN, drewN_two]); rw [drewN_self ((w11.setCell ⟨gb344, 0, none⟩ (.int .u64 t341)).setCell ⟨gb344, 1, none⟩ (.int .u64 t342))]; generalize hq_ : World.drewN ((w11.setCell ⟨gb344, 0, none⟩ (.int .u64 t341)).setCell ⟨gb344, 1, none⟩ (.int .u64 t342)) _ = w27 at ⊢; (first | (have n0_ := Aside0.mk (blk_at hq_ n0_.out)) | (have n0_ := Aside0.mk (cell_at hq_ n0_.out)) | (have n0_ := Aside0.mk (below_at hq_ n0_.out))); (first | (have n1_ := Aside0.mk (blk_at hq_ n1_.out)) | (have n1_ := Aside0.mk (cell_at hq_ n1_.out)) | (have n1_ := Aside0.mk (below_at hq_ n1_.out))); (first | (have n2_ := Aside0.mk (blk_at hq_ n2_.out)) | (have n2_ := Aside0.mk (cell_at hq_ n2_.out)) | (have n2_ := Aside0.mk (below_at hq_ n2_.out))); clear hq_)
            | generalize ((w11.setCell ⟨gb344, 0, none⟩ (.int .u64 t341)).setCell ⟨gb344, 1, none⟩ (.int .u64 t342)) = w27 at n0_ n1_ n2_  ⊢
          have BK340 := n0_
          have BK344 := n1_
          have HB := n2_
          clear n0_ n1_ n2_
          have n0_ := Aside0.mk (blk_drew BK340.out)
          have n1_ := Aside0.mk (blk_drew BK344.out)
          have n2_ := Aside0.mk (below_drew1 HB.out)
          clear BK340
          clear BK344
          clear HB
          have BK340 := n0_
          have BK344 := n1_
          have HB := n2_
          clear n0_ n1_ n2_
          refine start_ (n := 19) (S := fun w' => w'.cell? ⟨gb340, 0, none⟩ = some (.int .u64 t338) ∧ w'.cell? ⟨gb340, 1, none⟩ = some (.int .u64 t339)) (ds := []) #[false, false, false, false, false, false, false, false, false, false, false, false, false, false, false, false, false, false, false] (by kernel_rfl) rfl rfl ⟨(blk_cell BK340.out 0).trans rfl, (blk_cell BK340.out 1).trans rfl⟩ (fun hHeld => ?_); refine with_tabW laws_FnWords.tab6 laws_FnWords.bits6 (fun HT_ HW_ => ?_)
          generalize w27.drew = w28 at BK340 BK344 HB hHeld ⊢
          refine pure_ (i := 1) (N := some 47) (v := ?_) (a' := ?_) #[false, true, false, false, false, false, false, false, false, false, false, false, false, false, false, false, false, false, false] rfl rfl (any_of HT_.out (by kernel_rfl)) (fun _ _ _ h => h) (Or.inl ⟨by rfl, ?_⟩) ?_ ?_
          rotate_left
          · intro w'
            go_simp
            with_reducible rfl
          rotate_left
          · simp only [Act.put, List.setIfInBounds_toArray, List.set_cons_zero, List.set_cons_succ, i64_w, i32_w]
            rfl
          refine pure_ (i := 2) (N := some 48) (v := ?_) (a' := ?_) #[false, true, true, false, false, false, false, false, false, false, false, false, false, false, false, false, false, false, false] rfl rfl (any_of HT_.out (by kernel_rfl)) (fun _ _ _ h => h) (Or.inl ⟨by rfl, ?_⟩) ?_ ?_
          rotate_left
          · intro w'
            go_simp
            with_reducible rfl
          rotate_left
          · simp only [Act.put, List.setIfInBounds_toArray, List.set_cons_zero, List.set_cons_succ, i64_w, i32_w]
            rfl
          refine take_ (i := 0) (N := some 46) (v := ?_) (a' := ?_) #[true, true, true, false, false, false, false, false, false, false, false, false, false, false, false, false, false, false, false] rfl rfl (take_ofW HT_.out HW_.out (by kernel_rfl)) (fun _ _ _ h => h) (Or.inl ⟨by rfl, ?_⟩) hHeld ?_ ?_
          rotate_left
          · rintro w' ⟨s0, s1⟩
            go_simp
            with_reducible rfl
          rotate_left
          · simp only [Act.put, List.setIfInBounds_toArray, List.set_cons_zero, List.set_cons_succ, i64_w, i32_w]
            rfl
          refine one_ (i := 3) (N := some 49) #[true, true, true, true, false, false, false, false, false, false, false, false, false, false, false, false, false, false, false] rfl rfl (one_of HT_.out (by kernel_rfl)) (by decide) (fun K hK => ?_)
          refine goes_ Try.func19 (by kernel_rfl) rfl #[.int .u64 t336, .int .u64 t337] (by rfl) rfl rfl (by (try simp only [List.map_toArray, List.map_cons, List.map_nil]); first | done | rfl | (simp only [List.length_drop, List.length_take]; rfl)) ?_
          with_reducible refine (spec_MulWide.calls t336 t337 t345 t346 _ A14.out).mono ?_
          rintro e w29 ⟨rfl, hb⟩
          refine ⟨_, rfl, ?_⟩
          have n0_ := za BK340 hb
          have n1_ := za BK344 hb
          have n2_ := Aside0.mk (below_step zb hb)
          clear BK340
          clear BK344
          clear HB
          have BK340 := n0_
          have BK344 := n1_
          have HB := n2_
          clear n0_ n1_ n2_
          (try clear hb)
          (try clear hb2)
          (try clear hk)
          (try clear hi)
          refine hK.out _ _ ⟨(blk_cell BK340.out 0).trans rfl, (blk_cell BK340.out 1).trans rfl⟩ (fun hHeld => ?_)
          clear hK K
          refine norm_ (a' := ?_) ?_ ?_
          rotate_left
          · show Act.put _ (some 49) _ = _
            simp only [Act.put, List.setIfInBounds_toArray, List.set_cons_zero, List.set_cons_succ, i64_w, i32_w]
            rfl
          refine pure_ (i := 4) (N := some 50) (v := ?_) (a' := ?_) #[true, true, true, true, true, false, false, false, false, false, false, false, false, false, false, false, false, false, false] rfl rfl (any_of HT_.out (by kernel_rfl)) (fun _ _ _ h => h) (Or.inl ⟨by rfl, ?_⟩) ?_ ?_
          rotate_left
          · intro w'
            go_simp
            with_reducible rfl
          rotate_left
          · simp only [Act.put, List.setIfInBounds_toArray, List.set_cons_zero, List.set_cons_succ, i64_w, i32_w]
            rfl
          refine pure_ (i := 5) (N := some 51) (v := ?_) (a' := ?_) #[true, true, true, true, true, true, false, false, false, false, false, false, false, false, false, false, false, false, false] rfl rfl (any_of HT_.out (by kernel_rfl)) (fun _ _ _ h => h) (Or.inl ⟨by rfl, ?_⟩) ?_ ?_
          rotate_left
          · intro w'
            go_simp
            with_reducible rfl
          rotate_left
          · simp only [Act.put, List.setIfInBounds_toArray, List.set_cons_zero, List.set_cons_succ, i64_w, i32_w]
            rfl
          refine pure_ (i := 6) (N := some 52) (v := ?_) (a' := ?_) #[true, true, true, true, true, true, true, false, false, false, false, false, false, false, false, false, false, false, false] rfl rfl (any_of HT_.out (by kernel_rfl)) (fun _ _ _ h => h) (Or.inl ⟨by rfl, ?_⟩) ?_ ?_
          rotate_left
          · intro w'
            go_simp
            with_reducible rfl
          rotate_left
          · simp only [Act.put, List.setIfInBounds_toArray, List.set_cons_zero, List.set_cons_succ, i64_w, i32_w]
            rfl
          refine pure_ (i := 7) (N := some 53) (v := ?_) (a' := ?_) #[true, true, true, true, true, true, true, true, false, false, false, false, false, false, false, false, false, false, false] rfl rfl (any_of HT_.out (by kernel_rfl)) (fun _ _ _ h => h) (Or.inl ⟨by rfl, ?_⟩) ?_ ?_
          rotate_left
          · intro w'
            go_simp
            with_reducible rfl
          rotate_left
          · simp only [Act.put, List.setIfInBounds_toArray, List.set_cons_zero, List.set_cons_succ, i64_w, i32_w]
            rfl
          refine pure_ (i := 8) (N := some 54) (v := ?_) (a' := ?_) #[true, true, true, true, true, true, true, true, true, false, false, false, false, false, false, false, false, false, false] rfl rfl (any_of HT_.out (by kernel_rfl)) (fun _ _ _ h => h) (Or.inl ⟨by rfl, ?_⟩) ?_ ?_
          rotate_left
          · intro w'
            go_simp
            with_reducible rfl
          rotate_left
          · simp only [Act.put, List.setIfInBounds_toArray, List.set_cons_zero, List.set_cons_succ, i64_w, i32_w]
            rfl
          refine pure_ (i := 9) (N := some 55) (v := undef) (a' := ?_) #[true, true, true, true, true, true, true, true, true, true, false, false, false, false, false, false, false, false, false] rfl rfl (any_of HT_.out (by kernel_rfl)) (fun _ _ _ h => h) (Or.inr ⟨by rfl, rfl⟩) ?_ ?_
          rotate_left
          · simp only [Act.put, List.setIfInBounds_toArray, List.set_cons_zero, List.set_cons_succ, i64_w, i32_w]
            rfl
          refine pure_ (i := 10) (N := some 56) (v := undef) (a' := ?_) #[true, true, true, true, true, true, true, true, true, true, true, false, false, false, false, false, false, false, false] rfl rfl (any_of HT_.out (by kernel_rfl)) (fun _ _ _ h => h) (Or.inr ⟨by rfl, rfl⟩) ?_ ?_
          rotate_left
          · simp only [Act.put, List.setIfInBounds_toArray, List.set_cons_zero, List.set_cons_succ, i64_w, i32_w]
            rfl
          refine pure_ (i := 11) (N := some 57) (v := undef) (a' := ?_) #[true, true, true, true, true, true, true, true, true, true, true, true, false, false, false, false, false, false, false] rfl rfl (any_of HT_.out (by kernel_rfl)) (fun _ _ _ h => h) (Or.inr ⟨by rfl, rfl⟩) ?_ ?_
          rotate_left
          · simp only [Act.put, List.setIfInBounds_toArray, List.set_cons_zero, List.set_cons_succ, i64_w, i32_w]
            rfl
          refine pure_ (i := 12) (N := some 58) (v := undef) (a' := ?_) #[true, true, true, true, true, true, true, true, true, true, true, true, true, false, false, false, false, false, false] rfl rfl (any_of HT_.out (by kernel_rfl)) (fun _ _ _ h => h) (Or.inr ⟨by rfl, rfl⟩) ?_ ?_
          rotate_left
          · simp only [Act.put, List.setIfInBounds_toArray, List.set_cons_zero, List.set_cons_succ, i64_w, i32_w]
            rfl
          refine pure_ (i := 13) (N := some 59) (v := undef) (a' := ?_) #[true, true, true, true, true, true, true, true, true, true, true, true, true, true, false, false, false, false, false] rfl rfl (any_of HT_.out (by kernel_rfl)) (fun _ _ _ h => h) (Or.inr ⟨by rfl, rfl⟩) ?_ ?_
          rotate_left
          · simp only [Act.put, List.setIfInBounds_toArray, List.set_cons_zero, List.set_cons_succ, i64_w, i32_w]
            rfl
          refine pure_ (i := 14) (N := some 60) (v := undef) (a' := ?_) #[true, true, true, true, true, true, true, true, true, true, true, true, true, true, true, false, false, false, false] rfl rfl (any_of HT_.out (by kernel_rfl)) (fun _ _ _ h => h) (Or.inr ⟨by rfl, rfl⟩) ?_ ?_
          rotate_left
          · simp only [Act.put, List.setIfInBounds_toArray, List.set_cons_zero, List.set_cons_succ, i64_w, i32_w]
            rfl
          refine pure_ (i := 15) (N := some 61) (v := undef) (a' := ?_) #[true, true, true, true, true, true, true, true, true, true, true, true, true, true, true, true, false, false, false] rfl rfl (any_of HT_.out (by kernel_rfl)) (fun _ _ _ h => h) (Or.inr ⟨by rfl, rfl⟩) ?_ ?_
          rotate_left
          · simp only [Act.put, List.setIfInBounds_toArray, List.set_cons_zero, List.set_cons_succ, i64_w, i32_w]
            rfl
          refine pure_ (i := 16) (N := some 62) (v := undef) (a' := ?_) #[true, true, true, true, true, true, true, true, true, true, true, true, true, true, true, true, true, false, false] rfl rfl (any_of HT_.out (by kernel_rfl)) (fun _ _ _ h => h) (Or.inr ⟨by rfl, rfl⟩) ?_ ?_
          rotate_left
          · simp only [Act.put, List.setIfInBounds_toArray, List.set_cons_zero, List.set_cons_succ, i64_w, i32_w]
            rfl
          refine pure_ (i := 17) (N := some 63) (v := ?_) (a' := ?_) #[true, true, true, true, true, true, true, true, true, true, true, true, true, true, true, true, true, true, false] rfl rfl (any_of HT_.out (by kernel_rfl)) (fun _ _ _ h => h) (Or.inl ⟨by rfl, ?_⟩) ?_ ?_
          rotate_left
          · intro w'
            go_simp
            with_reducible rfl
          rotate_left
          · simp only [Act.put, List.setIfInBounds_toArray, List.set_cons_zero, List.set_cons_succ, i64_w, i32_w]
            rfl
          refine pure_ (i := 18) (N := some 64) (v := ?_) (a' := ?_) #[true, true, true, true, true, true, true, true, true, true, true, true, true, true, true, true, true, true, true] rfl rfl (any_of HT_.out (by kernel_rfl)) (fun _ _ _ h => h) (Or.inl ⟨by rfl, ?_⟩) ?_ ?_
          rotate_left
          · intro w'
            go_simp
            with_reducible rfl
          rotate_left
          · simp only [Act.put, List.setIfInBounds_toArray, List.set_cons_zero, List.set_cons_succ, i64_w, i32_w]
            rfl
          refine done_ (done_of HT_.out (by kernel_rfl)) ?_
          try go_wp2
          go_meet
          case rel => exact ⟨_, (false), (by first | rfl | (simp; done) | (simp [*]; done)), H', ⟨by first | omega | exact Nat.le_refl _⟩, ⟨zk⟩, ⟨zk⟩, ⟨zb⟩⟩
    case rest => as_aux_lemma =>
      clear HC6
      (try clear c1); (try clear c2); (try clear p2); (try clear c15); (try clear c15b0); (try clear c19); (try clear c19b0); (try clear c20); (try clear c20b0)
      obtain ⟨kq, x64_5, rfl, HA, HJ5, BK340, BK344, HB⟩ := hcut
      cases kq with
      | zero => exact absurd HA.out (by simp [laws_FnWords.j0])
      | succ kj5 =>
        have H := HA.out
        clear HA
        simp only [laws_FnWords.j0] at H
        by_cases c30 : x64_5 = true
        · subst c30
          have H1 : (none) = some r := by rw [if_pos rfl] at H; exact H
          clear H
          have H := H1
          clear H1
          exact absurd H (by simp)
        · replace c30 := Bool.eq_false_iff.mpr c30
          subst c30
          have H1 : ((spec_DrawAddWide.f kj5 l0).bind fun bt347 => ((impl_AddWide.f bt347.1 bt347.2.1 bt347.2.2.1 bt347.2.2.2).bind fun bt353 => ((spec_AddWide.f bt347.1 bt347.2.1 bt347.2.2.1 bt347.2.2.2).bind fun bt357 => ((impl_SubWide.f bt353.1 bt353.2.1 bt347.2.2.1 bt347.2.2.2).bind fun bt361 => (if (!(bt353.1 == bt357.1) || (!(bt353.2.1 == bt357.2.1))) = true then (laws_FnWords.j1 kj5 l0 true) else (if (bt353.2.2 != bt357.2.2) = true then (laws_FnWords.j1 kj5 l0 true) else (if (!(bt361.1 == bt347.1) || (!(bt361.2.1 == bt347.2.1))) = true then (laws_FnWords.j1 kj5 l0 true) else (laws_FnWords.j1 kj5 l0 (bt361.2.2 != bt353.2.2))))))))) = some r := by rw [if_neg (show ¬ (false = true) by decide)] at H; exact H
          clear H
          have H := H1
          clear H1
          replace H := Option.bind_eq_some_iff.mp H
          obtain ⟨⟨t347, t348, t349, t350⟩, A310, H⟩ := H
          replace H : ((impl_AddWide.f t347 t348 t349 t350).bind fun bt353 => ((spec_AddWide.f t347 t348 t349 t350).bind fun bt357 => ((impl_SubWide.f bt353.1 bt353.2.1 t349 t350).bind fun bt361 => (if (!(bt353.1 == bt357.1) || (!(bt353.2.1 == bt357.2.1))) = true then (laws_FnWords.j1 kj5 l0 true) else (if (bt353.2.2 != bt357.2.2) = true then (laws_FnWords.j1 kj5 l0 true) else (if (!(bt361.1 == t347) || (!(bt361.2.1 == t348))) = true then (laws_FnWords.j1 kj5 l0 true) else (laws_FnWords.j1 kj5 l0 (bt361.2.2 != bt353.2.2)))))))) = some r := H
          have A31 := Aside0.mk A310
          clear A310
          replace H := Option.bind_eq_some_iff.mp H
          obtain ⟨⟨t353, t354, t355⟩, A320, H⟩ := H
          replace H : ((spec_AddWide.f t347 t348 t349 t350).bind fun bt357 => ((impl_SubWide.f t353 t354 t349 t350).bind fun bt361 => (if (!(t353 == bt357.1) || (!(t354 == bt357.2.1))) = true then (laws_FnWords.j1 kj5 l0 true) else (if (t355 != bt357.2.2) = true then (laws_FnWords.j1 kj5 l0 true) else (if (!(bt361.1 == t347) || (!(bt361.2.1 == t348))) = true then (laws_FnWords.j1 kj5 l0 true) else (laws_FnWords.j1 kj5 l0 (bt361.2.2 != t355))))))) = some r := H
          have A32 := Aside0.mk A320
          clear A320
          replace H := Option.bind_eq_some_iff.mp H
          obtain ⟨⟨t357, t358, t359⟩, A330, H⟩ := H
          replace H : ((impl_SubWide.f t353 t354 t349 t350).bind fun bt361 => (if (!(t353 == t357) || (!(t354 == t358))) = true then (laws_FnWords.j1 kj5 l0 true) else (if (t355 != t359) = true then (laws_FnWords.j1 kj5 l0 true) else (if (!(bt361.1 == t347) || (!(bt361.2.1 == t348))) = true then (laws_FnWords.j1 kj5 l0 true) else (laws_FnWords.j1 kj5 l0 (bt361.2.2 != t355)))))) = some r := H
          have A33 := Aside0.mk A330
          clear A330
          replace H := Option.bind_eq_some_iff.mp H
          obtain ⟨⟨t361, t362, t363⟩, A340, H⟩ := H
          replace H : (if (!(t353 == t357) || (!(t354 == t358))) = true then (laws_FnWords.j1 kj5 l0 true) else (if (t355 != t359) = true then (laws_FnWords.j1 kj5 l0 true) else (if (!(t361 == t347) || (!(t362 == t348))) = true then (laws_FnWords.j1 kj5 l0 true) else (laws_FnWords.j1 kj5 l0 (t363 != t355))))) = some r := H
          have A34 := Aside0.mk A340
          clear A340
          have HC35 := Aside0.mk H
          clear H
          go_upto_region 12 with (first | ((with_reducible refine gate_callee (f := 32) rfl ?_); refine goesL_ (some 67) rfl rfl Try.func32 (by kernel_rfl) rfl #[.slice A0 l0.length c0] rfl (by (try simp only [List.map_toArray, List.map_cons, List.map_nil]); first | done | rfl | (simp only [List.length_drop, List.length_take]; rfl)) ?_; (with_reducible refine (spec_DrawAddWide.calls kj5 _ _ l0 t347 t348 t349 t350 _ ?side1 ?side2 A31.out).mono ?_); (case side1 => repeat (first | exact (Kd.C_below HR0.out HB.out) | (with_reducible refine Kd.C_alloc ?_ _) | (with_reducible refine Kd.C_drewN ?_ _) | (with_reducible refine Kd.C_drew ?_))); (case side2 => exact HC0.out); rintro e w36 ⟨rfl, hb⟩; refine ⟨_, rfl, ?_⟩; have n0_ := za BK340 hb; have n1_ := za BK344 hb; have n2_ := Aside0.mk (below_step zb hb); clear BK340 BK344 HB; have BK340 := n0_; have BK344 := n1_; have HB := n2_; clear n0_ n1_ n2_; (try clear hb); (try clear hb2); (try clear hk); (try clear hi)) | ((with_reducible refine gate_dst (N := 8) rfl ?_); refine box_event ?hg (N := 8) ?hd (cs := #[.int .u64 0, .int .u64 0]) (t := 26) ?hr ?_; (case hd => rfl); (case hg => rfl); (case hr => first | (go_simp; done) | (go_simp; rfl)); intro gb351 hg w37 hbox hb; have n0_ := za BK340 hb; have n1_ := za BK344 hb; have n2_ := Aside0.mk (below_step zb hb); have n3_ := Aside0.mk (hbox); have n4_ := zs w hg; have n5_ := zs w hg; have n6_ := zl BK340 hg; have n7_ := zg BK340 hg; have n8_ := zl BK344 hg; have n9_ := zg BK344 hg; clear BK340 BK344 HB; have BK340 := n0_; have BK344 := n1_; have HB := n2_; have BK351 := n3_; have GW351 := n4_; have GE351 := n5_; have NB340_351 := n6_; have NB351_340 := n7_; have NB344_351 := n8_; have NB351_344 := n9_; clear n0_ n1_ n2_ n3_ n4_ n5_ n6_ n7_ n8_ n9_ hb hbox hg) | ((with_reducible refine gate_dst (N := 9) rfl ?_); refine box_event ?hg (N := 9) ?hd (cs := #[.int .u64 0, .int .u64 0]) (t := 26) ?hr ?_; (case hd => rfl); (case hg => rfl); (case hr => first | (go_simp; done) | (go_simp; rfl)); intro gb352 hg w38 hbox hb; have n0_ := za BK340 hb; have n1_ := za BK344 hb; have n2_ := za BK351 hb; have n3_ := Aside0.mk (below_step zb hb); have n4_ := Aside0.mk (hbox); have n5_ := zs w hg; have n6_ := zs w hg; have n7_ := zl BK340 hg; have n8_ := zg BK340 hg; have n9_ := zl BK344 hg; have n10_ := zg BK344 hg; have n11_ := zl BK351 hg; have n12_ := zg BK351 hg; clear BK340 BK344 BK351 HB; have BK340 := n0_; have BK344 := n1_; have BK351 := n2_; have HB := n3_; have BK352 := n4_; have GW352 := n5_; have GE352 := n6_; have NB340_352 := n7_; have NB352_340 := n8_; have NB344_352 := n9_; have NB352_344 := n10_; have NB351_352 := n11_; have NB352_351 := n12_; clear n0_ n1_ n2_ n3_ n4_ n5_ n6_ n7_ n8_ n9_ n10_ n11_ n12_ hb hbox hg; have hnb39 := NB351_340.out; have hnc39 := NB340_351.out; have hnb40 := NB351_344.out; have hnc40 := NB344_351.out; have hnb41 := NB351_352.out; have hnc41 := NB352_351.out; have hcz42_0 : w38.cell? ⟨gb351, 0, none⟩ = some (.int .u64 0) := (blk_cell BK351.out 0).trans rfl; have hcz42_1 : w38.cell? ⟨gb351, 1, none⟩ = some (.int .u64 0) := (blk_cell BK351.out 1).trans rfl; have hfz42_0 := blk_frozen BK351.out 0; have hfz42_1 := blk_frozen BK351.out 1; have hnb43 := NB352_340.out; have hnc43 := NB340_352.out; have hnb44 := NB352_344.out; have hnc44 := NB344_352.out; have hcz45_0 : w38.cell? ⟨gb352, 0, none⟩ = some (.int .u64 0) := (blk_cell BK352.out 0).trans rfl; have hcz45_1 : w38.cell? ⟨gb352, 1, none⟩ = some (.int .u64 0) := (blk_cell BK352.out 1).trans rfl; have hfz45_0 := blk_frozen BK352.out 0; have hfz45_1 := blk_frozen BK352.out 1) | ((with_reducible refine gate_callee (f := 22) rfl ?_); refine goesL_ (some 73) rfl rfl Try.func22 (by kernel_rfl) rfl #[.agg #[.int .u64 t347, .int .u64 t348], .agg #[.int .u64 t349, .int .u64 t350]] rfl (by (try simp only [List.map_toArray, List.map_cons, List.map_nil]); first | done | rfl | (simp only [List.length_drop, List.length_take]; rfl)) ?_; (with_reducible refine (impl_AddWide.calls t347 t348 t349 t350 t353 t354 t355 _ A32.out).mono ?_); rintro e w46 ⟨rfl, hb⟩; refine ⟨_, rfl, ?_⟩; have n0_ := Aside0.mk (blk_below (g := gb340) (o := .cells #[.int .u64 t338, .int .u64 t339] 26 (0, 0)) (by (with_reducible repeat (first | refine blk_drewN ?_ _ | refine blk_drew ?_ | refine blk_alloc ?_ _)); refine blk_far ?_ NB340_352.out _; (with_reducible repeat (first | refine blk_drewN ?_ _ | refine blk_drew ?_ | refine blk_alloc ?_ _)); refine blk_far ?_ NB340_352.out _; (with_reducible repeat (first | refine blk_drewN ?_ _ | refine blk_drew ?_ | refine blk_alloc ?_ _)); refine blk_far ?_ NB340_351.out _; (with_reducible repeat (first | refine blk_drewN ?_ _ | refine blk_drew ?_ | refine blk_alloc ?_ _)); refine blk_far ?_ NB340_351.out _; (with_reducible repeat (first | refine blk_drewN ?_ _ | refine blk_drew ?_ | refine blk_alloc ?_ _)); exact BK340.out) hb); have n1_ := Aside0.mk (blk_below (g := gb344) (o := .cells #[.int .u64 t341, .int .u64 t342] 26 (0, 0)) (by (with_reducible repeat (first | refine blk_drewN ?_ _ | refine blk_drew ?_ | refine blk_alloc ?_ _)); refine blk_far ?_ NB344_352.out _; (with_reducible repeat (first | refine blk_drewN ?_ _ | refine blk_drew ?_ | refine blk_alloc ?_ _)); refine blk_far ?_ NB344_352.out _; (with_reducible repeat (first | refine blk_drewN ?_ _ | refine blk_drew ?_ | refine blk_alloc ?_ _)); refine blk_far ?_ NB344_351.out _; (with_reducible repeat (first | refine blk_drewN ?_ _ | refine blk_drew ?_ | refine blk_alloc ?_ _)); refine blk_far ?_ NB344_351.out _; (with_reducible repeat (first | refine blk_drewN ?_ _ | refine blk_drew ?_ | refine blk_alloc ?_ _)); exact BK344.out) hb); have n2_ := Aside0.mk (blk_below (g := gb351) (o := .cells #[.int .u64 t347, .int .u64 t348] 26 (0, 0)) (by (with_reducible repeat (first | refine blk_drewN ?_ _ | refine blk_drew ?_ | refine blk_alloc ?_ _)); refine blk_far ?_ NB351_352.out _; (with_reducible repeat (first | refine blk_drewN ?_ _ | refine blk_drew ?_ | refine blk_alloc ?_ _)); refine blk_far ?_ NB351_352.out _; (with_reducible repeat (first | refine blk_drewN ?_ _ | refine blk_drew ?_ | refine blk_alloc ?_ _)); refine blk_put (cs := #[.int .u64 t347, .int .u64 0]) ?_ 1 _ rfl; (with_reducible repeat (first | refine blk_drewN ?_ _ | refine blk_drew ?_ | refine blk_alloc ?_ _)); refine blk_put (cs := #[.int .u64 0, .int .u64 0]) ?_ 0 _ rfl; (with_reducible repeat (first | refine blk_drewN ?_ _ | refine blk_drew ?_ | refine blk_alloc ?_ _)); exact BK351.out) hb); have n3_ := Aside0.mk (blk_below (g := gb352) (o := .cells #[.int .u64 t349, .int .u64 t350] 26 (0, 0)) (by (with_reducible repeat (first | refine blk_drewN ?_ _ | refine blk_drew ?_ | refine blk_alloc ?_ _)); refine blk_put (cs := #[.int .u64 t349, .int .u64 0]) ?_ 1 _ rfl; (with_reducible repeat (first | refine blk_drewN ?_ _ | refine blk_drew ?_ | refine blk_alloc ?_ _)); refine blk_put (cs := #[.int .u64 0, .int .u64 0]) ?_ 0 _ rfl; (with_reducible repeat (first | refine blk_drewN ?_ _ | refine blk_drew ?_ | refine blk_alloc ?_ _)); refine blk_far ?_ NB352_351.out _; (with_reducible repeat (first | refine blk_drewN ?_ _ | refine blk_drew ?_ | refine blk_alloc ?_ _)); refine blk_far ?_ NB352_351.out _; (with_reducible repeat (first | refine blk_drewN ?_ _ | refine blk_drew ?_ | refine blk_alloc ?_ _)); exact BK352.out) hb); have n4_ := Aside0.mk (below_step zb hb); clear BK340 BK344 BK351 BK352 HB; have BK340 := n0_; have BK344 := n1_; have BK351 := n2_; have BK352 := n3_; have HB := n4_; clear n0_ n1_ n2_ n3_ n4_; (try clear hb); (try clear hb2); (try clear hk); (try clear hi)) | ((with_reducible refine gate_dst (N := 10) rfl ?_); refine box_event ?hg (N := 10) ?hd (cs := #[.int .u64 0, .int .u64 0]) (t := 26) ?hr ?_; (case hd => rfl); (case hg => rfl); (case hr => first | (go_simp; done) | (go_simp; rfl)); intro gb356 hg w47 hbox hb; have n0_ := za BK340 hb; have n1_ := za BK344 hb; have n2_ := za BK351 hb; have n3_ := za BK352 hb; have n4_ := Aside0.mk (below_step zb hb); have n5_ := Aside0.mk (hbox); have n6_ := zs w hg; have n7_ := zs w hg; have n8_ := zl BK340 hg; have n9_ := zg BK340 hg; have n10_ := zl BK344 hg; have n11_ := zg BK344 hg; have n12_ := zl BK351 hg; have n13_ := zg BK351 hg; have n14_ := zl BK352 hg; have n15_ := zg BK352 hg; clear BK340 BK344 BK351 BK352 HB; have BK340 := n0_; have BK344 := n1_; have BK351 := n2_; have BK352 := n3_; have HB := n4_; have BK356 := n5_; have GW356 := n6_; have GE356 := n7_; have NB340_356 := n8_; have NB356_340 := n9_; have NB344_356 := n10_; have NB356_344 := n11_; have NB351_356 := n12_; have NB356_351 := n13_; have NB352_356 := n14_; have NB356_352 := n15_; clear n0_ n1_ n2_ n3_ n4_ n5_ n6_ n7_ n8_ n9_ n10_ n11_ n12_ n13_ n14_ n15_ hb hbox hg; have hnb48 := NB356_340.out; have hnc48 := NB340_356.out; have hnb49 := NB356_344.out; have hnc49 := NB344_356.out; have hnb50 := NB356_351.out; have hnc50 := NB351_356.out; have hnb51 := NB356_352.out; have hnc51 := NB352_356.out; have hcz52_0 : w47.cell? ⟨gb356, 0, none⟩ = some (.int .u64 0) := (blk_cell BK356.out 0).trans rfl; have hcz52_1 : w47.cell? ⟨gb356, 1, none⟩ = some (.int .u64 0) := (blk_cell BK356.out 1).trans rfl; have hfz52_0 := blk_frozen BK356.out 0; have hfz52_1 := blk_frozen BK356.out 1; have hcz53_0 : w47.cell? ⟨gb351, 0, none⟩ = some (.int .u64 t347) := (blk_cell BK351.out 0).trans rfl; have hcz53_1 : w47.cell? ⟨gb351, 1, none⟩ = some (.int .u64 t348) := (blk_cell BK351.out 1).trans rfl; have hfz53_0 := blk_frozen BK351.out 0; have hfz53_1 := blk_frozen BK351.out 1; have hcz54_0 : w47.cell? ⟨gb352, 0, none⟩ = some (.int .u64 t349) := (blk_cell BK352.out 0).trans rfl; have hcz54_1 : w47.cell? ⟨gb352, 1, none⟩ = some (.int .u64 t350) := (blk_cell BK352.out 1).trans rfl; have hfz54_0 := blk_frozen BK352.out 0; have hfz54_1 := blk_frozen BK352.out 1) | ((with_reducible refine gate_callee (f := 21) rfl ?_); refine goesL_ (some 79) rfl rfl Try.func21 (by kernel_rfl) rfl #[.agg #[.int .u64 t347, .int .u64 t348], .agg #[.int .u64 t349, .int .u64 t350]] rfl (by (try simp only [List.map_toArray, List.map_cons, List.map_nil]); first | done | rfl | (simp only [List.length_drop, List.length_take]; rfl)) ?_; (with_reducible refine (spec_AddWide.calls t347 t348 t349 t350 t357 t358 t359 _ A33.out).mono ?_); rintro e w55 ⟨rfl, hb⟩; refine ⟨_, rfl, ?_⟩; have n0_ := Aside0.mk (blk_below (g := gb340) (o := .cells #[.int .u64 t338, .int .u64 t339] 26 (0, 0)) (by (with_reducible repeat (first | refine blk_drewN ?_ _ | refine blk_drew ?_ | refine blk_alloc ?_ _)); refine blk_far ?_ NB340_356.out _; (with_reducible repeat (first | refine blk_drewN ?_ _ | refine blk_drew ?_ | refine blk_alloc ?_ _)); refine blk_far ?_ NB340_356.out _; (with_reducible repeat (first | refine blk_drewN ?_ _ | refine blk_drew ?_ | refine blk_alloc ?_ _)); exact BK340.out) hb); have n1_ := Aside0.mk (blk_below (g := gb344) (o := .cells #[.int .u64 t341, .int .u64 t342] 26 (0, 0)) (by (with_reducible repeat (first | refine blk_drewN ?_ _ | refine blk_drew ?_ | refine blk_alloc ?_ _)); refine blk_far ?_ NB344_356.out _; (with_reducible repeat (first | refine blk_drewN ?_ _ | refine blk_drew ?_ | refine blk_alloc ?_ _)); refine blk_far ?_ NB344_356.out _; (with_reducible repeat (first | refine blk_drewN ?_ _ | refine blk_drew ?_ | refine blk_alloc ?_ _)); exact BK344.out) hb); have n2_ := Aside0.mk (blk_below (g := gb351) (o := .cells #[.int .u64 t347, .int .u64 t348] 26 (0, 0)) (by (with_reducible repeat (first | refine blk_drewN ?_ _ | refine blk_drew ?_ | refine blk_alloc ?_ _)); refine blk_far ?_ NB351_356.out _; (with_reducible repeat (first | refine blk_drewN ?_ _ | refine blk_drew ?_ | refine blk_alloc ?_ _)); refine blk_far ?_ NB351_356.out _; (with_reducible repeat (first | refine blk_drewN ?_ _ | refine blk_drew ?_ | refine blk_alloc ?_ _)); exact BK351.out) hb); have n3_ := Aside0.mk (blk_below (g := gb352) (o := .cells #[.int .u64 t349, .int .u64 t350] 26 (0, 0)) (by (with_reducible repeat (first | refine blk_drewN ?_ _ | refine blk_drew ?_ | refine blk_alloc ?_ _)); refine blk_far ?_ NB352_356.out _; (with_reducible repeat (first | refine blk_drewN ?_ _ | refine blk_drew ?_ | refine blk_alloc ?_ _)); refine blk_far ?_ NB352_356.out _; (with_reducible repeat (first | refine blk_drewN ?_ _ | refine blk_drew ?_ | refine blk_alloc ?_ _)); exact BK352.out) hb); have n4_ := Aside0.mk (blk_below (g := gb356) (o := .cells #[.int .u64 t353, .int .u64 t354] 26 (0, 0)) (by (with_reducible repeat (first | refine blk_drewN ?_ _ | refine blk_drew ?_ | refine blk_alloc ?_ _)); refine blk_put (cs := #[.int .u64 t353, .int .u64 0]) ?_ 1 _ rfl; (with_reducible repeat (first | refine blk_drewN ?_ _ | refine blk_drew ?_ | refine blk_alloc ?_ _)); refine blk_put (cs := #[.int .u64 0, .int .u64 0]) ?_ 0 _ rfl; (with_reducible repeat (first | refine blk_drewN ?_ _ | refine blk_drew ?_ | refine blk_alloc ?_ _)); exact BK356.out) hb); have n5_ := Aside0.mk (below_step zb hb); clear BK340 BK344 BK351 BK352 BK356 HB; have BK340 := n0_; have BK344 := n1_; have BK351 := n2_; have BK352 := n3_; have BK356 := n4_; have HB := n5_; clear n0_ n1_ n2_ n3_ n4_ n5_; (try clear hb); (try clear hb2); (try clear hk); (try clear hi)) | ((with_reducible refine gate_dst (N := 12) rfl ?_); refine box_event ?hg (N := 12) ?hd (cs := #[.int .u64 0, .int .u64 0]) (t := 26) ?hr ?_; (case hd => rfl); (case hg => rfl); (case hr => first | (go_simp; done) | (go_simp; rfl)); intro gb360 hg w56 hbox hb; have n0_ := za BK340 hb; have n1_ := za BK344 hb; have n2_ := za BK351 hb; have n3_ := za BK352 hb; have n4_ := za BK356 hb; have n5_ := Aside0.mk (below_step zb hb); have n6_ := Aside0.mk (hbox); have n7_ := zs w hg; have n8_ := zs w hg; have n9_ := zl BK340 hg; have n10_ := zg BK340 hg; have n11_ := zl BK344 hg; have n12_ := zg BK344 hg; have n13_ := zl BK351 hg; have n14_ := zg BK351 hg; have n15_ := zl BK352 hg; have n16_ := zg BK352 hg; have n17_ := zl BK356 hg; have n18_ := zg BK356 hg; clear BK340 BK344 BK351 BK352 BK356 HB; have BK340 := n0_; have BK344 := n1_; have BK351 := n2_; have BK352 := n3_; have BK356 := n4_; have HB := n5_; have BK360 := n6_; have GW360 := n7_; have GE360 := n8_; have NB340_360 := n9_; have NB360_340 := n10_; have NB344_360 := n11_; have NB360_344 := n12_; have NB351_360 := n13_; have NB360_351 := n14_; have NB352_360 := n15_; have NB360_352 := n16_; have NB356_360 := n17_; have NB360_356 := n18_; clear n0_ n1_ n2_ n3_ n4_ n5_ n6_ n7_ n8_ n9_ n10_ n11_ n12_ n13_ n14_ n15_ n16_ n17_ n18_ hb hbox hg; have hnb57 := NB360_340.out; have hnc57 := NB340_360.out; have hnb58 := NB360_344.out; have hnc58 := NB344_360.out; have hnb59 := NB360_351.out; have hnc59 := NB351_360.out; have hnb60 := NB360_352.out; have hnc60 := NB352_360.out; have hnb61 := NB360_356.out; have hnc61 := NB356_360.out; have hcz62_0 : w56.cell? ⟨gb360, 0, none⟩ = some (.int .u64 0) := (blk_cell BK360.out 0).trans rfl; have hcz62_1 : w56.cell? ⟨gb360, 1, none⟩ = some (.int .u64 0) := (blk_cell BK360.out 1).trans rfl; have hfz62_0 := blk_frozen BK360.out 0; have hfz62_1 := blk_frozen BK360.out 1; have hcz63_0 : w56.cell? ⟨gb356, 0, none⟩ = some (.int .u64 t353) := (blk_cell BK356.out 0).trans rfl; have hcz63_1 : w56.cell? ⟨gb356, 1, none⟩ = some (.int .u64 t354) := (blk_cell BK356.out 1).trans rfl; have hfz63_0 := blk_frozen BK356.out 0; have hfz63_1 := blk_frozen BK356.out 1; have hcz64_0 : w56.cell? ⟨gb352, 0, none⟩ = some (.int .u64 t349) := (blk_cell BK352.out 0).trans rfl; have hcz64_1 : w56.cell? ⟨gb352, 1, none⟩ = some (.int .u64 t350) := (blk_cell BK352.out 1).trans rfl; have hfz64_0 := blk_frozen BK352.out 0; have hfz64_1 := blk_frozen BK352.out 1) | ((with_reducible refine gate_callee (f := 18) rfl ?_); refine goesL_ (some 85) rfl rfl Try.func18 (by kernel_rfl) rfl #[.agg #[.int .u64 t353, .int .u64 t354], .agg #[.int .u64 t349, .int .u64 t350]] rfl (by (try simp only [List.map_toArray, List.map_cons, List.map_nil]); first | done | rfl | (simp only [List.length_drop, List.length_take]; rfl)) ?_; (with_reducible refine (impl_SubWide.calls t353 t354 t349 t350 t361 t362 t363 _ A34.out).mono ?_); rintro e w65 ⟨rfl, hb⟩; refine ⟨_, rfl, ?_⟩; have n0_ := Aside0.mk (blk_below (g := gb340) (o := .cells #[.int .u64 t338, .int .u64 t339] 26 (0, 0)) (by (with_reducible repeat (first | refine blk_drewN ?_ _ | refine blk_drew ?_ | refine blk_alloc ?_ _)); refine blk_far ?_ NB340_360.out _; (with_reducible repeat (first | refine blk_drewN ?_ _ | refine blk_drew ?_ | refine blk_alloc ?_ _)); refine blk_far ?_ NB340_360.out _; (with_reducible repeat (first | refine blk_drewN ?_ _ | refine blk_drew ?_ | refine blk_alloc ?_ _)); exact BK340.out) hb); have n1_ := Aside0.mk (blk_below (g := gb344) (o := .cells #[.int .u64 t341, .int .u64 t342] 26 (0, 0)) (by (with_reducible repeat (first | refine blk_drewN ?_ _ | refine blk_drew ?_ | refine blk_alloc ?_ _)); refine blk_far ?_ NB344_360.out _; (with_reducible repeat (first | refine blk_drewN ?_ _ | refine blk_drew ?_ | refine blk_alloc ?_ _)); refine blk_far ?_ NB344_360.out _; (with_reducible repeat (first | refine blk_drewN ?_ _ | refine blk_drew ?_ | refine blk_alloc ?_ _)); exact BK344.out) hb); have n2_ := Aside0.mk (blk_below (g := gb351) (o := .cells #[.int .u64 t347, .int .u64 t348] 26 (0, 0)) (by (with_reducible repeat (first | refine blk_drewN ?_ _ | refine blk_drew ?_ | refine blk_alloc ?_ _)); refine blk_far ?_ NB351_360.out _; (with_reducible repeat (first | refine blk_drewN ?_ _ | refine blk_drew ?_ | refine blk_alloc ?_ _)); refine blk_far ?_ NB351_360.out _; (with_reducible repeat (first | refine blk_drewN ?_ _ | refine blk_drew ?_ | refine blk_alloc ?_ _)); exact BK351.out) hb); have n3_ := Aside0.mk (blk_below (g := gb352) (o := .cells #[.int .u64 t349, .int .u64 t350] 26 (0, 0)) (by (with_reducible repeat (first | refine blk_drewN ?_ _ | refine blk_drew ?_ | refine blk_alloc ?_ _)); refine blk_far ?_ NB352_360.out _; (with_reducible repeat (first | refine blk_drewN ?_ _ | refine blk_drew ?_ | refine blk_alloc ?_ _)); refine blk_far ?_ NB352_360.out _; (with_reducible repeat (first | refine blk_drewN ?_ _ | refine blk_drew ?_ | refine blk_alloc ?_ _)); exact BK352.out) hb); have n4_ := Aside0.mk (blk_below (g := gb356) (o := .cells #[.int .u64 t353, .int .u64 t354] 26 (0, 0)) (by (with_reducible repeat (first | refine blk_drewN ?_ _ | refine blk_drew ?_ | refine blk_alloc ?_ _)); refine blk_far ?_ NB356_360.out _; (with_reducible repeat (first | refine blk_drewN ?_ _ | refine blk_drew ?_ | refine blk_alloc ?_ _)); refine blk_far ?_ NB356_360.out _; (with_reducible repeat (first | refine blk_drewN ?_ _ | refine blk_drew ?_ | refine blk_alloc ?_ _)); exact BK356.out) hb); have n5_ := Aside0.mk (blk_below (g := gb360) (o := .cells #[.int .u64 t357, .int .u64 t358] 26 (0, 0)) (by (with_reducible repeat (first | refine blk_drewN ?_ _ | refine blk_drew ?_ | refine blk_alloc ?_ _)); refine blk_put (cs := #[.int .u64 t357, .int .u64 0]) ?_ 1 _ rfl; (with_reducible repeat (first | refine blk_drewN ?_ _ | refine blk_drew ?_ | refine blk_alloc ?_ _)); refine blk_put (cs := #[.int .u64 0, .int .u64 0]) ?_ 0 _ rfl; (with_reducible repeat (first | refine blk_drewN ?_ _ | refine blk_drew ?_ | refine blk_alloc ?_ _)); exact BK360.out) hb); have n6_ := Aside0.mk (below_step zb hb); clear BK340 BK344 BK351 BK352 BK356 BK360 HB; have BK340 := n0_; have BK344 := n1_; have BK351 := n2_; have BK352 := n3_; have BK356 := n4_; have BK360 := n5_; have HB := n6_; clear n0_ n1_ n2_ n3_ n4_ n5_ n6_; (try clear hb); (try clear hb2); (try clear hk); (try clear hi)) | ((with_reducible refine gate_dst (N := 14) rfl ?_); refine box_event ?hg (N := 14) ?hd (cs := #[.int .u64 0, .int .u64 0]) (t := 26) ?hr ?_; (case hd => rfl); (case hg => rfl); (case hr => first | (go_simp; done) | (go_simp; rfl)); intro gb364 hg w66 hbox hb; have n0_ := za BK340 hb; have n1_ := za BK344 hb; have n2_ := za BK351 hb; have n3_ := za BK352 hb; have n4_ := za BK356 hb; have n5_ := za BK360 hb; have n6_ := Aside0.mk (below_step zb hb); have n7_ := Aside0.mk (hbox); have n8_ := zs w hg; have n9_ := zs w hg; have n10_ := zl BK340 hg; have n11_ := zg BK340 hg; have n12_ := zl BK344 hg; have n13_ := zg BK344 hg; have n14_ := zl BK351 hg; have n15_ := zg BK351 hg; have n16_ := zl BK352 hg; have n17_ := zg BK352 hg; have n18_ := zl BK356 hg; have n19_ := zg BK356 hg; have n20_ := zl BK360 hg; have n21_ := zg BK360 hg; clear BK340 BK344 BK351 BK352 BK356 BK360 HB; have BK340 := n0_; have BK344 := n1_; have BK351 := n2_; have BK352 := n3_; have BK356 := n4_; have BK360 := n5_; have HB := n6_; have BK364 := n7_; have GW364 := n8_; have GE364 := n9_; have NB340_364 := n10_; have NB364_340 := n11_; have NB344_364 := n12_; have NB364_344 := n13_; have NB351_364 := n14_; have NB364_351 := n15_; have NB352_364 := n16_; have NB364_352 := n17_; have NB356_364 := n18_; have NB364_356 := n19_; have NB360_364 := n20_; have NB364_360 := n21_; clear n0_ n1_ n2_ n3_ n4_ n5_ n6_ n7_ n8_ n9_ n10_ n11_ n12_ n13_ n14_ n15_ n16_ n17_ n18_ n19_ n20_ n21_ hb hbox hg; have hnb67 := NB364_340.out; have hnc67 := NB340_364.out; have hnb68 := NB364_344.out; have hnc68 := NB344_364.out; have hnb69 := NB364_351.out; have hnc69 := NB351_364.out; have hnb70 := NB364_352.out; have hnc70 := NB352_364.out; have hnb71 := NB364_356.out; have hnc71 := NB356_364.out; have hnb72 := NB364_360.out; have hnc72 := NB360_364.out; have hcz73_0 : w66.cell? ⟨gb364, 0, none⟩ = some (.int .u64 0) := (blk_cell BK364.out 0).trans rfl; have hcz73_1 : w66.cell? ⟨gb364, 1, none⟩ = some (.int .u64 0) := (blk_cell BK364.out 1).trans rfl; have hfz73_0 := blk_frozen BK364.out 0; have hfz73_1 := blk_frozen BK364.out 1))
          (try simp only [Act.put, List.setIfInBounds_toArray, List.set_cons_zero, List.set_cons_succ])
          go_cut [105] (fun v105 wc => ∃ (kq : Nat) (x105_34 : Bool), v105 = .bool x105_34 ∧ Aside0 (laws_FnWords.j1 kq l0 x105_34 = some r) ∧ Aside0 (kq ≤ kj5) ∧ Aside0 (wc.heap[gb340]? = some (.cells #[.int .u64 t338, .int .u64 t339] 26 (0, 0))) ∧ Aside0 (wc.heap[gb344]? = some (.cells #[.int .u64 t341, .int .u64 t342] 26 (0, 0))) ∧ Aside0 (wc.heap[gb351]? = some (.cells #[.int .u64 t347, .int .u64 t348] 26 (0, 0))) ∧ Aside0 (wc.heap[gb352]? = some (.cells #[.int .u64 t349, .int .u64 t350] 26 (0, 0))) ∧ Aside0 (wc.heap[gb356]? = some (.cells #[.int .u64 t353, .int .u64 t354] 26 (0, 0))) ∧ Aside0 (wc.heap[gb360]? = some (.cells #[.int .u64 t357, .int .u64 t358] 26 (0, 0))) ∧ Aside0 (wc.heap[gb364]? = some (.cells #[.int .u64 t361, .int .u64 t362] 26 (0, 0))) ∧ Aside0 (Below w.heap.size w wc))
          case first => as_aux_lemma =>
            have H := HC35.out
            clear HC35
            by_cases c74 : (!(t353 == t357) || (!(t354 == t358))) = true
            · rw [if_pos c74] at H
              have c74b0 : (!(t353 == t357) || (!(t354 == t358))) = true := c74
              clear c74
              (first | rw [c74b0] | (simp only [i64_w, i32_w]; rw [c74b0]) | skip)
              have H' := Aside0.mk H
              clear H
              have hnb75 := NB356_340.out
              have hnc75 := NB340_356.out
              have hnb76 := NB356_344.out
              have hnc76 := NB344_356.out
              have hnb77 := NB356_351.out
              have hnc77 := NB351_356.out
              have hnb78 := NB356_352.out
              have hnc78 := NB352_356.out
              have hnb79 := NB356_360.out
              have hnc79 := NB360_356.out
              have hnb80 := NB356_364.out
              have hnc80 := NB364_356.out
              have hcz81_0 : w66.cell? ⟨gb356, 0, none⟩ = some (.int .u64 t353) := (blk_cell BK356.out 0).trans rfl
              have hcz81_1 : w66.cell? ⟨gb356, 1, none⟩ = some (.int .u64 t354) := (blk_cell BK356.out 1).trans rfl
              have hfz81_0 := blk_frozen BK356.out 0
              have hfz81_1 := blk_frozen BK356.out 1
              have hnb82 := NB360_340.out
              have hnc82 := NB340_360.out
              have hnb83 := NB360_344.out
              have hnc83 := NB344_360.out
              have hnb84 := NB360_351.out
              have hnc84 := NB351_360.out
              have hnb85 := NB360_352.out
              have hnc85 := NB352_360.out
              have hnb86 := NB360_364.out
              have hnc86 := NB364_360.out
              have hcz87_0 : w66.cell? ⟨gb360, 0, none⟩ = some (.int .u64 t357) := (blk_cell BK360.out 0).trans rfl
              have hcz87_1 : w66.cell? ⟨gb360, 1, none⟩ = some (.int .u64 t358) := (blk_cell BK360.out 1).trans rfl
              have hfz87_0 := blk_frozen BK360.out 0
              have hfz87_1 := blk_frozen BK360.out 1
              go_wp2
              go_meet
              case rel => exact ⟨_, (true), (by first | rfl | (simp; done) | (simp [*]; done)), H', ⟨by have := HJ5.out; first | omega | exact Nat.le_refl _⟩, ⟨by (with_reducible repeat (first | refine blk_drewN ?_ _ | refine blk_drew ?_ | refine blk_alloc ?_ _)); refine blk_far ?_ NB340_364.out _; (with_reducible repeat (first | refine blk_drewN ?_ _ | refine blk_drew ?_ | refine blk_alloc ?_ _)); refine blk_far ?_ NB340_364.out _; (with_reducible repeat (first | refine blk_drewN ?_ _ | refine blk_drew ?_ | refine blk_alloc ?_ _)); exact BK340.out⟩, ⟨by (with_reducible repeat (first | refine blk_drewN ?_ _ | refine blk_drew ?_ | refine blk_alloc ?_ _)); refine blk_far ?_ NB344_364.out _; (with_reducible repeat (first | refine blk_drewN ?_ _ | refine blk_drew ?_ | refine blk_alloc ?_ _)); refine blk_far ?_ NB344_364.out _; (with_reducible repeat (first | refine blk_drewN ?_ _ | refine blk_drew ?_ | refine blk_alloc ?_ _)); exact BK344.out⟩, ⟨by (with_reducible repeat (first | refine blk_drewN ?_ _ | refine blk_drew ?_ | refine blk_alloc ?_ _)); refine blk_far ?_ NB351_364.out _; (with_reducible repeat (first | refine blk_drewN ?_ _ | refine blk_drew ?_ | refine blk_alloc ?_ _)); refine blk_far ?_ NB351_364.out _; (with_reducible repeat (first | refine blk_drewN ?_ _ | refine blk_drew ?_ | refine blk_alloc ?_ _)); exact BK351.out⟩, ⟨by (with_reducible repeat (first | refine blk_drewN ?_ _ | refine blk_drew ?_ | refine blk_alloc ?_ _)); refine blk_far ?_ NB352_364.out _; (with_reducible repeat (first | refine blk_drewN ?_ _ | refine blk_drew ?_ | refine blk_alloc ?_ _)); refine blk_far ?_ NB352_364.out _; (with_reducible repeat (first | refine blk_drewN ?_ _ | refine blk_drew ?_ | refine blk_alloc ?_ _)); exact BK352.out⟩, ⟨by (with_reducible repeat (first | refine blk_drewN ?_ _ | refine blk_drew ?_ | refine blk_alloc ?_ _)); refine blk_far ?_ NB356_364.out _; (with_reducible repeat (first | refine blk_drewN ?_ _ | refine blk_drew ?_ | refine blk_alloc ?_ _)); refine blk_far ?_ NB356_364.out _; (with_reducible repeat (first | refine blk_drewN ?_ _ | refine blk_drew ?_ | refine blk_alloc ?_ _)); exact BK356.out⟩, ⟨by (with_reducible repeat (first | refine blk_drewN ?_ _ | refine blk_drew ?_ | refine blk_alloc ?_ _)); refine blk_far ?_ NB360_364.out _; (with_reducible repeat (first | refine blk_drewN ?_ _ | refine blk_drew ?_ | refine blk_alloc ?_ _)); refine blk_far ?_ NB360_364.out _; (with_reducible repeat (first | refine blk_drewN ?_ _ | refine blk_drew ?_ | refine blk_alloc ?_ _)); exact BK360.out⟩, ⟨by (with_reducible repeat (first | refine blk_drewN ?_ _ | refine blk_drew ?_ | refine blk_alloc ?_ _)); refine blk_put (cs := #[.int .u64 t361, .int .u64 0]) ?_ 1 _ rfl; (with_reducible repeat (first | refine blk_drewN ?_ _ | refine blk_drew ?_ | refine blk_alloc ?_ _)); refine blk_put (cs := #[.int .u64 0, .int .u64 0]) ?_ 0 _ rfl; (with_reducible repeat (first | refine blk_drewN ?_ _ | refine blk_drew ?_ | refine blk_alloc ?_ _)); exact BK364.out⟩, ⟨zb⟩⟩
            · rw [if_neg c74] at H
              have c74b0 : (!(t353 == t357) || (!(t354 == t358))) = false := by simpa using c74
              clear c74
              (first | rw [c74b0] | (simp only [i64_w, i32_w]; rw [c74b0]) | skip)
              by_cases c88 : (t355 != t359) = true
              · rw [if_pos c88] at H
                have c88b0 : (t355 != t359) = true := c88
                (try (have c88b1 : decide (t355 = t359) = false := by simpa using c88))
                (try (have c88b2 : (t355 == t359) = false := by simpa using c88))
                (try (have c88b3 : ¬ (t355 = t359) := by simpa using c88))
                clear c88
                have H' := Aside0.mk H
                clear H
                have hnb89 := NB356_340.out
                have hnc89 := NB340_356.out
                have hnb90 := NB356_344.out
                have hnc90 := NB344_356.out
                have hnb91 := NB356_351.out
                have hnc91 := NB351_356.out
                have hnb92 := NB356_352.out
                have hnc92 := NB352_356.out
                have hnb93 := NB356_360.out
                have hnc93 := NB360_356.out
                have hnb94 := NB356_364.out
                have hnc94 := NB364_356.out
                have hcz95_0 : w66.cell? ⟨gb356, 0, none⟩ = some (.int .u64 t353) := (blk_cell BK356.out 0).trans rfl
                have hcz95_1 : w66.cell? ⟨gb356, 1, none⟩ = some (.int .u64 t354) := (blk_cell BK356.out 1).trans rfl
                have hfz95_0 := blk_frozen BK356.out 0
                have hfz95_1 := blk_frozen BK356.out 1
                have hnb96 := NB360_340.out
                have hnc96 := NB340_360.out
                have hnb97 := NB360_344.out
                have hnc97 := NB344_360.out
                have hnb98 := NB360_351.out
                have hnc98 := NB351_360.out
                have hnb99 := NB360_352.out
                have hnc99 := NB352_360.out
                have hnb100 := NB360_364.out
                have hnc100 := NB364_360.out
                have hcz101_0 : w66.cell? ⟨gb360, 0, none⟩ = some (.int .u64 t357) := (blk_cell BK360.out 0).trans rfl
                have hcz101_1 : w66.cell? ⟨gb360, 1, none⟩ = some (.int .u64 t358) := (blk_cell BK360.out 1).trans rfl
                have hfz101_0 := blk_frozen BK360.out 0
                have hfz101_1 := blk_frozen BK360.out 1
                go_wp2
                go_meet
                case rel => exact ⟨_, (true), (by first | rfl | (simp; done) | (simp [*]; done)), H', ⟨by have := HJ5.out; first | omega | exact Nat.le_refl _⟩, ⟨by (with_reducible repeat (first | refine blk_drewN ?_ _ | refine blk_drew ?_ | refine blk_alloc ?_ _)); refine blk_far ?_ NB340_364.out _; (with_reducible repeat (first | refine blk_drewN ?_ _ | refine blk_drew ?_ | refine blk_alloc ?_ _)); refine blk_far ?_ NB340_364.out _; (with_reducible repeat (first | refine blk_drewN ?_ _ | refine blk_drew ?_ | refine blk_alloc ?_ _)); exact BK340.out⟩, ⟨by (with_reducible repeat (first | refine blk_drewN ?_ _ | refine blk_drew ?_ | refine blk_alloc ?_ _)); refine blk_far ?_ NB344_364.out _; (with_reducible repeat (first | refine blk_drewN ?_ _ | refine blk_drew ?_ | refine blk_alloc ?_ _)); refine blk_far ?_ NB344_364.out _; (with_reducible repeat (first | refine blk_drewN ?_ _ | refine blk_drew ?_ | refine blk_alloc ?_ _)); exact BK344.out⟩, ⟨by (with_reducible repeat (first | refine blk_drewN ?_ _ | refine blk_drew ?_ | refine blk_alloc ?_ _)); refine blk_far ?_ NB351_364.out _; (with_reducible repeat (first | refine blk_drewN ?_ _ | refine blk_drew ?_ | refine blk_alloc ?_ _)); refine blk_far ?_ NB351_364.out _; (with_reducible repeat (first | refine blk_drewN ?_ _ | refine blk_drew ?_ | refine blk_alloc ?_ _)); exact BK351.out⟩, ⟨by (with_reducible repeat (first | refine blk_drewN ?_ _ | refine blk_drew ?_ | refine blk_alloc ?_ _)); refine blk_far ?_ NB352_364.out _; (with_reducible repeat (first | refine blk_drewN ?_ _ | refine blk_drew ?_ | refine blk_alloc ?_ _)); refine blk_far ?_ NB352_364.out _; (with_reducible repeat (first | refine blk_drewN ?_ _ | refine blk_drew ?_ | refine blk_alloc ?_ _)); exact BK352.out⟩, ⟨by (with_reducible repeat (first | refine blk_drewN ?_ _ | refine blk_drew ?_ | refine blk_alloc ?_ _)); refine blk_far ?_ NB356_364.out _; (with_reducible repeat (first | refine blk_drewN ?_ _ | refine blk_drew ?_ | refine blk_alloc ?_ _)); refine blk_far ?_ NB356_364.out _; (with_reducible repeat (first | refine blk_drewN ?_ _ | refine blk_drew ?_ | refine blk_alloc ?_ _)); exact BK356.out⟩, ⟨by (with_reducible repeat (first | refine blk_drewN ?_ _ | refine blk_drew ?_ | refine blk_alloc ?_ _)); refine blk_far ?_ NB360_364.out _; (with_reducible repeat (first | refine blk_drewN ?_ _ | refine blk_drew ?_ | refine blk_alloc ?_ _)); refine blk_far ?_ NB360_364.out _; (with_reducible repeat (first | refine blk_drewN ?_ _ | refine blk_drew ?_ | refine blk_alloc ?_ _)); exact BK360.out⟩, ⟨by (with_reducible repeat (first | refine blk_drewN ?_ _ | refine blk_drew ?_ | refine blk_alloc ?_ _)); refine blk_put (cs := #[.int .u64 t361, .int .u64 0]) ?_ 1 _ rfl; (with_reducible repeat (first | refine blk_drewN ?_ _ | refine blk_drew ?_ | refine blk_alloc ?_ _)); refine blk_put (cs := #[.int .u64 0, .int .u64 0]) ?_ 0 _ rfl; (with_reducible repeat (first | refine blk_drewN ?_ _ | refine blk_drew ?_ | refine blk_alloc ?_ _)); exact BK364.out⟩, ⟨zb⟩⟩
              · rw [if_neg c88] at H
                have c88b0 : (t355 != t359) = false := by simpa using c88
                (try (have c88b1 : decide (t355 = t359) = true := by simpa using c88))
                (try (have c88b2 : (t355 == t359) = true := by simpa using c88))
                clear c88
                by_cases c102 : (!(t361 == t347) || (!(t362 == t348))) = true
                · rw [if_pos c102] at H
                  have c102b0 : (!(t361 == t347) || (!(t362 == t348))) = true := c102
                  clear c102
                  have H' := Aside0.mk H
                  clear H
                  have hnb103 := NB356_340.out
                  have hnc103 := NB340_356.out
                  have hnb104 := NB356_344.out
                  have hnc104 := NB344_356.out
                  have hnb105 := NB356_351.out
                  have hnc105 := NB351_356.out
                  have hnb106 := NB356_352.out
                  have hnc106 := NB352_356.out
                  have hnb107 := NB356_360.out
                  have hnc107 := NB360_356.out
                  have hnb108 := NB356_364.out
                  have hnc108 := NB364_356.out
                  have hcz109_0 : w66.cell? ⟨gb356, 0, none⟩ = some (.int .u64 t353) := (blk_cell BK356.out 0).trans rfl
                  have hcz109_1 : w66.cell? ⟨gb356, 1, none⟩ = some (.int .u64 t354) := (blk_cell BK356.out 1).trans rfl
                  have hfz109_0 := blk_frozen BK356.out 0
                  have hfz109_1 := blk_frozen BK356.out 1
                  have hnb110 := NB360_340.out
                  have hnc110 := NB340_360.out
                  have hnb111 := NB360_344.out
                  have hnc111 := NB344_360.out
                  have hnb112 := NB360_351.out
                  have hnc112 := NB351_360.out
                  have hnb113 := NB360_352.out
                  have hnc113 := NB352_360.out
                  have hnb114 := NB360_364.out
                  have hnc114 := NB364_360.out
                  have hcz115_0 : w66.cell? ⟨gb360, 0, none⟩ = some (.int .u64 t357) := (blk_cell BK360.out 0).trans rfl
                  have hcz115_1 : w66.cell? ⟨gb360, 1, none⟩ = some (.int .u64 t358) := (blk_cell BK360.out 1).trans rfl
                  have hfz115_0 := blk_frozen BK360.out 0
                  have hfz115_1 := blk_frozen BK360.out 1
                  have hnb116 := NB364_340.out
                  have hnc116 := NB340_364.out
                  have hnb117 := NB364_344.out
                  have hnc117 := NB344_364.out
                  have hnb118 := NB364_351.out
                  have hnc118 := NB351_364.out
                  have hnb119 := NB364_352.out
                  have hnc119 := NB352_364.out
                  have hcz120_0 : w66.cell? ⟨gb364, 0, none⟩ = some (.int .u64 0) := (blk_cell BK364.out 0).trans rfl
                  have hcz120_1 : w66.cell? ⟨gb364, 1, none⟩ = some (.int .u64 0) := (blk_cell BK364.out 1).trans rfl
                  have hfz120_0 := blk_frozen BK364.out 0
                  have hfz120_1 := blk_frozen BK364.out 1
                  have hnb121 := NB351_340.out
                  have hnc121 := NB340_351.out
                  have hnb122 := NB351_344.out
                  have hnc122 := NB344_351.out
                  have hnb123 := NB351_352.out
                  have hnc123 := NB352_351.out
                  have hcz124_0 : w66.cell? ⟨gb351, 0, none⟩ = some (.int .u64 t347) := (blk_cell BK351.out 0).trans rfl
                  have hcz124_1 : w66.cell? ⟨gb351, 1, none⟩ = some (.int .u64 t348) := (blk_cell BK351.out 1).trans rfl
                  have hfz124_0 := blk_frozen BK351.out 0
                  have hfz124_1 := blk_frozen BK351.out 1
                  go_wp2
                  go_meet
                  case rel => exact ⟨_, (true), (by first | rfl | (simp; done) | (simp [*]; done)), H', ⟨by have := HJ5.out; first | omega | exact Nat.le_refl _⟩, ⟨by (with_reducible repeat (first | refine blk_drewN ?_ _ | refine blk_drew ?_ | refine blk_alloc ?_ _)); refine blk_far ?_ NB340_364.out _; (with_reducible repeat (first | refine blk_drewN ?_ _ | refine blk_drew ?_ | refine blk_alloc ?_ _)); refine blk_far ?_ NB340_364.out _; (with_reducible repeat (first | refine blk_drewN ?_ _ | refine blk_drew ?_ | refine blk_alloc ?_ _)); exact BK340.out⟩, ⟨by (with_reducible repeat (first | refine blk_drewN ?_ _ | refine blk_drew ?_ | refine blk_alloc ?_ _)); refine blk_far ?_ NB344_364.out _; (with_reducible repeat (first | refine blk_drewN ?_ _ | refine blk_drew ?_ | refine blk_alloc ?_ _)); refine blk_far ?_ NB344_364.out _; (with_reducible repeat (first | refine blk_drewN ?_ _ | refine blk_drew ?_ | refine blk_alloc ?_ _)); exact BK344.out⟩, ⟨by (with_reducible repeat (first | refine blk_drewN ?_ _ | refine blk_drew ?_ | refine blk_alloc ?_ _)); refine blk_far ?_ NB351_364.out _; (with_reducible repeat (first | refine blk_drewN ?_ _ | refine blk_drew ?_ | refine blk_alloc ?_ _)); refine blk_far ?_ NB351_364.out _; (with_reducible repeat (first | refine blk_drewN ?_ _ | refine blk_drew ?_ | refine blk_alloc ?_ _)); exact BK351.out⟩, ⟨by (with_reducible repeat (first | refine blk_drewN ?_ _ | refine blk_drew ?_ | refine blk_alloc ?_ _)); refine blk_far ?_ NB352_364.out _; (with_reducible repeat (first | refine blk_drewN ?_ _ | refine blk_drew ?_ | refine blk_alloc ?_ _)); refine blk_far ?_ NB352_364.out _; (with_reducible repeat (first | refine blk_drewN ?_ _ | refine blk_drew ?_ | refine blk_alloc ?_ _)); exact BK352.out⟩, ⟨by (with_reducible repeat (first | refine blk_drewN ?_ _ | refine blk_drew ?_ | refine blk_alloc ?_ _)); refine blk_far ?_ NB356_364.out _; (with_reducible repeat (first | refine blk_drewN ?_ _ | refine blk_drew ?_ | refine blk_alloc ?_ _)); refine blk_far ?_ NB356_364.out _; (with_reducible repeat (first | refine blk_drewN ?_ _ | refine blk_drew ?_ | refine blk_alloc ?_ _)); exact BK356.out⟩, ⟨by (with_reducible repeat (first | refine blk_drewN ?_ _ | refine blk_drew ?_ | refine blk_alloc ?_ _)); refine blk_far ?_ NB360_364.out _; (with_reducible repeat (first | refine blk_drewN ?_ _ | refine blk_drew ?_ | refine blk_alloc ?_ _)); refine blk_far ?_ NB360_364.out _; (with_reducible repeat (first | refine blk_drewN ?_ _ | refine blk_drew ?_ | refine blk_alloc ?_ _)); exact BK360.out⟩, ⟨by (with_reducible repeat (first | refine blk_drewN ?_ _ | refine blk_drew ?_ | refine blk_alloc ?_ _)); refine blk_put (cs := #[.int .u64 t361, .int .u64 0]) ?_ 1 _ rfl; (with_reducible repeat (first | refine blk_drewN ?_ _ | refine blk_drew ?_ | refine blk_alloc ?_ _)); refine blk_put (cs := #[.int .u64 0, .int .u64 0]) ?_ 0 _ rfl; (with_reducible repeat (first | refine blk_drewN ?_ _ | refine blk_drew ?_ | refine blk_alloc ?_ _)); exact BK364.out⟩, ⟨zb⟩⟩
                · rw [if_neg c102] at H
                  have c102b0 : (!(t361 == t347) || (!(t362 == t348))) = false := by simpa using c102
                  clear c102
                  have H' := Aside0.mk H
                  clear H
                  have hnb125 := NB356_340.out
                  have hnc125 := NB340_356.out
                  have hnb126 := NB356_344.out
                  have hnc126 := NB344_356.out
                  have hnb127 := NB356_351.out
                  have hnc127 := NB351_356.out
                  have hnb128 := NB356_352.out
                  have hnc128 := NB352_356.out
                  have hnb129 := NB356_360.out
                  have hnc129 := NB360_356.out
                  have hnb130 := NB356_364.out
                  have hnc130 := NB364_356.out
                  have hcz131_0 : w66.cell? ⟨gb356, 0, none⟩ = some (.int .u64 t353) := (blk_cell BK356.out 0).trans rfl
                  have hcz131_1 : w66.cell? ⟨gb356, 1, none⟩ = some (.int .u64 t354) := (blk_cell BK356.out 1).trans rfl
                  have hfz131_0 := blk_frozen BK356.out 0
                  have hfz131_1 := blk_frozen BK356.out 1
                  have hnb132 := NB360_340.out
                  have hnc132 := NB340_360.out
                  have hnb133 := NB360_344.out
                  have hnc133 := NB344_360.out
                  have hnb134 := NB360_351.out
                  have hnc134 := NB351_360.out
                  have hnb135 := NB360_352.out
                  have hnc135 := NB352_360.out
                  have hnb136 := NB360_364.out
                  have hnc136 := NB364_360.out
                  have hcz137_0 : w66.cell? ⟨gb360, 0, none⟩ = some (.int .u64 t357) := (blk_cell BK360.out 0).trans rfl
                  have hcz137_1 : w66.cell? ⟨gb360, 1, none⟩ = some (.int .u64 t358) := (blk_cell BK360.out 1).trans rfl
                  have hfz137_0 := blk_frozen BK360.out 0
                  have hfz137_1 := blk_frozen BK360.out 1
                  have hnb138 := NB364_340.out
                  have hnc138 := NB340_364.out
                  have hnb139 := NB364_344.out
                  have hnc139 := NB344_364.out
                  have hnb140 := NB364_351.out
                  have hnc140 := NB351_364.out
                  have hnb141 := NB364_352.out
                  have hnc141 := NB352_364.out
                  have hcz142_0 : w66.cell? ⟨gb364, 0, none⟩ = some (.int .u64 0) := (blk_cell BK364.out 0).trans rfl
                  have hcz142_1 : w66.cell? ⟨gb364, 1, none⟩ = some (.int .u64 0) := (blk_cell BK364.out 1).trans rfl
                  have hfz142_0 := blk_frozen BK364.out 0
                  have hfz142_1 := blk_frozen BK364.out 1
                  have hnb143 := NB351_340.out
                  have hnc143 := NB340_351.out
                  have hnb144 := NB351_344.out
                  have hnc144 := NB344_351.out
                  have hnb145 := NB351_352.out
                  have hnc145 := NB352_351.out
                  have hcz146_0 : w66.cell? ⟨gb351, 0, none⟩ = some (.int .u64 t347) := (blk_cell BK351.out 0).trans rfl
                  have hcz146_1 : w66.cell? ⟨gb351, 1, none⟩ = some (.int .u64 t348) := (blk_cell BK351.out 1).trans rfl
                  have hfz146_0 := blk_frozen BK351.out 0
                  have hfz146_1 := blk_frozen BK351.out 1
                  go_wp2
                  go_meet
                  case rel => exact ⟨_, ((t363 != t355)), (by first | rfl | (simp; done) | (simp [*]; done)), H', ⟨by have := HJ5.out; first | omega | exact Nat.le_refl _⟩, ⟨by (with_reducible repeat (first | refine blk_drewN ?_ _ | refine blk_drew ?_ | refine blk_alloc ?_ _)); refine blk_far ?_ NB340_364.out _; (with_reducible repeat (first | refine blk_drewN ?_ _ | refine blk_drew ?_ | refine blk_alloc ?_ _)); refine blk_far ?_ NB340_364.out _; (with_reducible repeat (first | refine blk_drewN ?_ _ | refine blk_drew ?_ | refine blk_alloc ?_ _)); exact BK340.out⟩, ⟨by (with_reducible repeat (first | refine blk_drewN ?_ _ | refine blk_drew ?_ | refine blk_alloc ?_ _)); refine blk_far ?_ NB344_364.out _; (with_reducible repeat (first | refine blk_drewN ?_ _ | refine blk_drew ?_ | refine blk_alloc ?_ _)); refine blk_far ?_ NB344_364.out _; (with_reducible repeat (first | refine blk_drewN ?_ _ | refine blk_drew ?_ | refine blk_alloc ?_ _)); exact BK344.out⟩, ⟨by (with_reducible repeat (first | refine blk_drewN ?_ _ | refine blk_drew ?_ | refine blk_alloc ?_ _)); refine blk_far ?_ NB351_364.out _; (with_reducible repeat (first | refine blk_drewN ?_ _ | refine blk_drew ?_ | refine blk_alloc ?_ _)); refine blk_far ?_ NB351_364.out _; (with_reducible repeat (first | refine blk_drewN ?_ _ | refine blk_drew ?_ | refine blk_alloc ?_ _)); exact BK351.out⟩, ⟨by (with_reducible repeat (first | refine blk_drewN ?_ _ | refine blk_drew ?_ | refine blk_alloc ?_ _)); refine blk_far ?_ NB352_364.out _; (with_reducible repeat (first | refine blk_drewN ?_ _ | refine blk_drew ?_ | refine blk_alloc ?_ _)); refine blk_far ?_ NB352_364.out _; (with_reducible repeat (first | refine blk_drewN ?_ _ | refine blk_drew ?_ | refine blk_alloc ?_ _)); exact BK352.out⟩, ⟨by (with_reducible repeat (first | refine blk_drewN ?_ _ | refine blk_drew ?_ | refine blk_alloc ?_ _)); refine blk_far ?_ NB356_364.out _; (with_reducible repeat (first | refine blk_drewN ?_ _ | refine blk_drew ?_ | refine blk_alloc ?_ _)); refine blk_far ?_ NB356_364.out _; (with_reducible repeat (first | refine blk_drewN ?_ _ | refine blk_drew ?_ | refine blk_alloc ?_ _)); exact BK356.out⟩, ⟨by (with_reducible repeat (first | refine blk_drewN ?_ _ | refine blk_drew ?_ | refine blk_alloc ?_ _)); refine blk_far ?_ NB360_364.out _; (with_reducible repeat (first | refine blk_drewN ?_ _ | refine blk_drew ?_ | refine blk_alloc ?_ _)); refine blk_far ?_ NB360_364.out _; (with_reducible repeat (first | refine blk_drewN ?_ _ | refine blk_drew ?_ | refine blk_alloc ?_ _)); exact BK360.out⟩, ⟨by (with_reducible repeat (first | refine blk_drewN ?_ _ | refine blk_drew ?_ | refine blk_alloc ?_ _)); refine blk_put (cs := #[.int .u64 t361, .int .u64 0]) ?_ 1 _ rfl; (with_reducible repeat (first | refine blk_drewN ?_ _ | refine blk_drew ?_ | refine blk_alloc ?_ _)); refine blk_put (cs := #[.int .u64 0, .int .u64 0]) ?_ 0 _ rfl; (with_reducible repeat (first | refine blk_drewN ?_ _ | refine blk_drew ?_ | refine blk_alloc ?_ _)); exact BK364.out⟩, ⟨zb⟩⟩
          case rest => as_aux_lemma =>
            clear HC35
            (try clear c1); (try clear c2); (try clear p2); (try clear c3); (try clear c4); (try clear c5); (try clear c6); (try clear c7); (try clear c8); (try clear c9); (try clear c10); (try clear c11); (try clear c12); (try clear c13); (try clear c14); (try clear c15); (try clear c15b0); (try clear c18); (try clear c19); (try clear c19b0); (try clear c20); (try clear c20b0); (try clear c21); (try clear c22); (try clear c30); (try clear c32); (try clear c39); (try clear c40); (try clear c41); (try clear c43); (try clear c44); (try clear c48); (try clear c49); (try clear c50); (try clear c51); (try clear c57); (try clear c58); (try clear c59); (try clear c60); (try clear c61); (try clear c67); (try clear c68); (try clear c69); (try clear c70); (try clear c71); (try clear c72); (try clear c74); (try clear c74b0); (try clear c75); (try clear c76); (try clear c77); (try clear c78); (try clear c79); (try clear c80); (try clear c82); (try clear c83); (try clear c84); (try clear c85); (try clear c86); (try clear c88); (try clear c88b0); (try clear c88b1); (try clear c88b2); (try clear c89); (try clear c90); (try clear c91); (try clear c92); (try clear c93); (try clear c94); (try clear c96); (try clear c97); (try clear c98); (try clear c99); (try clear c100); (try clear c102); (try clear c102b0); (try clear c103); (try clear c104); (try clear c105); (try clear c106); (try clear c107); (try clear c108); (try clear c110); (try clear c111); (try clear c112); (try clear c113); (try clear c114); (try clear c116); (try clear c117); (try clear c118); (try clear c119); (try clear c121); (try clear c122); (try clear c123); (try clear c125); (try clear c126); (try clear c127); (try clear c128); (try clear c129); (try clear c130); (try clear c132); (try clear c133); (try clear c134); (try clear c135); (try clear c136); (try clear c138); (try clear c139); (try clear c140); (try clear c141); (try clear c143); (try clear c144); (try clear c145); (try clear hcz101_0); (try clear hcz101_1); (try clear hcz109_0); (try clear hcz109_1); (try clear hcz115_0); (try clear hcz115_1); (try clear hcz120_0); (try clear hcz120_1); (try clear hcz124_0); (try clear hcz124_1); (try clear hcz131_0); (try clear hcz131_1); (try clear hcz137_0); (try clear hcz137_1); (try clear hcz142_0); (try clear hcz142_1); (try clear hcz146_0); (try clear hcz146_1); (try clear hcz42_0); (try clear hcz42_1); (try clear hcz45_0); (try clear hcz45_1); (try clear hcz52_0); (try clear hcz52_1); (try clear hcz53_0); (try clear hcz53_1); (try clear hcz54_0); (try clear hcz54_1); (try clear hcz62_0); (try clear hcz62_1); (try clear hcz63_0); (try clear hcz63_1); (try clear hcz64_0); (try clear hcz64_1); (try clear hcz73_0); (try clear hcz73_1); (try clear hcz81_0); (try clear hcz81_1); (try clear hcz87_0); (try clear hcz87_1); (try clear hcz95_0); (try clear hcz95_1); (try clear hfz101_0); (try clear hfz101_1); (try clear hfz109_0); (try clear hfz109_1); (try clear hfz115_0); (try clear hfz115_1); (try clear hfz120_0); (try clear hfz120_1); (try clear hfz124_0); (try clear hfz124_1); (try clear hfz131_0); (try clear hfz131_1); (try clear hfz137_0); (try clear hfz137_1); (try clear hfz142_0); (try clear hfz142_1); (try clear hfz146_0); (try clear hfz146_1); (try clear hfz42_0); (try clear hfz42_1); (try clear hfz45_0); (try clear hfz45_1); (try clear hfz52_0); (try clear hfz52_1); (try clear hfz53_0); (try clear hfz53_1); (try clear hfz54_0); (try clear hfz54_1); (try clear hfz62_0); (try clear hfz62_1); (try clear hfz63_0); (try clear hfz63_1); (try clear hfz64_0); (try clear hfz64_1); (try clear hfz73_0); (try clear hfz73_1); (try clear hfz81_0); (try clear hfz81_1); (try clear hfz87_0); (try clear hfz87_1); (try clear hfz95_0); (try clear hfz95_1); (try clear p2)
            obtain ⟨kq, x105_34, rfl, HA, HJ34, BK340, BK344, BK351, BK352, BK356, BK360, BK364, HB⟩ := hcut
            cases kq with
            | zero => exact absurd HA.out (by simp [laws_FnWords.j1])
            | succ kj34 =>
              have H := HA.out
              clear HA
              simp only [laws_FnWords.j1] at H
              by_cases c147 : x105_34 = true
              · subst c147
                have H1 : (none) = some r := by rw [if_pos rfl] at H; exact H
                clear H
                have H := H1
                clear H1
                exact absurd H (by simp)
              · replace c147 := Bool.eq_false_iff.mpr c147
                subst c147
                have H1 : ((spec_DrawDivWide.f kj34 l0).bind fun bt365 => ((impl_DivWide.f kj34 bt365.1 bt365.2.1 bt365.2.2).bind fun bt369 => (if bt365.2.2 > 0 then (laws_FnWords.j2 kj34 l0 bt369.2.2 bt365.2.2 (decide (bt369.2.2 ≥ bt365.2.2)) bt369.1 bt369.2.1 bt365.1 bt365.2.1) else (laws_FnWords.j2 kj34 l0 bt369.2.2 bt365.2.2 false bt369.1 bt369.2.1 bt365.1 bt365.2.1)))) = some r := by rw [if_neg (show ¬ (false = true) by decide)] at H; exact H
                clear H
                have H := H1
                clear H1
                replace H := Option.bind_eq_some_iff.mp H
                obtain ⟨⟨t365, t366, t367⟩, A1480, H⟩ := H
                replace H : ((impl_DivWide.f kj34 t365 t366 t367).bind fun bt369 => (if t367 > 0 then (laws_FnWords.j2 kj34 l0 bt369.2.2 t367 (decide (bt369.2.2 ≥ t367)) bt369.1 bt369.2.1 t365 t366) else (laws_FnWords.j2 kj34 l0 bt369.2.2 t367 false bt369.1 bt369.2.1 t365 t366))) = some r := H
                have A148 := Aside0.mk A1480
                clear A1480
                replace H := Option.bind_eq_some_iff.mp H
                obtain ⟨⟨t369, t370, t371⟩, A1490, H⟩ := H
                replace H : (if t367 > 0 then (laws_FnWords.j2 kj34 l0 t371 t367 (decide (t371 ≥ t367)) t369 t370 t365 t366) else (laws_FnWords.j2 kj34 l0 t371 t367 false t369 t370 t365 t366)) = some r := H
                have A149 := Aside0.mk A1490
                clear A1490
                have HC150 := Aside0.mk H
                clear H
                go_upto_region 16 with (first | ((with_reducible refine gate_callee (f := 33) rfl ?_); refine goesL_ (some 108) rfl rfl Try.func33 (by kernel_rfl) rfl #[.slice A0 l0.length c0] rfl (by (try simp only [List.map_toArray, List.map_cons, List.map_nil]); first | done | rfl | (simp only [List.length_drop, List.length_take]; rfl)) ?_; (with_reducible refine (spec_DrawDivWide.calls kj34 _ _ l0 t365 t366 t367 _ ?side1 ?side2 A148.out).mono ?_); (case side1 => repeat (first | exact (Kd.C_below HR0.out HB.out) | (with_reducible refine Kd.C_alloc ?_ _) | (with_reducible refine Kd.C_drewN ?_ _) | (with_reducible refine Kd.C_drew ?_))); (case side2 => exact HC0.out); rintro e w151 ⟨rfl, hb⟩; refine ⟨_, rfl, ?_⟩; have n0_ := za BK340 hb; have n1_ := za BK344 hb; have n2_ := za BK351 hb; have n3_ := za BK352 hb; have n4_ := za BK356 hb; have n5_ := za BK360 hb; have n6_ := za BK364 hb; have n7_ := Aside0.mk (below_step zb hb); clear BK340 BK344 BK351 BK352 BK356 BK360 BK364 HB; have BK340 := n0_; have BK344 := n1_; have BK351 := n2_; have BK352 := n3_; have BK356 := n4_; have BK360 := n5_; have BK364 := n6_; have HB := n7_; clear n0_ n1_ n2_ n3_ n4_ n5_ n6_ n7_; (try clear hb); (try clear hb2); (try clear hk); (try clear hi)) | ((with_reducible refine gate_dst (N := 16) rfl ?_); refine box_event ?hg (N := 16) ?hd (cs := #[.int .u64 0, .int .u64 0]) (t := 26) ?hr ?_; (case hd => rfl); (case hg => rfl); (case hr => first | (go_simp; done) | (go_simp; rfl)); intro gb368 hg w152 hbox hb; have n0_ := za BK340 hb; have n1_ := za BK344 hb; have n2_ := za BK351 hb; have n3_ := za BK352 hb; have n4_ := za BK356 hb; have n5_ := za BK360 hb; have n6_ := za BK364 hb; have n7_ := Aside0.mk (below_step zb hb); have n8_ := Aside0.mk (hbox); have n9_ := zs w hg; have n10_ := zs w hg; have n11_ := zl BK340 hg; have n12_ := zg BK340 hg; have n13_ := zl BK344 hg; have n14_ := zg BK344 hg; have n15_ := zl BK351 hg; have n16_ := zg BK351 hg; have n17_ := zl BK352 hg; have n18_ := zg BK352 hg; have n19_ := zl BK356 hg; have n20_ := zg BK356 hg; have n21_ := zl BK360 hg; have n22_ := zg BK360 hg; have n23_ := zl BK364 hg; have n24_ := zg BK364 hg; clear BK340 BK344 BK351 BK352 BK356 BK360 BK364 HB; have BK340 := n0_; have BK344 := n1_; have BK351 := n2_; have BK352 := n3_; have BK356 := n4_; have BK360 := n5_; have BK364 := n6_; have HB := n7_; have BK368 := n8_; have GW368 := n9_; have GE368 := n10_; have NB340_368 := n11_; have NB368_340 := n12_; have NB344_368 := n13_; have NB368_344 := n14_; have NB351_368 := n15_; have NB368_351 := n16_; have NB352_368 := n17_; have NB368_352 := n18_; have NB356_368 := n19_; have NB368_356 := n20_; have NB360_368 := n21_; have NB368_360 := n22_; have NB364_368 := n23_; have NB368_364 := n24_; clear n0_ n1_ n2_ n3_ n4_ n5_ n6_ n7_ n8_ n9_ n10_ n11_ n12_ n13_ n14_ n15_ n16_ n17_ n18_ n19_ n20_ n21_ n22_ n23_ n24_ hb hbox hg; have hnb153 := NB368_340.out; have hnc153 := NB340_368.out; have hnb154 := NB368_344.out; have hnc154 := NB344_368.out; have hnb155 := NB368_351.out; have hnc155 := NB351_368.out; have hnb156 := NB368_352.out; have hnc156 := NB352_368.out; have hnb157 := NB368_356.out; have hnc157 := NB356_368.out; have hnb158 := NB368_360.out; have hnc158 := NB360_368.out; have hnb159 := NB368_364.out; have hnc159 := NB364_368.out; have hcz160_0 : w152.cell? ⟨gb368, 0, none⟩ = some (.int .u64 0) := (blk_cell BK368.out 0).trans rfl; have hcz160_1 : w152.cell? ⟨gb368, 1, none⟩ = some (.int .u64 0) := (blk_cell BK368.out 1).trans rfl; have hfz160_0 := blk_frozen BK368.out 0; have hfz160_1 := blk_frozen BK368.out 1) | ((with_reducible refine gate_callee (f := 30) rfl ?_); refine goesL_ (some 114) rfl rfl Try.func30 (by kernel_rfl) rfl #[.agg #[.int .u64 t365, .int .u64 t366], .int .u64 t367] rfl (by (try simp only [List.map_toArray, List.map_cons, List.map_nil]); first | done | rfl | (simp only [List.length_drop, List.length_take]; rfl)) ?_; (with_reducible refine (impl_DivWide.calls kj34 t365 t366 t367 t369 t370 t371 _ A149.out).mono ?_); rintro e w161 ⟨rfl, hb⟩; refine ⟨_, rfl, ?_⟩; have n0_ := Aside0.mk (blk_below (g := gb340) (o := .cells #[.int .u64 t338, .int .u64 t339] 26 (0, 0)) (by (with_reducible repeat (first | refine blk_drewN ?_ _ | refine blk_drew ?_ | refine blk_alloc ?_ _)); refine blk_far ?_ NB340_368.out _; (with_reducible repeat (first | refine blk_drewN ?_ _ | refine blk_drew ?_ | refine blk_alloc ?_ _)); refine blk_far ?_ NB340_368.out _; (with_reducible repeat (first | refine blk_drewN ?_ _ | refine blk_drew ?_ | refine blk_alloc ?_ _)); exact BK340.out) hb); have n1_ := Aside0.mk (blk_below (g := gb344) (o := .cells #[.int .u64 t341, .int .u64 t342] 26 (0, 0)) (by (with_reducible repeat (first | refine blk_drewN ?_ _ | refine blk_drew ?_ | refine blk_alloc ?_ _)); refine blk_far ?_ NB344_368.out _; (with_reducible repeat (first | refine blk_drewN ?_ _ | refine blk_drew ?_ | refine blk_alloc ?_ _)); refine blk_far ?_ NB344_368.out _; (with_reducible repeat (first | refine blk_drewN ?_ _ | refine blk_drew ?_ | refine blk_alloc ?_ _)); exact BK344.out) hb); have n2_ := Aside0.mk (blk_below (g := gb351) (o := .cells #[.int .u64 t347, .int .u64 t348] 26 (0, 0)) (by (with_reducible repeat (first | refine blk_drewN ?_ _ | refine blk_drew ?_ | refine blk_alloc ?_ _)); refine blk_far ?_ NB351_368.out _; (with_reducible repeat (first | refine blk_drewN ?_ _ | refine blk_drew ?_ | refine blk_alloc ?_ _)); refine blk_far ?_ NB351_368.out _; (with_reducible repeat (first | refine blk_drewN ?_ _ | refine blk_drew ?_ | refine blk_alloc ?_ _)); exact BK351.out) hb); have n3_ := Aside0.mk (blk_below (g := gb352) (o := .cells #[.int .u64 t349, .int .u64 t350] 26 (0, 0)) (by (with_reducible repeat (first | refine blk_drewN ?_ _ | refine blk_drew ?_ | refine blk_alloc ?_ _)); refine blk_far ?_ NB352_368.out _; (with_reducible repeat (first | refine blk_drewN ?_ _ | refine blk_drew ?_ | refine blk_alloc ?_ _)); refine blk_far ?_ NB352_368.out _; (with_reducible repeat (first | refine blk_drewN ?_ _ | refine blk_drew ?_ | refine blk_alloc ?_ _)); exact BK352.out) hb); have n4_ := Aside0.mk (blk_below (g := gb356) (o := .cells #[.int .u64 t353, .int .u64 t354] 26 (0, 0)) (by (with_reducible repeat (first | refine blk_drewN ?_ _ | refine blk_drew ?_ | refine blk_alloc ?_ _)); refine blk_far ?_ NB356_368.out _; (with_reducible repeat (first | refine blk_drewN ?_ _ | refine blk_drew ?_ | refine blk_alloc ?_ _)); refine blk_far ?_ NB356_368.out _; (with_reducible repeat (first | refine blk_drewN ?_ _ | refine blk_drew ?_ | refine blk_alloc ?_ _)); exact BK356.out) hb); have n5_ := Aside0.mk (blk_below (g := gb360) (o := .cells #[.int .u64 t357, .int .u64 t358] 26 (0, 0)) (by (with_reducible repeat (first | refine blk_drewN ?_ _ | refine blk_drew ?_ | refine blk_alloc ?_ _)); refine blk_far ?_ NB360_368.out _; (with_reducible repeat (first | refine blk_drewN ?_ _ | refine blk_drew ?_ | refine blk_alloc ?_ _)); refine blk_far ?_ NB360_368.out _; (with_reducible repeat (first | refine blk_drewN ?_ _ | refine blk_drew ?_ | refine blk_alloc ?_ _)); exact BK360.out) hb); have n6_ := Aside0.mk (blk_below (g := gb364) (o := .cells #[.int .u64 t361, .int .u64 t362] 26 (0, 0)) (by (with_reducible repeat (first | refine blk_drewN ?_ _ | refine blk_drew ?_ | refine blk_alloc ?_ _)); refine blk_far ?_ NB364_368.out _; (with_reducible repeat (first | refine blk_drewN ?_ _ | refine blk_drew ?_ | refine blk_alloc ?_ _)); refine blk_far ?_ NB364_368.out _; (with_reducible repeat (first | refine blk_drewN ?_ _ | refine blk_drew ?_ | refine blk_alloc ?_ _)); exact BK364.out) hb); have n7_ := Aside0.mk (blk_below (g := gb368) (o := .cells #[.int .u64 t365, .int .u64 t366] 26 (0, 0)) (by (with_reducible repeat (first | refine blk_drewN ?_ _ | refine blk_drew ?_ | refine blk_alloc ?_ _)); refine blk_put (cs := #[.int .u64 t365, .int .u64 0]) ?_ 1 _ rfl; (with_reducible repeat (first | refine blk_drewN ?_ _ | refine blk_drew ?_ | refine blk_alloc ?_ _)); refine blk_put (cs := #[.int .u64 0, .int .u64 0]) ?_ 0 _ rfl; (with_reducible repeat (first | refine blk_drewN ?_ _ | refine blk_drew ?_ | refine blk_alloc ?_ _)); exact BK368.out) hb); have n8_ := Aside0.mk (below_step zb hb); clear BK340 BK344 BK351 BK352 BK356 BK360 BK364 BK368 HB; have BK340 := n0_; have BK344 := n1_; have BK351 := n2_; have BK352 := n3_; have BK356 := n4_; have BK360 := n5_; have BK364 := n6_; have BK368 := n7_; have HB := n8_; clear n0_ n1_ n2_ n3_ n4_ n5_ n6_ n7_ n8_; (try clear hb); (try clear hb2); (try clear hk); (try clear hi); have hnb162 := NB344_340.out; have hnc162 := NB340_344.out; have hnb163 := NB344_351.out; have hnc163 := NB351_344.out; have hnb164 := NB344_352.out; have hnc164 := NB352_344.out; have hnb165 := NB344_356.out; have hnc165 := NB356_344.out; have hnb166 := NB344_360.out; have hnc166 := NB360_344.out; have hnb167 := NB344_364.out; have hnc167 := NB364_344.out; have hcz168_0 : w161.cell? ⟨gb344, 0, none⟩ = some (.int .u64 t341) := (blk_cell BK344.out 0).trans rfl; have hcz168_1 : w161.cell? ⟨gb344, 1, none⟩ = some (.int .u64 t342) := (blk_cell BK344.out 1).trans rfl; have hfz168_0 := blk_frozen BK344.out 0; have hfz168_1 := blk_frozen BK344.out 1))
                (try simp only [Act.put, List.setIfInBounds_toArray, List.set_cons_zero, List.set_cons_succ])
                go_cut [123] (fun v123 wc => ∃ (kq : Nat) (x123_149 : Bool), v123 = .bool x123_149 ∧ Aside0 (laws_FnWords.j2 kq l0 t371 t367 x123_149 t369 t370 t365 t366 = some r) ∧ Aside0 (kq ≤ kj34) ∧ Aside0 (wc.heap[gb340]? = some (.cells #[.int .u64 t338, .int .u64 t339] 26 (0, 0))) ∧ Aside0 (wc.heap[gb344]? = some (.cells #[.int .u64 t369, .int .u64 t370] 26 (0, 0))) ∧ Aside0 (wc.heap[gb351]? = some (.cells #[.int .u64 t347, .int .u64 t348] 26 (0, 0))) ∧ Aside0 (wc.heap[gb352]? = some (.cells #[.int .u64 t349, .int .u64 t350] 26 (0, 0))) ∧ Aside0 (wc.heap[gb356]? = some (.cells #[.int .u64 t353, .int .u64 t354] 26 (0, 0))) ∧ Aside0 (wc.heap[gb360]? = some (.cells #[.int .u64 t357, .int .u64 t358] 26 (0, 0))) ∧ Aside0 (wc.heap[gb364]? = some (.cells #[.int .u64 t361, .int .u64 t362] 26 (0, 0))) ∧ Aside0 (wc.heap[gb368]? = some (.cells #[.int .u64 t365, .int .u64 t366] 26 (0, 0))) ∧ Aside0 (Below w.heap.size w wc))
                case first => as_aux_lemma =>
                  have H := HC150.out
                  clear HC150
                  by_cases c169 : t367 > 0
                  · rw [if_pos c169] at H
                    have c169b0 : decide (0 < t367) = true := decide_eq_true c169
                    clear c169
                    (first | rw [c169b0] | (simp only [i64_w, i32_w]; rw [c169b0]) | skip)
                    have H' := Aside0.mk H
                    clear H
                    go_wp2
                    go_meet
                    case rel => exact ⟨_, (decide (t371 ≥ t367)), (by first | rfl | (simp; done) | (simp [*]; done)), H', ⟨by have := HJ5.out; have := HJ34.out; first | omega | exact Nat.le_refl _⟩, ⟨by (with_reducible repeat (first | refine blk_drewN ?_ _ | refine blk_drew ?_ | refine blk_alloc ?_ _)); refine blk_far ?_ NB340_344.out _; (with_reducible repeat (first | refine blk_drewN ?_ _ | refine blk_drew ?_ | refine blk_alloc ?_ _)); refine blk_far ?_ NB340_344.out _; (with_reducible repeat (first | refine blk_drewN ?_ _ | refine blk_drew ?_ | refine blk_alloc ?_ _)); exact BK340.out⟩, ⟨by (with_reducible repeat (first | refine blk_drewN ?_ _ | refine blk_drew ?_ | refine blk_alloc ?_ _)); refine blk_put (cs := #[.int .u64 t369, .int .u64 t342]) ?_ 1 _ rfl; (with_reducible repeat (first | refine blk_drewN ?_ _ | refine blk_drew ?_ | refine blk_alloc ?_ _)); refine blk_put (cs := #[.int .u64 t341, .int .u64 t342]) ?_ 0 _ rfl; (with_reducible repeat (first | refine blk_drewN ?_ _ | refine blk_drew ?_ | refine blk_alloc ?_ _)); exact BK344.out⟩, ⟨by (with_reducible repeat (first | refine blk_drewN ?_ _ | refine blk_drew ?_ | refine blk_alloc ?_ _)); refine blk_far ?_ NB351_344.out _; (with_reducible repeat (first | refine blk_drewN ?_ _ | refine blk_drew ?_ | refine blk_alloc ?_ _)); refine blk_far ?_ NB351_344.out _; (with_reducible repeat (first | refine blk_drewN ?_ _ | refine blk_drew ?_ | refine blk_alloc ?_ _)); exact BK351.out⟩, ⟨by (with_reducible repeat (first | refine blk_drewN ?_ _ | refine blk_drew ?_ | refine blk_alloc ?_ _)); refine blk_far ?_ NB352_344.out _; (with_reducible repeat (first | refine blk_drewN ?_ _ | refine blk_drew ?_ | refine blk_alloc ?_ _)); refine blk_far ?_ NB352_344.out _; (with_reducible repeat (first | refine blk_drewN ?_ _ | refine blk_drew ?_ | refine blk_alloc ?_ _)); exact BK352.out⟩, ⟨by (with_reducible repeat (first | refine blk_drewN ?_ _ | refine blk_drew ?_ | refine blk_alloc ?_ _)); refine blk_far ?_ NB356_344.out _; (with_reducible repeat (first | refine blk_drewN ?_ _ | refine blk_drew ?_ | refine blk_alloc ?_ _)); refine blk_far ?_ NB356_344.out _; (with_reducible repeat (first | refine blk_drewN ?_ _ | refine blk_drew ?_ | refine blk_alloc ?_ _)); exact BK356.out⟩, ⟨by (with_reducible repeat (first | refine blk_drewN ?_ _ | refine blk_drew ?_ | refine blk_alloc ?_ _)); refine blk_far ?_ NB360_344.out _; (with_reducible repeat (first | refine blk_drewN ?_ _ | refine blk_drew ?_ | refine blk_alloc ?_ _)); refine blk_far ?_ NB360_344.out _; (with_reducible repeat (first | refine blk_drewN ?_ _ | refine blk_drew ?_ | refine blk_alloc ?_ _)); exact BK360.out⟩, ⟨by (with_reducible repeat (first | refine blk_drewN ?_ _ | refine blk_drew ?_ | refine blk_alloc ?_ _)); refine blk_far ?_ NB364_344.out _; (with_reducible repeat (first | refine blk_drewN ?_ _ | refine blk_drew ?_ | refine blk_alloc ?_ _)); refine blk_far ?_ NB364_344.out _; (with_reducible repeat (first | refine blk_drewN ?_ _ | refine blk_drew ?_ | refine blk_alloc ?_ _)); exact BK364.out⟩, ⟨by (with_reducible repeat (first | refine blk_drewN ?_ _ | refine blk_drew ?_ | refine blk_alloc ?_ _)); refine blk_far ?_ NB368_344.out _; (with_reducible repeat (first | refine blk_drewN ?_ _ | refine blk_drew ?_ | refine blk_alloc ?_ _)); refine blk_far ?_ NB368_344.out _; (with_reducible repeat (first | refine blk_drewN ?_ _ | refine blk_drew ?_ | refine blk_alloc ?_ _)); exact BK368.out⟩, ⟨zb⟩⟩
                  · rw [if_neg c169] at H
                    have c169b0 : decide (0 < t367) = false := decide_eq_false c169
                    clear c169
                    (first | rw [c169b0] | (simp only [i64_w, i32_w]; rw [c169b0]) | skip)
                    have H' := Aside0.mk H
                    clear H
                    go_wp2
                    go_meet
                    case rel => exact ⟨_, (false), (by first | rfl | (simp; done) | (simp [*]; done)), H', ⟨by have := HJ5.out; have := HJ34.out; first | omega | exact Nat.le_refl _⟩, ⟨by (with_reducible repeat (first | refine blk_drewN ?_ _ | refine blk_drew ?_ | refine blk_alloc ?_ _)); refine blk_far ?_ NB340_344.out _; (with_reducible repeat (first | refine blk_drewN ?_ _ | refine blk_drew ?_ | refine blk_alloc ?_ _)); refine blk_far ?_ NB340_344.out _; (with_reducible repeat (first | refine blk_drewN ?_ _ | refine blk_drew ?_ | refine blk_alloc ?_ _)); exact BK340.out⟩, ⟨by (with_reducible repeat (first | refine blk_drewN ?_ _ | refine blk_drew ?_ | refine blk_alloc ?_ _)); refine blk_put (cs := #[.int .u64 t369, .int .u64 t342]) ?_ 1 _ rfl; (with_reducible repeat (first | refine blk_drewN ?_ _ | refine blk_drew ?_ | refine blk_alloc ?_ _)); refine blk_put (cs := #[.int .u64 t341, .int .u64 t342]) ?_ 0 _ rfl; (with_reducible repeat (first | refine blk_drewN ?_ _ | refine blk_drew ?_ | refine blk_alloc ?_ _)); exact BK344.out⟩, ⟨by (with_reducible repeat (first | refine blk_drewN ?_ _ | refine blk_drew ?_ | refine blk_alloc ?_ _)); refine blk_far ?_ NB351_344.out _; (with_reducible repeat (first | refine blk_drewN ?_ _ | refine blk_drew ?_ | refine blk_alloc ?_ _)); refine blk_far ?_ NB351_344.out _; (with_reducible repeat (first | refine blk_drewN ?_ _ | refine blk_drew ?_ | refine blk_alloc ?_ _)); exact BK351.out⟩, ⟨by (with_reducible repeat (first | refine blk_drewN ?_ _ | refine blk_drew ?_ | refine blk_alloc ?_ _)); refine blk_far ?_ NB352_344.out _; (with_reducible repeat (first | refine blk_drewN ?_ _ | refine blk_drew ?_ | refine blk_alloc ?_ _)); refine blk_far ?_ NB352_344.out _; (with_reducible repeat (first | refine blk_drewN ?_ _ | refine blk_drew ?_ | refine blk_alloc ?_ _)); exact BK352.out⟩, ⟨by (with_reducible repeat (first | refine blk_drewN ?_ _ | refine blk_drew ?_ | refine blk_alloc ?_ _)); refine blk_far ?_ NB356_344.out _; (with_reducible repeat (first | refine blk_drewN ?_ _ | refine blk_drew ?_ | refine blk_alloc ?_ _)); refine blk_far ?_ NB356_344.out _; (with_reducible repeat (first | refine blk_drewN ?_ _ | refine blk_drew ?_ | refine blk_alloc ?_ _)); exact BK356.out⟩, ⟨by (with_reducible repeat (first | refine blk_drewN ?_ _ | refine blk_drew ?_ | refine blk_alloc ?_ _)); refine blk_far ?_ NB360_344.out _; (with_reducible repeat (first | refine blk_drewN ?_ _ | refine blk_drew ?_ | refine blk_alloc ?_ _)); refine blk_far ?_ NB360_344.out _; (with_reducible repeat (first | refine blk_drewN ?_ _ | refine blk_drew ?_ | refine blk_alloc ?_ _)); exact BK360.out⟩, ⟨by (with_reducible repeat (first | refine blk_drewN ?_ _ | refine blk_drew ?_ | refine blk_alloc ?_ _)); refine blk_far ?_ NB364_344.out _; (with_reducible repeat (first | refine blk_drewN ?_ _ | refine blk_drew ?_ | refine blk_alloc ?_ _)); refine blk_far ?_ NB364_344.out _; (with_reducible repeat (first | refine blk_drewN ?_ _ | refine blk_drew ?_ | refine blk_alloc ?_ _)); exact BK364.out⟩, ⟨by (with_reducible repeat (first | refine blk_drewN ?_ _ | refine blk_drew ?_ | refine blk_alloc ?_ _)); refine blk_far ?_ NB368_344.out _; (with_reducible repeat (first | refine blk_drewN ?_ _ | refine blk_drew ?_ | refine blk_alloc ?_ _)); refine blk_far ?_ NB368_344.out _; (with_reducible repeat (first | refine blk_drewN ?_ _ | refine blk_drew ?_ | refine blk_alloc ?_ _)); exact BK368.out⟩, ⟨zb⟩⟩
                case rest => as_aux_lemma =>
                  clear HC150
                  (try clear c1); (try clear c2); (try clear p2); (try clear c3); (try clear c4); (try clear c5); (try clear c6); (try clear c7); (try clear c8); (try clear c9); (try clear c10); (try clear c11); (try clear c12); (try clear c13); (try clear c14); (try clear c15); (try clear c15b0); (try clear c16); (try clear c18); (try clear c19); (try clear c19b0); (try clear c20); (try clear c20b0); (try clear c21); (try clear c22); (try clear c30); (try clear c32); (try clear c33); (try clear c39); (try clear c40); (try clear c41); (try clear c43); (try clear c44); (try clear c48); (try clear c49); (try clear c50); (try clear c51); (try clear c57); (try clear c58); (try clear c59); (try clear c60); (try clear c61); (try clear c67); (try clear c68); (try clear c69); (try clear c70); (try clear c71); (try clear c72); (try clear c74); (try clear c74b0); (try clear c75); (try clear c76); (try clear c77); (try clear c78); (try clear c79); (try clear c80); (try clear c82); (try clear c83); (try clear c84); (try clear c85); (try clear c86); (try clear c88); (try clear c88b0); (try clear c88b1); (try clear c88b2); (try clear c89); (try clear c90); (try clear c91); (try clear c92); (try clear c93); (try clear c94); (try clear c96); (try clear c97); (try clear c98); (try clear c99); (try clear c100); (try clear c102); (try clear c102b0); (try clear c103); (try clear c104); (try clear c105); (try clear c106); (try clear c107); (try clear c108); (try clear c110); (try clear c111); (try clear c112); (try clear c113); (try clear c114); (try clear c116); (try clear c117); (try clear c118); (try clear c119); (try clear c121); (try clear c122); (try clear c123); (try clear c125); (try clear c126); (try clear c127); (try clear c128); (try clear c129); (try clear c130); (try clear c132); (try clear c133); (try clear c134); (try clear c135); (try clear c136); (try clear c138); (try clear c139); (try clear c140); (try clear c141); (try clear c143); (try clear c144); (try clear c145); (try clear c147); (try clear c153); (try clear c154); (try clear c155); (try clear c156); (try clear c157); (try clear c158); (try clear c159); (try clear c162); (try clear c163); (try clear c164); (try clear c165); (try clear c166); (try clear c167); (try clear c169); (try clear c169b0); (try clear hcz101_0); (try clear hcz101_1); (try clear hcz109_0); (try clear hcz109_1); (try clear hcz115_0); (try clear hcz115_1); (try clear hcz120_0); (try clear hcz120_1); (try clear hcz124_0); (try clear hcz124_1); (try clear hcz131_0); (try clear hcz131_1); (try clear hcz137_0); (try clear hcz137_1); (try clear hcz142_0); (try clear hcz142_1); (try clear hcz146_0); (try clear hcz146_1); (try clear hcz160_0); (try clear hcz160_1); (try clear hcz168_0); (try clear hcz168_1); (try clear hcz42_0); (try clear hcz42_1); (try clear hcz45_0); (try clear hcz45_1); (try clear hcz52_0); (try clear hcz52_1); (try clear hcz53_0); (try clear hcz53_1); (try clear hcz54_0); (try clear hcz54_1); (try clear hcz62_0); (try clear hcz62_1); (try clear hcz63_0); (try clear hcz63_1); (try clear hcz64_0); (try clear hcz64_1); (try clear hcz73_0); (try clear hcz73_1); (try clear hcz81_0); (try clear hcz81_1); (try clear hcz87_0); (try clear hcz87_1); (try clear hcz95_0); (try clear hcz95_1); (try clear hfz101_0); (try clear hfz101_1); (try clear hfz109_0); (try clear hfz109_1); (try clear hfz115_0); (try clear hfz115_1); (try clear hfz120_0); (try clear hfz120_1); (try clear hfz124_0); (try clear hfz124_1); (try clear hfz131_0); (try clear hfz131_1); (try clear hfz137_0); (try clear hfz137_1); (try clear hfz142_0); (try clear hfz142_1); (try clear hfz146_0); (try clear hfz146_1); (try clear hfz160_0); (try clear hfz160_1); (try clear hfz168_0); (try clear hfz168_1); (try clear hfz42_0); (try clear hfz42_1); (try clear hfz45_0); (try clear hfz45_1); (try clear hfz52_0); (try clear hfz52_1); (try clear hfz53_0); (try clear hfz53_1); (try clear hfz54_0); (try clear hfz54_1); (try clear hfz62_0); (try clear hfz62_1); (try clear hfz63_0); (try clear hfz63_1); (try clear hfz64_0); (try clear hfz64_1); (try clear hfz73_0); (try clear hfz73_1); (try clear hfz81_0); (try clear hfz81_1); (try clear hfz87_0); (try clear hfz87_1); (try clear hfz95_0); (try clear hfz95_1); (try clear p2)
                  obtain ⟨kq, x123_149, rfl, HA, HJ149, BK340, BK344, BK351, BK352, BK356, BK360, BK364, BK368, HB⟩ := hcut
                  cases kq with
                  | zero => exact absurd HA.out (by simp [laws_FnWords.j2])
                  | succ kj149 =>
                    have H := HA.out
                    clear HA
                    simp only [laws_FnWords.j2] at H
                    by_cases c170 : x123_149 = true
                    · subst c170
                      have H1 : (none) = some r := by rw [if_pos rfl] at H; exact H
                      clear H
                      have H := H1
                      clear H1
                      exact absurd H (by simp)
                    · replace c170 := Bool.eq_false_iff.mpr c170
                      subst c170
                      have H1 : (if t367 > 0 then (laws_FnWords.j3 kj149 l0 t371 t367 (t369 == 0) t369 t370 t365 t366) else (laws_FnWords.j3 kj149 l0 t371 t367 false t369 t370 t365 t366)) = some r := by rw [if_neg (show ¬ (false = true) by decide)] at H; exact H
                      clear H
                      have H := H1
                      clear H1
                      have HC171 := Aside0.mk H
                      clear H
                      go_upto_region 18 with (fail)
                      go_cut [130] (fun v130 wc => ∃ (kq : Nat) (x130_170 : Bool), v130 = .bool x130_170 ∧ Aside0 (laws_FnWords.j3 kq l0 t371 t367 x130_170 t369 t370 t365 t366 = some r) ∧ Aside0 (kq ≤ kj149) ∧ Aside0 (wc.heap[gb340]? = some (.cells #[.int .u64 t338, .int .u64 t339] 26 (0, 0))) ∧ Aside0 (wc.heap[gb344]? = some (.cells #[.int .u64 t369, .int .u64 t370] 26 (0, 0))) ∧ Aside0 (wc.heap[gb351]? = some (.cells #[.int .u64 t347, .int .u64 t348] 26 (0, 0))) ∧ Aside0 (wc.heap[gb352]? = some (.cells #[.int .u64 t349, .int .u64 t350] 26 (0, 0))) ∧ Aside0 (wc.heap[gb356]? = some (.cells #[.int .u64 t353, .int .u64 t354] 26 (0, 0))) ∧ Aside0 (wc.heap[gb360]? = some (.cells #[.int .u64 t357, .int .u64 t358] 26 (0, 0))) ∧ Aside0 (wc.heap[gb364]? = some (.cells #[.int .u64 t361, .int .u64 t362] 26 (0, 0))) ∧ Aside0 (wc.heap[gb368]? = some (.cells #[.int .u64 t365, .int .u64 t366] 26 (0, 0))) ∧ Aside0 (Below w.heap.size w wc))
                      case first => as_aux_lemma =>
                        have H := HC171.out
                        clear HC171
                        by_cases c172 : t367 > 0
                        · rw [if_pos c172] at H
                          have c172b0 : decide (0 < t367) = true := decide_eq_true c172
                          clear c172
                          (first | rw [c172b0] | (simp only [i64_w, i32_w]; rw [c172b0]) | skip)
                          have H' := Aside0.mk H
                          clear H
                          have hnb173 := NB344_340.out
                          have hnc173 := NB340_344.out
                          have hnb174 := NB344_351.out
                          have hnc174 := NB351_344.out
                          have hnb175 := NB344_352.out
                          have hnc175 := NB352_344.out
                          have hnb176 := NB344_356.out
                          have hnc176 := NB356_344.out
                          have hnb177 := NB344_360.out
                          have hnc177 := NB360_344.out
                          have hnb178 := NB344_364.out
                          have hnc178 := NB364_344.out
                          have hnb179 := NB344_368.out
                          have hnc179 := NB368_344.out
                          have hcz180_0 : wc.cell? ⟨gb344, 0, none⟩ = some (.int .u64 t369) := (blk_cell BK344.out 0).trans rfl
                          have hcz180_1 : wc.cell? ⟨gb344, 1, none⟩ = some (.int .u64 t370) := (blk_cell BK344.out 1).trans rfl
                          have hfz180_0 := blk_frozen BK344.out 0
                          have hfz180_1 := blk_frozen BK344.out 1
                          go_wp2
                          go_meet
                          case rel => exact ⟨_, ((t369 == 0)), (by first | rfl | (simp; done) | (simp [*]; done)), H', ⟨by have := HJ5.out; have := HJ34.out; have := HJ149.out; first | omega | exact Nat.le_refl _⟩, ⟨zk⟩, ⟨zk⟩, ⟨zk⟩, ⟨zk⟩, ⟨zk⟩, ⟨zk⟩, ⟨zk⟩, ⟨zk⟩, ⟨zb⟩⟩
                        · rw [if_neg c172] at H
                          have c172b0 : decide (0 < t367) = false := decide_eq_false c172
                          clear c172
                          (first | rw [c172b0] | (simp only [i64_w, i32_w]; rw [c172b0]) | skip)
                          have H' := Aside0.mk H
                          clear H
                          go_wp2
                          go_meet
                          case rel => exact ⟨_, (false), (by first | rfl | (simp; done) | (simp [*]; done)), H', ⟨by have := HJ5.out; have := HJ34.out; have := HJ149.out; first | omega | exact Nat.le_refl _⟩, ⟨zk⟩, ⟨zk⟩, ⟨zk⟩, ⟨zk⟩, ⟨zk⟩, ⟨zk⟩, ⟨zk⟩, ⟨zk⟩, ⟨zb⟩⟩
                      case rest => as_aux_lemma =>
                        clear HC171
                        (try clear c1); (try clear c2); (try clear p2); (try clear c3); (try clear c4); (try clear c5); (try clear c6); (try clear c7); (try clear c8); (try clear c9); (try clear c10); (try clear c11); (try clear c12); (try clear c13); (try clear c14); (try clear c15); (try clear c15b0); (try clear c16); (try clear c17); (try clear c18); (try clear c19); (try clear c19b0); (try clear c20); (try clear c20b0); (try clear c21); (try clear c22); (try clear c30); (try clear c32); (try clear c33); (try clear c39); (try clear c40); (try clear c41); (try clear c43); (try clear c44); (try clear c48); (try clear c49); (try clear c50); (try clear c51); (try clear c57); (try clear c58); (try clear c59); (try clear c60); (try clear c61); (try clear c67); (try clear c68); (try clear c69); (try clear c70); (try clear c71); (try clear c72); (try clear c74); (try clear c74b0); (try clear c75); (try clear c76); (try clear c77); (try clear c78); (try clear c79); (try clear c80); (try clear c82); (try clear c83); (try clear c84); (try clear c85); (try clear c86); (try clear c88); (try clear c88b0); (try clear c88b1); (try clear c88b2); (try clear c89); (try clear c90); (try clear c91); (try clear c92); (try clear c93); (try clear c94); (try clear c96); (try clear c97); (try clear c98); (try clear c99); (try clear c100); (try clear c102); (try clear c102b0); (try clear c103); (try clear c104); (try clear c105); (try clear c106); (try clear c107); (try clear c108); (try clear c110); (try clear c111); (try clear c112); (try clear c113); (try clear c114); (try clear c116); (try clear c117); (try clear c118); (try clear c119); (try clear c121); (try clear c122); (try clear c123); (try clear c125); (try clear c126); (try clear c127); (try clear c128); (try clear c129); (try clear c130); (try clear c132); (try clear c133); (try clear c134); (try clear c135); (try clear c136); (try clear c138); (try clear c139); (try clear c140); (try clear c141); (try clear c143); (try clear c144); (try clear c145); (try clear c147); (try clear c153); (try clear c154); (try clear c155); (try clear c156); (try clear c157); (try clear c158); (try clear c159); (try clear c162); (try clear c163); (try clear c164); (try clear c165); (try clear c166); (try clear c167); (try clear c169); (try clear c169b0); (try clear c170); (try clear c172); (try clear c172b0); (try clear c173); (try clear c174); (try clear c175); (try clear c176); (try clear c177); (try clear c178); (try clear c179); (try clear hcz101_0); (try clear hcz101_1); (try clear hcz109_0); (try clear hcz109_1); (try clear hcz115_0); (try clear hcz115_1); (try clear hcz120_0); (try clear hcz120_1); (try clear hcz124_0); (try clear hcz124_1); (try clear hcz131_0); (try clear hcz131_1); (try clear hcz137_0); (try clear hcz137_1); (try clear hcz142_0); (try clear hcz142_1); (try clear hcz146_0); (try clear hcz146_1); (try clear hcz160_0); (try clear hcz160_1); (try clear hcz168_0); (try clear hcz168_1); (try clear hcz180_0); (try clear hcz180_1); (try clear hcz42_0); (try clear hcz42_1); (try clear hcz45_0); (try clear hcz45_1); (try clear hcz52_0); (try clear hcz52_1); (try clear hcz53_0); (try clear hcz53_1); (try clear hcz54_0); (try clear hcz54_1); (try clear hcz62_0); (try clear hcz62_1); (try clear hcz63_0); (try clear hcz63_1); (try clear hcz64_0); (try clear hcz64_1); (try clear hcz73_0); (try clear hcz73_1); (try clear hcz81_0); (try clear hcz81_1); (try clear hcz87_0); (try clear hcz87_1); (try clear hcz95_0); (try clear hcz95_1); (try clear hfz101_0); (try clear hfz101_1); (try clear hfz109_0); (try clear hfz109_1); (try clear hfz115_0); (try clear hfz115_1); (try clear hfz120_0); (try clear hfz120_1); (try clear hfz124_0); (try clear hfz124_1); (try clear hfz131_0); (try clear hfz131_1); (try clear hfz137_0); (try clear hfz137_1); (try clear hfz142_0); (try clear hfz142_1); (try clear hfz146_0); (try clear hfz146_1); (try clear hfz160_0); (try clear hfz160_1); (try clear hfz168_0); (try clear hfz168_1); (try clear hfz180_0); (try clear hfz180_1); (try clear hfz42_0); (try clear hfz42_1); (try clear hfz45_0); (try clear hfz45_1); (try clear hfz52_0); (try clear hfz52_1); (try clear hfz53_0); (try clear hfz53_1); (try clear hfz54_0); (try clear hfz54_1); (try clear hfz62_0); (try clear hfz62_1); (try clear hfz63_0); (try clear hfz63_1); (try clear hfz64_0); (try clear hfz64_1); (try clear hfz73_0); (try clear hfz73_1); (try clear hfz81_0); (try clear hfz81_1); (try clear hfz87_0); (try clear hfz87_1); (try clear hfz95_0); (try clear hfz95_1); (try clear p2)
                        obtain ⟨kq, x130_170, rfl, HA, HJ170, BK340, BK344, BK351, BK352, BK356, BK360, BK364, BK368, HB⟩ := hcut
                        cases kq with
                        | zero => exact absurd HA.out (by simp [laws_FnWords.j3])
                        | succ kj170 =>
                          have H := HA.out
                          clear HA
                          simp only [laws_FnWords.j3] at H
                          have HC181 := Aside0.mk H
                          clear H
                          go_upto_if 130 with (fail)
                          go_cut [] (fun wc => ∃ (kq : Nat), Aside0 (laws_FnWords.j4 kq l0 = some r) ∧ Aside0 (kq ≤ kj170) ∧ Aside0 (wc.heap[gb340]? = some (.cells #[.int .u64 t338, .int .u64 t339] 26 (0, 0))) ∧ Aside0 (wc.heap[gb344]? = some (.cells #[.int .u64 t369, .int .u64 t370] 26 (0, 0))) ∧ Aside0 (wc.heap[gb351]? = some (.cells #[.int .u64 t347, .int .u64 t348] 26 (0, 0))) ∧ Aside0 (wc.heap[gb352]? = some (.cells #[.int .u64 t349, .int .u64 t350] 26 (0, 0))) ∧ Aside0 (wc.heap[gb356]? = some (.cells #[.int .u64 t353, .int .u64 t354] 26 (0, 0))) ∧ Aside0 (wc.heap[gb360]? = some (.cells #[.int .u64 t357, .int .u64 t358] 26 (0, 0))) ∧ Aside0 (wc.heap[gb364]? = some (.cells #[.int .u64 t361, .int .u64 t362] 26 (0, 0))) ∧ Aside0 (wc.heap[gb368]? = some (.cells #[.int .u64 t365, .int .u64 t366] 26 (0, 0))) ∧ Aside0 (Below w.heap.size w wc))
                          case first => as_aux_lemma =>
                            have H := HC181.out
                            clear HC181
                            by_cases c182 : x130_170 = true
                            · subst c182
                              have H1 : ((impl_MulWide.f t370 t367).bind fun bt372 => ((impl_AddWide.f bt372.1 bt372.2 0 t371).bind fun bt374 => (if bt374.2.2 = true then (none) else (if (!(bt374.1 == t365) || (!(bt374.2.1 == t366))) = true then (none) else (laws_FnWords.j4 kj170 l0))))) = some r := by rw [if_pos rfl] at H; exact H
                              clear H
                              have H := H1
                              clear H1
                              replace H := Option.bind_eq_some_iff.mp H
                              obtain ⟨⟨t372, t373⟩, A1830, H⟩ := H
                              replace H : ((impl_AddWide.f t372 t373 0 t371).bind fun bt374 => (if bt374.2.2 = true then (none) else (if (!(bt374.1 == t365) || (!(bt374.2.1 == t366))) = true then (none) else (laws_FnWords.j4 kj170 l0)))) = some r := H
                              have A183 := Aside0.mk A1830
                              clear A1830
                              replace H := Option.bind_eq_some_iff.mp H
                              obtain ⟨⟨t374, t375, t376⟩, A1840, H⟩ := H
                              replace H : (if t376 = true then (none) else (if (!(t374 == t365) || (!(t375 == t366))) = true then (none) else (laws_FnWords.j4 kj170 l0))) = some r := H
                              have A184 := Aside0.mk A1840
                              clear A1840
                              by_cases c185 : t376 = true
                              · subst c185
                                have H1 : (none) = some r := by rw [if_pos rfl] at H; exact H
                                clear H
                                have H := H1
                                clear H1
                                exact absurd H (by simp)
                              · replace c185 := Bool.eq_false_iff.mpr c185
                                subst c185
                                have H1 : (if (!(t374 == t365) || (!(t375 == t366))) = true then (none) else (laws_FnWords.j4 kj170 l0)) = some r := by rw [if_neg (show ¬ (false = true) by decide)] at H; exact H
                                clear H
                                have H := H1
                                clear H1
                                by_cases c186 : (!(t374 == t365) || (!(t375 == t366))) = true
                                · rw [if_pos c186] at H
                                  exact absurd H (by simp)
                                · rw [if_neg c186] at H
                                  have c186b0 : (!(t374 == t365) || (!(t375 == t366))) = false := by simpa using c186
                                  clear c186
                                  (first | rw [c186b0] | (simp only [i64_w, i32_w]; rw [c186b0]) | skip)
                                  have H' := Aside0.mk H
                                  clear H
                                  have hnb187 := NB344_340.out
                                  have hnc187 := NB340_344.out
                                  have hnb188 := NB344_351.out
                                  have hnc188 := NB351_344.out
                                  have hnb189 := NB344_352.out
                                  have hnc189 := NB352_344.out
                                  have hnb190 := NB344_356.out
                                  have hnc190 := NB356_344.out
                                  have hnb191 := NB344_360.out
                                  have hnc191 := NB360_344.out
                                  have hnb192 := NB344_364.out
                                  have hnc192 := NB364_344.out
                                  have hnb193 := NB344_368.out
                                  have hnc193 := NB368_344.out
                                  have hcz194_0 : wc.cell? ⟨gb344, 0, none⟩ = some (.int .u64 t369) := (blk_cell BK344.out 0).trans rfl
                                  have hcz194_1 : wc.cell? ⟨gb344, 1, none⟩ = some (.int .u64 t370) := (blk_cell BK344.out 1).trans rfl
                                  have hfz194_0 := blk_frozen BK344.out 0
                                  have hfz194_1 := blk_frozen BK344.out 1
                                  go_wp2_with (first | ((with_reducible refine gate_callee (f := 20) rfl ?_); refine goesL_ (some 135) rfl rfl Try.func20 (by kernel_rfl) rfl #[.int .u64 t370, .int .u64 t367] rfl (by (try simp only [List.map_toArray, List.map_cons, List.map_nil]); first | done | rfl | (simp only [List.length_drop, List.length_take]; rfl)) ?_; (with_reducible refine (impl_MulWide.calls t370 t367 t372 t373 _ A183.out).mono ?_); rintro e w195 ⟨rfl, hb⟩; refine ⟨_, rfl, ?_⟩; have n0_ := za BK340 hb; have n1_ := za BK344 hb; have n2_ := za BK351 hb; have n3_ := za BK352 hb; have n4_ := za BK356 hb; have n5_ := za BK360 hb; have n6_ := za BK364 hb; have n7_ := za BK368 hb; have n8_ := Aside0.mk (below_step zb hb); clear BK340 BK344 BK351 BK352 BK356 BK360 BK364 BK368 HB; have BK340 := n0_; have BK344 := n1_; have BK351 := n2_; have BK352 := n3_; have BK356 := n4_; have BK360 := n5_; have BK364 := n6_; have BK368 := n7_; have HB := n8_; clear n0_ n1_ n2_ n3_ n4_ n5_ n6_ n7_ n8_; (try clear hb); (try clear hb2); (try clear hk); (try clear hi)) | ((with_reducible refine gate_callee (f := 22) rfl ?_); refine goesL_ (some 138) rfl rfl Try.func22 (by kernel_rfl) rfl #[.agg #[.int .u64 t372, .int .u64 t373], .agg #[.int .u64 0, .int .u64 t371]] rfl (by (try simp only [List.map_toArray, List.map_cons, List.map_nil]); first | done | rfl | (simp only [List.length_drop, List.length_take]; rfl)) ?_; (with_reducible refine (impl_AddWide.calls t372 t373 0 t371 t374 t375 false _ A184.out).mono ?_); rintro e w196 ⟨rfl, hb⟩; refine ⟨_, rfl, ?_⟩; have n0_ := za BK340 hb; have n1_ := za BK344 hb; have n2_ := za BK351 hb; have n3_ := za BK352 hb; have n4_ := za BK356 hb; have n5_ := za BK360 hb; have n6_ := za BK364 hb; have n7_ := za BK368 hb; have n8_ := Aside0.mk (below_step zb hb); clear BK340 BK344 BK351 BK352 BK356 BK360 BK364 BK368 HB; have BK340 := n0_; have BK344 := n1_; have BK351 := n2_; have BK352 := n3_; have BK356 := n4_; have BK360 := n5_; have BK364 := n6_; have BK368 := n7_; have HB := n8_; clear n0_ n1_ n2_ n3_ n4_ n5_ n6_ n7_ n8_; (try clear hb); (try clear hb2); (try clear hk); (try clear hi)) | ((with_reducible refine gate_dst (N := 18) rfl ?_); refine box_event ?hg (N := 18) ?hd (cs := #[.int .u64 0, .int .u64 0]) (t := 26) ?hr ?_; (case hd => rfl); (case hg => rfl); (case hr => first | (go_simp; done) | (go_simp; rfl)); intro gb377 hg w197 hbox hb; have n0_ := za BK340 hb; have n1_ := za BK344 hb; have n2_ := za BK351 hb; have n3_ := za BK352 hb; have n4_ := za BK356 hb; have n5_ := za BK360 hb; have n6_ := za BK364 hb; have n7_ := za BK368 hb; have n8_ := Aside0.mk (below_step zb hb); have n9_ := Aside0.mk (hbox); have n10_ := zs w hg; have n11_ := zs w hg; have n12_ := zl BK340 hg; have n13_ := zg BK340 hg; have n14_ := zl BK344 hg; have n15_ := zg BK344 hg; have n16_ := zl BK351 hg; have n17_ := zg BK351 hg; have n18_ := zl BK352 hg; have n19_ := zg BK352 hg; have n20_ := zl BK356 hg; have n21_ := zg BK356 hg; have n22_ := zl BK360 hg; have n23_ := zg BK360 hg; have n24_ := zl BK364 hg; have n25_ := zg BK364 hg; have n26_ := zl BK368 hg; have n27_ := zg BK368 hg; clear BK340 BK344 BK351 BK352 BK356 BK360 BK364 BK368 HB; have BK340 := n0_; have BK344 := n1_; have BK351 := n2_; have BK352 := n3_; have BK356 := n4_; have BK360 := n5_; have BK364 := n6_; have BK368 := n7_; have HB := n8_; have BK377 := n9_; have GW377 := n10_; have GE377 := n11_; have NB340_377 := n12_; have NB377_340 := n13_; have NB344_377 := n14_; have NB377_344 := n15_; have NB351_377 := n16_; have NB377_351 := n17_; have NB352_377 := n18_; have NB377_352 := n19_; have NB356_377 := n20_; have NB377_356 := n21_; have NB360_377 := n22_; have NB377_360 := n23_; have NB364_377 := n24_; have NB377_364 := n25_; have NB368_377 := n26_; have NB377_368 := n27_; clear n0_ n1_ n2_ n3_ n4_ n5_ n6_ n7_ n8_ n9_ n10_ n11_ n12_ n13_ n14_ n15_ n16_ n17_ n18_ n19_ n20_ n21_ n22_ n23_ n24_ n25_ n26_ n27_ hb hbox hg; have hnb198 := NB377_340.out; have hnc198 := NB340_377.out; have hnb199 := NB377_344.out; have hnc199 := NB344_377.out; have hnb200 := NB377_351.out; have hnc200 := NB351_377.out; have hnb201 := NB377_352.out; have hnc201 := NB352_377.out; have hnb202 := NB377_356.out; have hnc202 := NB356_377.out; have hnb203 := NB377_360.out; have hnc203 := NB360_377.out; have hnb204 := NB377_364.out; have hnc204 := NB364_377.out; have hnb205 := NB377_368.out; have hnc205 := NB368_377.out; have hcz206_0 : w197.cell? ⟨gb377, 0, none⟩ = some (.int .u64 0) := (blk_cell BK377.out 0).trans rfl; have hcz206_1 : w197.cell? ⟨gb377, 1, none⟩ = some (.int .u64 0) := (blk_cell BK377.out 1).trans rfl; have hfz206_0 := blk_frozen BK377.out 0; have hfz206_1 := blk_frozen BK377.out 1; have hnb207 := NB368_340.out; have hnc207 := NB340_368.out; have hnb208 := NB368_351.out; have hnc208 := NB351_368.out; have hnb209 := NB368_352.out; have hnc209 := NB352_368.out; have hnb210 := NB368_356.out; have hnc210 := NB356_368.out; have hnb211 := NB368_360.out; have hnc211 := NB360_368.out; have hnb212 := NB368_364.out; have hnc212 := NB364_368.out; have hcz213_0 : w197.cell? ⟨gb368, 0, none⟩ = some (.int .u64 t365) := (blk_cell BK368.out 0).trans rfl; have hcz213_1 : w197.cell? ⟨gb368, 1, none⟩ = some (.int .u64 t366) := (blk_cell BK368.out 1).trans rfl; have hfz213_0 := blk_frozen BK368.out 0; have hfz213_1 := blk_frozen BK368.out 1))
                                  go_meet
                                  case rel => exact ⟨_, H', ⟨by have := HJ5.out; have := HJ34.out; have := HJ149.out; have := HJ170.out; first | omega | exact Nat.le_refl _⟩, ⟨by (with_reducible repeat (first | refine blk_drewN ?_ _ | refine blk_drew ?_ | refine blk_alloc ?_ _)); refine blk_far ?_ NB340_377.out _; (with_reducible repeat (first | refine blk_drewN ?_ _ | refine blk_drew ?_ | refine blk_alloc ?_ _)); refine blk_far ?_ NB340_377.out _; (with_reducible repeat (first | refine blk_drewN ?_ _ | refine blk_drew ?_ | refine blk_alloc ?_ _)); exact BK340.out⟩, ⟨by (with_reducible repeat (first | refine blk_drewN ?_ _ | refine blk_drew ?_ | refine blk_alloc ?_ _)); refine blk_far ?_ NB344_377.out _; (with_reducible repeat (first | refine blk_drewN ?_ _ | refine blk_drew ?_ | refine blk_alloc ?_ _)); refine blk_far ?_ NB344_377.out _; (with_reducible repeat (first | refine blk_drewN ?_ _ | refine blk_drew ?_ | refine blk_alloc ?_ _)); exact BK344.out⟩, ⟨by (with_reducible repeat (first | refine blk_drewN ?_ _ | refine blk_drew ?_ | refine blk_alloc ?_ _)); refine blk_far ?_ NB351_377.out _; (with_reducible repeat (first | refine blk_drewN ?_ _ | refine blk_drew ?_ | refine blk_alloc ?_ _)); refine blk_far ?_ NB351_377.out _; (with_reducible repeat (first | refine blk_drewN ?_ _ | refine blk_drew ?_ | refine blk_alloc ?_ _)); exact BK351.out⟩, ⟨by (with_reducible repeat (first | refine blk_drewN ?_ _ | refine blk_drew ?_ | refine blk_alloc ?_ _)); refine blk_far ?_ NB352_377.out _; (with_reducible repeat (first | refine blk_drewN ?_ _ | refine blk_drew ?_ | refine blk_alloc ?_ _)); refine blk_far ?_ NB352_377.out _; (with_reducible repeat (first | refine blk_drewN ?_ _ | refine blk_drew ?_ | refine blk_alloc ?_ _)); exact BK352.out⟩, ⟨by (with_reducible repeat (first | refine blk_drewN ?_ _ | refine blk_drew ?_ | refine blk_alloc ?_ _)); refine blk_far ?_ NB356_377.out _; (with_reducible repeat (first | refine blk_drewN ?_ _ | refine blk_drew ?_ | refine blk_alloc ?_ _)); refine blk_far ?_ NB356_377.out _; (with_reducible repeat (first | refine blk_drewN ?_ _ | refine blk_drew ?_ | refine blk_alloc ?_ _)); exact BK356.out⟩, ⟨by (with_reducible repeat (first | refine blk_drewN ?_ _ | refine blk_drew ?_ | refine blk_alloc ?_ _)); refine blk_far ?_ NB360_377.out _; (with_reducible repeat (first | refine blk_drewN ?_ _ | refine blk_drew ?_ | refine blk_alloc ?_ _)); refine blk_far ?_ NB360_377.out _; (with_reducible repeat (first | refine blk_drewN ?_ _ | refine blk_drew ?_ | refine blk_alloc ?_ _)); exact BK360.out⟩, ⟨by (with_reducible repeat (first | refine blk_drewN ?_ _ | refine blk_drew ?_ | refine blk_alloc ?_ _)); refine blk_far ?_ NB364_377.out _; (with_reducible repeat (first | refine blk_drewN ?_ _ | refine blk_drew ?_ | refine blk_alloc ?_ _)); refine blk_far ?_ NB364_377.out _; (with_reducible repeat (first | refine blk_drewN ?_ _ | refine blk_drew ?_ | refine blk_alloc ?_ _)); exact BK364.out⟩, ⟨by (with_reducible repeat (first | refine blk_drewN ?_ _ | refine blk_drew ?_ | refine blk_alloc ?_ _)); refine blk_far ?_ NB368_377.out _; (with_reducible repeat (first | refine blk_drewN ?_ _ | refine blk_drew ?_ | refine blk_alloc ?_ _)); refine blk_far ?_ NB368_377.out _; (with_reducible repeat (first | refine blk_drewN ?_ _ | refine blk_drew ?_ | refine blk_alloc ?_ _)); exact BK368.out⟩, ⟨zb⟩⟩
                            · replace c182 := Bool.eq_false_iff.mpr c182
                              subst c182
                              have H1 : (laws_FnWords.j4 kj170 l0) = some r := by rw [if_neg (show ¬ (false = true) by decide)] at H; exact H
                              clear H
                              have H := H1
                              clear H1
                              have H' := Aside0.mk H
                              clear H
                              go_wp2
                              go_meet
                              case rel => exact ⟨_, H', ⟨by have := HJ5.out; have := HJ34.out; have := HJ149.out; have := HJ170.out; first | omega | exact Nat.le_refl _⟩, ⟨zk⟩, ⟨zk⟩, ⟨zk⟩, ⟨zk⟩, ⟨zk⟩, ⟨zk⟩, ⟨zk⟩, ⟨zk⟩, ⟨zb⟩⟩
                          case rest => as_aux_lemma =>
                            clear HC181
                            (try clear c1); (try clear c2); (try clear p2); (try clear c3); (try clear c4); (try clear c5); (try clear c6); (try clear c7); (try clear c8); (try clear c9); (try clear c10); (try clear c11); (try clear c12); (try clear c13); (try clear c14); (try clear c15); (try clear c15b0); (try clear c16); (try clear c17); (try clear c18); (try clear c19); (try clear c19b0); (try clear c20); (try clear c20b0); (try clear c21); (try clear c22); (try clear c30); (try clear c32); (try clear c33); (try clear c39); (try clear c40); (try clear c41); (try clear c43); (try clear c44); (try clear c48); (try clear c49); (try clear c50); (try clear c51); (try clear c57); (try clear c58); (try clear c59); (try clear c60); (try clear c61); (try clear c67); (try clear c68); (try clear c69); (try clear c70); (try clear c71); (try clear c72); (try clear c74); (try clear c74b0); (try clear c75); (try clear c76); (try clear c77); (try clear c78); (try clear c79); (try clear c80); (try clear c82); (try clear c83); (try clear c84); (try clear c85); (try clear c86); (try clear c88); (try clear c88b0); (try clear c88b1); (try clear c88b2); (try clear c89); (try clear c90); (try clear c91); (try clear c92); (try clear c93); (try clear c94); (try clear c96); (try clear c97); (try clear c98); (try clear c99); (try clear c100); (try clear c102); (try clear c102b0); (try clear c103); (try clear c104); (try clear c105); (try clear c106); (try clear c107); (try clear c108); (try clear c110); (try clear c111); (try clear c112); (try clear c113); (try clear c114); (try clear c116); (try clear c117); (try clear c118); (try clear c119); (try clear c121); (try clear c122); (try clear c123); (try clear c125); (try clear c126); (try clear c127); (try clear c128); (try clear c129); (try clear c130); (try clear c132); (try clear c133); (try clear c134); (try clear c135); (try clear c136); (try clear c138); (try clear c139); (try clear c140); (try clear c141); (try clear c143); (try clear c144); (try clear c145); (try clear c147); (try clear c153); (try clear c154); (try clear c155); (try clear c156); (try clear c157); (try clear c158); (try clear c159); (try clear c162); (try clear c163); (try clear c164); (try clear c165); (try clear c166); (try clear c167); (try clear c169); (try clear c169b0); (try clear c170); (try clear c172); (try clear c172b0); (try clear c173); (try clear c174); (try clear c175); (try clear c176); (try clear c177); (try clear c178); (try clear c179); (try clear c182); (try clear c185); (try clear c186); (try clear c186b0); (try clear c187); (try clear c188); (try clear c189); (try clear c190); (try clear c191); (try clear c192); (try clear c193); (try clear c198); (try clear c199); (try clear c200); (try clear c201); (try clear c202); (try clear c203); (try clear c204); (try clear c205); (try clear c207); (try clear c208); (try clear c209); (try clear c210); (try clear c211); (try clear c212); (try clear hcz101_0); (try clear hcz101_1); (try clear hcz109_0); (try clear hcz109_1); (try clear hcz115_0); (try clear hcz115_1); (try clear hcz120_0); (try clear hcz120_1); (try clear hcz124_0); (try clear hcz124_1); (try clear hcz131_0); (try clear hcz131_1); (try clear hcz137_0); (try clear hcz137_1); (try clear hcz142_0); (try clear hcz142_1); (try clear hcz146_0); (try clear hcz146_1); (try clear hcz160_0); (try clear hcz160_1); (try clear hcz168_0); (try clear hcz168_1); (try clear hcz180_0); (try clear hcz180_1); (try clear hcz194_0); (try clear hcz194_1); (try clear hcz206_0); (try clear hcz206_1); (try clear hcz213_0); (try clear hcz213_1); (try clear hcz42_0); (try clear hcz42_1); (try clear hcz45_0); (try clear hcz45_1); (try clear hcz52_0); (try clear hcz52_1); (try clear hcz53_0); (try clear hcz53_1); (try clear hcz54_0); (try clear hcz54_1); (try clear hcz62_0); (try clear hcz62_1); (try clear hcz63_0); (try clear hcz63_1); (try clear hcz64_0); (try clear hcz64_1); (try clear hcz73_0); (try clear hcz73_1); (try clear hcz81_0); (try clear hcz81_1); (try clear hcz87_0); (try clear hcz87_1); (try clear hcz95_0); (try clear hcz95_1); (try clear hfz101_0); (try clear hfz101_1); (try clear hfz109_0); (try clear hfz109_1); (try clear hfz115_0); (try clear hfz115_1); (try clear hfz120_0); (try clear hfz120_1); (try clear hfz124_0); (try clear hfz124_1); (try clear hfz131_0); (try clear hfz131_1); (try clear hfz137_0); (try clear hfz137_1); (try clear hfz142_0); (try clear hfz142_1); (try clear hfz146_0); (try clear hfz146_1); (try clear hfz160_0); (try clear hfz160_1); (try clear hfz168_0); (try clear hfz168_1); (try clear hfz180_0); (try clear hfz180_1); (try clear hfz194_0); (try clear hfz194_1); (try clear hfz206_0); (try clear hfz206_1); (try clear hfz213_0); (try clear hfz213_1); (try clear hfz42_0); (try clear hfz42_1); (try clear hfz45_0); (try clear hfz45_1); (try clear hfz52_0); (try clear hfz52_1); (try clear hfz53_0); (try clear hfz53_1); (try clear hfz54_0); (try clear hfz54_1); (try clear hfz62_0); (try clear hfz62_1); (try clear hfz63_0); (try clear hfz63_1); (try clear hfz64_0); (try clear hfz64_1); (try clear hfz73_0); (try clear hfz73_1); (try clear hfz81_0); (try clear hfz81_1); (try clear hfz87_0); (try clear hfz87_1); (try clear hfz95_0); (try clear hfz95_1); (try clear p2)
                            obtain ⟨kq, HA, HJ180, BK340, BK344, BK351, BK352, BK356, BK360, BK364, BK368, HB⟩ := hcut
                            cases kq with
                            | zero => exact absurd HA.out (by simp [laws_FnWords.j4])
                            | succ kj180 =>
                              have H := HA.out
                              clear HA
                              simp only [laws_FnWords.j4] at H
                              replace H := Option.bind_eq_some_iff.mp H
                              obtain ⟨⟨t378, t379⟩, A2140, H⟩ := H
                              replace H : ((impl_SqrtWide.f kj180 t378 t379).bind fun bt381 => ((spec_SqrtWide.f kj180 t378 t379).bind fun bt383 => (if bt381.1 = bt383.1 then (laws_FnWords.j5 kj180 l0 (bt381.2 != bt383.2)) else (laws_FnWords.j5 kj180 l0 true)))) = some r := H
                              have A214 := Aside0.mk A2140
                              clear A2140
                              replace H := Option.bind_eq_some_iff.mp H
                              obtain ⟨⟨t381, t382⟩, A2150, H⟩ := H
                              replace H : ((spec_SqrtWide.f kj180 t378 t379).bind fun bt383 => (if t381 = bt383.1 then (laws_FnWords.j5 kj180 l0 (t382 != bt383.2)) else (laws_FnWords.j5 kj180 l0 true))) = some r := H
                              have A215 := Aside0.mk A2150
                              clear A2150
                              replace H := Option.bind_eq_some_iff.mp H
                              obtain ⟨⟨t383, t384⟩, A2160, H⟩ := H
                              replace H : (if t381 = t383 then (laws_FnWords.j5 kj180 l0 (t382 != t384)) else (laws_FnWords.j5 kj180 l0 true)) = some r := H
                              have A216 := Aside0.mk A2160
                              clear A2160
                              have HC217 := Aside0.mk H
                              clear H
                              go_upto_region 25 with (first | ((with_reducible refine gate_callee (f := 34) rfl ?_); refine goesL_ (some 148) rfl rfl Try.func34 (by kernel_rfl) rfl #[.slice A0 l0.length c0] rfl (by (try simp only [List.map_toArray, List.map_cons, List.map_nil]); first | done | rfl | (simp only [List.length_drop, List.length_take]; rfl)) ?_; (with_reducible refine (spec_DrawSqrtWide.calls kj180 _ _ l0 t378 t379 _ ?side1 ?side2 A214.out).mono ?_); (case side1 => repeat (first | exact (Kd.C_below HR0.out HB.out) | (with_reducible refine Kd.C_alloc ?_ _) | (with_reducible refine Kd.C_drewN ?_ _) | (with_reducible refine Kd.C_drew ?_))); (case side2 => exact HC0.out); rintro e w218 ⟨rfl, hb⟩; refine ⟨_, rfl, ?_⟩; have n0_ := za BK340 hb; have n1_ := za BK344 hb; have n2_ := za BK351 hb; have n3_ := za BK352 hb; have n4_ := za BK356 hb; have n5_ := za BK360 hb; have n6_ := za BK364 hb; have n7_ := za BK368 hb; have n8_ := Aside0.mk (below_step zb hb); clear BK340 BK344 BK351 BK352 BK356 BK360 BK364 BK368 HB; have BK340 := n0_; have BK344 := n1_; have BK351 := n2_; have BK352 := n3_; have BK356 := n4_; have BK360 := n5_; have BK364 := n6_; have BK368 := n7_; have HB := n8_; clear n0_ n1_ n2_ n3_ n4_ n5_ n6_ n7_ n8_; (try clear hb); (try clear hb2); (try clear hk); (try clear hi)) | ((with_reducible refine gate_dst (N := 20) rfl ?_); refine box_event ?hg (N := 20) ?hd (cs := #[.int .u64 0, .int .u64 0]) (t := 26) ?hr ?_; (case hd => rfl); (case hg => rfl); (case hr => first | (go_simp; done) | (go_simp; rfl)); intro gb380 hg w219 hbox hb; have n0_ := za BK340 hb; have n1_ := za BK344 hb; have n2_ := za BK351 hb; have n3_ := za BK352 hb; have n4_ := za BK356 hb; have n5_ := za BK360 hb; have n6_ := za BK364 hb; have n7_ := za BK368 hb; have n8_ := Aside0.mk (below_step zb hb); have n9_ := Aside0.mk (hbox); have n10_ := zs w hg; have n11_ := zs w hg; have n12_ := zl BK340 hg; have n13_ := zg BK340 hg; have n14_ := zl BK344 hg; have n15_ := zg BK344 hg; have n16_ := zl BK351 hg; have n17_ := zg BK351 hg; have n18_ := zl BK352 hg; have n19_ := zg BK352 hg; have n20_ := zl BK356 hg; have n21_ := zg BK356 hg; have n22_ := zl BK360 hg; have n23_ := zg BK360 hg; have n24_ := zl BK364 hg; have n25_ := zg BK364 hg; have n26_ := zl BK368 hg; have n27_ := zg BK368 hg; clear BK340 BK344 BK351 BK352 BK356 BK360 BK364 BK368 HB; have BK340 := n0_; have BK344 := n1_; have BK351 := n2_; have BK352 := n3_; have BK356 := n4_; have BK360 := n5_; have BK364 := n6_; have BK368 := n7_; have HB := n8_; have BK380 := n9_; have GW380 := n10_; have GE380 := n11_; have NB340_380 := n12_; have NB380_340 := n13_; have NB344_380 := n14_; have NB380_344 := n15_; have NB351_380 := n16_; have NB380_351 := n17_; have NB352_380 := n18_; have NB380_352 := n19_; have NB356_380 := n20_; have NB380_356 := n21_; have NB360_380 := n22_; have NB380_360 := n23_; have NB364_380 := n24_; have NB380_364 := n25_; have NB368_380 := n26_; have NB380_368 := n27_; clear n0_ n1_ n2_ n3_ n4_ n5_ n6_ n7_ n8_ n9_ n10_ n11_ n12_ n13_ n14_ n15_ n16_ n17_ n18_ n19_ n20_ n21_ n22_ n23_ n24_ n25_ n26_ n27_ hb hbox hg; have hnb220 := NB380_340.out; have hnc220 := NB340_380.out; have hnb221 := NB380_344.out; have hnc221 := NB344_380.out; have hnb222 := NB380_351.out; have hnc222 := NB351_380.out; have hnb223 := NB380_352.out; have hnc223 := NB352_380.out; have hnb224 := NB380_356.out; have hnc224 := NB356_380.out; have hnb225 := NB380_360.out; have hnc225 := NB360_380.out; have hnb226 := NB380_364.out; have hnc226 := NB364_380.out; have hnb227 := NB380_368.out; have hnc227 := NB368_380.out; have hcz228_0 : w219.cell? ⟨gb380, 0, none⟩ = some (.int .u64 0) := (blk_cell BK380.out 0).trans rfl; have hcz228_1 : w219.cell? ⟨gb380, 1, none⟩ = some (.int .u64 0) := (blk_cell BK380.out 1).trans rfl; have hfz228_0 := blk_frozen BK380.out 0; have hfz228_1 := blk_frozen BK380.out 1) | ((with_reducible refine gate_callee (f := 28) rfl ?_); refine goesL_ (some 151) rfl rfl Try.func28 (by kernel_rfl) rfl #[.agg #[.int .u64 t378, .int .u64 t379]] rfl (by (try simp only [List.map_toArray, List.map_cons, List.map_nil]); first | done | rfl | (simp only [List.length_drop, List.length_take]; rfl)) ?_; (with_reducible refine (impl_SqrtWide.calls kj180 t378 t379 t381 t382 _ A215.out).mono ?_); rintro e w229 ⟨rfl, hb⟩; refine ⟨_, rfl, ?_⟩; have n0_ := Aside0.mk (blk_below (g := gb340) (o := .cells #[.int .u64 t338, .int .u64 t339] 26 (0, 0)) (by (with_reducible repeat (first | refine blk_drewN ?_ _ | refine blk_drew ?_ | refine blk_alloc ?_ _)); refine blk_far ?_ NB340_380.out _; (with_reducible repeat (first | refine blk_drewN ?_ _ | refine blk_drew ?_ | refine blk_alloc ?_ _)); refine blk_far ?_ NB340_380.out _; (with_reducible repeat (first | refine blk_drewN ?_ _ | refine blk_drew ?_ | refine blk_alloc ?_ _)); exact BK340.out) hb); have n1_ := Aside0.mk (blk_below (g := gb344) (o := .cells #[.int .u64 t369, .int .u64 t370] 26 (0, 0)) (by (with_reducible repeat (first | refine blk_drewN ?_ _ | refine blk_drew ?_ | refine blk_alloc ?_ _)); refine blk_far ?_ NB344_380.out _; (with_reducible repeat (first | refine blk_drewN ?_ _ | refine blk_drew ?_ | refine blk_alloc ?_ _)); refine blk_far ?_ NB344_380.out _; (with_reducible repeat (first | refine blk_drewN ?_ _ | refine blk_drew ?_ | refine blk_alloc ?_ _)); exact BK344.out) hb); have n2_ := Aside0.mk (blk_below (g := gb351) (o := .cells #[.int .u64 t347, .int .u64 t348] 26 (0, 0)) (by (with_reducible repeat (first | refine blk_drewN ?_ _ | refine blk_drew ?_ | refine blk_alloc ?_ _)); refine blk_far ?_ NB351_380.out _; (with_reducible repeat (first | refine blk_drewN ?_ _ | refine blk_drew ?_ | refine blk_alloc ?_ _)); refine blk_far ?_ NB351_380.out _; (with_reducible repeat (first | refine blk_drewN ?_ _ | refine blk_drew ?_ | refine blk_alloc ?_ _)); exact BK351.out) hb); have n3_ := Aside0.mk (blk_below (g := gb352) (o := .cells #[.int .u64 t349, .int .u64 t350] 26 (0, 0)) (by (with_reducible repeat (first | refine blk_drewN ?_ _ | refine blk_drew ?_ | refine blk_alloc ?_ _)); refine blk_far ?_ NB352_380.out _; (with_reducible repeat (first | refine blk_drewN ?_ _ | refine blk_drew ?_ | refine blk_alloc ?_ _)); refine blk_far ?_ NB352_380.out _; (with_reducible repeat (first | refine blk_drewN ?_ _ | refine blk_drew ?_ | refine blk_alloc ?_ _)); exact BK352.out) hb); have n4_ := Aside0.mk (blk_below (g := gb356) (o := .cells #[.int .u64 t353, .int .u64 t354] 26 (0, 0)) (by (with_reducible repeat (first | refine blk_drewN ?_ _ | refine blk_drew ?_ | refine blk_alloc ?_ _)); refine blk_far ?_ NB356_380.out _; (with_reducible repeat (first | refine blk_drewN ?_ _ | refine blk_drew ?_ | refine blk_alloc ?_ _)); refine blk_far ?_ NB356_380.out _; (with_reducible repeat (first | refine blk_drewN ?_ _ | refine blk_drew ?_ | refine blk_alloc ?_ _)); exact BK356.out) hb); have n5_ := Aside0.mk (blk_below (g := gb360) (o := .cells #[.int .u64 t357, .int .u64 t358] 26 (0, 0)) (by (with_reducible repeat (first | refine blk_drewN ?_ _ | refine blk_drew ?_ | refine blk_alloc ?_ _)); refine blk_far ?_ NB360_380.out _; (with_reducible repeat (first | refine blk_drewN ?_ _ | refine blk_drew ?_ | refine blk_alloc ?_ _)); refine blk_far ?_ NB360_380.out _; (with_reducible repeat (first | refine blk_drewN ?_ _ | refine blk_drew ?_ | refine blk_alloc ?_ _)); exact BK360.out) hb); have n6_ := Aside0.mk (blk_below (g := gb364) (o := .cells #[.int .u64 t361, .int .u64 t362] 26 (0, 0)) (by (with_reducible repeat (first | refine blk_drewN ?_ _ | refine blk_drew ?_ | refine blk_alloc ?_ _)); refine blk_far ?_ NB364_380.out _; (with_reducible repeat (first | refine blk_drewN ?_ _ | refine blk_drew ?_ | refine blk_alloc ?_ _)); refine blk_far ?_ NB364_380.out _; (with_reducible repeat (first | refine blk_drewN ?_ _ | refine blk_drew ?_ | refine blk_alloc ?_ _)); exact BK364.out) hb); have n7_ := Aside0.mk (blk_below (g := gb368) (o := .cells #[.int .u64 t365, .int .u64 t366] 26 (0, 0)) (by (with_reducible repeat (first | refine blk_drewN ?_ _ | refine blk_drew ?_ | refine blk_alloc ?_ _)); refine blk_far ?_ NB368_380.out _; (with_reducible repeat (first | refine blk_drewN ?_ _ | refine blk_drew ?_ | refine blk_alloc ?_ _)); refine blk_far ?_ NB368_380.out _; (with_reducible repeat (first | refine blk_drewN ?_ _ | refine blk_drew ?_ | refine blk_alloc ?_ _)); exact BK368.out) hb); have n8_ := Aside0.mk (blk_below (g := gb380) (o := .cells #[.int .u64 t378, .int .u64 t379] 26 (0, 0)) (by (with_reducible repeat (first | refine blk_drewN ?_ _ | refine blk_drew ?_ | refine blk_alloc ?_ _)); refine blk_put (cs := #[.int .u64 t378, .int .u64 0]) ?_ 1 _ rfl; (with_reducible repeat (first | refine blk_drewN ?_ _ | refine blk_drew ?_ | refine blk_alloc ?_ _)); refine blk_put (cs := #[.int .u64 0, .int .u64 0]) ?_ 0 _ rfl; (with_reducible repeat (first | refine blk_drewN ?_ _ | refine blk_drew ?_ | refine blk_alloc ?_ _)); exact BK380.out) hb); have n9_ := Aside0.mk (below_step zb hb); clear BK340 BK344 BK351 BK352 BK356 BK360 BK364 BK368 BK380 HB; have BK340 := n0_; have BK344 := n1_; have BK351 := n2_; have BK352 := n3_; have BK356 := n4_; have BK360 := n5_; have BK364 := n6_; have BK368 := n7_; have BK380 := n8_; have HB := n9_; clear n0_ n1_ n2_ n3_ n4_ n5_ n6_ n7_ n8_ n9_; (try clear hb); (try clear hb2); (try clear hk); (try clear hi); have hcz230_0 : w229.cell? ⟨gb380, 0, none⟩ = some (.int .u64 t378) := (blk_cell BK380.out 0).trans rfl; have hcz230_1 : w229.cell? ⟨gb380, 1, none⟩ = some (.int .u64 t379) := (blk_cell BK380.out 1).trans rfl; have hfz230_0 := blk_frozen BK380.out 0; have hfz230_1 := blk_frozen BK380.out 1) | ((with_reducible refine gate_callee (f := 27) rfl ?_); refine goesL_ (some 156) rfl rfl Try.func27 (by kernel_rfl) rfl #[.agg #[.int .u64 t378, .int .u64 t379]] rfl (by (try simp only [List.map_toArray, List.map_cons, List.map_nil]); first | done | rfl | (simp only [List.length_drop, List.length_take]; rfl)) ?_; (with_reducible refine (spec_SqrtWide.calls kj180 t378 t379 t383 t384 _ A216.out).mono ?_); rintro e w231 ⟨rfl, hb⟩; refine ⟨_, rfl, ?_⟩; have n0_ := za BK340 hb; have n1_ := za BK344 hb; have n2_ := za BK351 hb; have n3_ := za BK352 hb; have n4_ := za BK356 hb; have n5_ := za BK360 hb; have n6_ := za BK364 hb; have n7_ := za BK368 hb; have n8_ := za BK380 hb; have n9_ := Aside0.mk (below_step zb hb); clear BK340 BK344 BK351 BK352 BK356 BK360 BK364 BK368 BK380 HB; have BK340 := n0_; have BK344 := n1_; have BK351 := n2_; have BK352 := n3_; have BK356 := n4_; have BK360 := n5_; have BK364 := n6_; have BK368 := n7_; have BK380 := n8_; have HB := n9_; clear n0_ n1_ n2_ n3_ n4_ n5_ n6_ n7_ n8_ n9_; (try clear hb); (try clear hb2); (try clear hk); (try clear hi)))
                              (try simp only [Act.put, List.setIfInBounds_toArray, List.set_cons_zero, List.set_cons_succ])
                              go_cut [166] (fun v166 wc => ∃ (kq : Nat) (x166_216 : Bool), v166 = .bool x166_216 ∧ Aside0 (laws_FnWords.j5 kq l0 x166_216 = some r) ∧ Aside0 (kq ≤ kj180) ∧ Aside0 (wc.heap[gb340]? = some (.cells #[.int .u64 t338, .int .u64 t339] 26 (0, 0))) ∧ Aside0 (wc.heap[gb344]? = some (.cells #[.int .u64 t369, .int .u64 t370] 26 (0, 0))) ∧ Aside0 (wc.heap[gb351]? = some (.cells #[.int .u64 t347, .int .u64 t348] 26 (0, 0))) ∧ Aside0 (wc.heap[gb352]? = some (.cells #[.int .u64 t349, .int .u64 t350] 26 (0, 0))) ∧ Aside0 (wc.heap[gb356]? = some (.cells #[.int .u64 t353, .int .u64 t354] 26 (0, 0))) ∧ Aside0 (wc.heap[gb360]? = some (.cells #[.int .u64 t357, .int .u64 t358] 26 (0, 0))) ∧ Aside0 (wc.heap[gb364]? = some (.cells #[.int .u64 t361, .int .u64 t362] 26 (0, 0))) ∧ Aside0 (wc.heap[gb368]? = some (.cells #[.int .u64 t365, .int .u64 t366] 26 (0, 0))) ∧ Aside0 (wc.heap[gb380]? = some (.cells #[.int .u64 t378, .int .u64 t379] 26 (0, 0))) ∧ Aside0 (Below w.heap.size w wc))
                              case first => as_aux_lemma =>
                                have H := HC217.out
                                clear HC217
                                by_cases c232 : t381 = t383
                                · rw [if_pos c232] at H
                                  have c232b0 : (t381 == t383) = true := beq_iff_eq.mpr c232
                                  have c232b1 : (t381 != t383) = false := bne_eq_false_iff_eq.mpr c232
                                  clear c232
                                  (first | rw [c232b0] | (simp only [i64_w, i32_w]; rw [c232b0]) | skip)
                                  have H' := Aside0.mk H
                                  clear H
                                  go_wp2
                                  go_meet
                                  case rel => exact ⟨_, ((t382 != t384)), (by first | rfl | (simp; done) | (simp [*]; done)), H', ⟨by have := HJ5.out; have := HJ34.out; have := HJ149.out; have := HJ170.out; have := HJ180.out; first | omega | exact Nat.le_refl _⟩, ⟨zk⟩, ⟨zk⟩, ⟨zk⟩, ⟨zk⟩, ⟨zk⟩, ⟨zk⟩, ⟨zk⟩, ⟨zk⟩, ⟨zk⟩, ⟨zb⟩⟩
                                · rw [if_neg c232] at H
                                  have c232b0 : (t381 == t383) = false := beq_eq_false_iff_ne.mpr c232
                                  have c232b1 : (t381 != t383) = true := bne_iff_ne.mpr c232
                                  (first | rw [c232b0] | (simp only [i64_w, i32_w]; rw [c232b0]) | skip)
                                  have H' := Aside0.mk H
                                  clear H
                                  go_wp2
                                  go_meet
                                  case rel => exact ⟨_, (true), (by first | rfl | (simp; done) | (simp [*]; done)), H', ⟨by have := HJ5.out; have := HJ34.out; have := HJ149.out; have := HJ170.out; have := HJ180.out; first | omega | exact Nat.le_refl _⟩, ⟨zk⟩, ⟨zk⟩, ⟨zk⟩, ⟨zk⟩, ⟨zk⟩, ⟨zk⟩, ⟨zk⟩, ⟨zk⟩, ⟨zk⟩, ⟨zb⟩⟩
                              case rest => as_aux_lemma =>
                                clear HC217
                                (try clear c1); (try clear c2); (try clear p2); (try clear c3); (try clear c4); (try clear c5); (try clear c6); (try clear c7); (try clear c8); (try clear c9); (try clear c10); (try clear c11); (try clear c12); (try clear c13); (try clear c14); (try clear c15); (try clear c15b0); (try clear c16); (try clear c17); (try clear c18); (try clear c19); (try clear c19b0); (try clear c20); (try clear c20b0); (try clear c21); (try clear c22); (try clear c23); (try clear c27); (try clear c28); (try clear c30); (try clear c32); (try clear c33); (try clear c34); (try clear c39); (try clear c40); (try clear c41); (try clear c43); (try clear c44); (try clear c48); (try clear c49); (try clear c50); (try clear c51); (try clear c57); (try clear c58); (try clear c59); (try clear c60); (try clear c61); (try clear c67); (try clear c68); (try clear c69); (try clear c70); (try clear c71); (try clear c72); (try clear c74); (try clear c74b0); (try clear c75); (try clear c76); (try clear c77); (try clear c78); (try clear c79); (try clear c80); (try clear c82); (try clear c83); (try clear c84); (try clear c85); (try clear c86); (try clear c88); (try clear c88b0); (try clear c88b1); (try clear c88b2); (try clear c89); (try clear c90); (try clear c91); (try clear c92); (try clear c93); (try clear c94); (try clear c96); (try clear c97); (try clear c98); (try clear c99); (try clear c100); (try clear c102); (try clear c102b0); (try clear c103); (try clear c104); (try clear c105); (try clear c106); (try clear c107); (try clear c108); (try clear c110); (try clear c111); (try clear c112); (try clear c113); (try clear c114); (try clear c116); (try clear c117); (try clear c118); (try clear c119); (try clear c121); (try clear c122); (try clear c123); (try clear c125); (try clear c126); (try clear c127); (try clear c128); (try clear c129); (try clear c130); (try clear c132); (try clear c133); (try clear c134); (try clear c135); (try clear c136); (try clear c138); (try clear c139); (try clear c140); (try clear c141); (try clear c143); (try clear c144); (try clear c145); (try clear c147); (try clear c153); (try clear c154); (try clear c155); (try clear c156); (try clear c157); (try clear c158); (try clear c159); (try clear c162); (try clear c163); (try clear c164); (try clear c165); (try clear c166); (try clear c167); (try clear c169); (try clear c169b0); (try clear c170); (try clear c172); (try clear c172b0); (try clear c173); (try clear c174); (try clear c175); (try clear c176); (try clear c177); (try clear c178); (try clear c179); (try clear c182); (try clear c185); (try clear c186); (try clear c186b0); (try clear c187); (try clear c188); (try clear c189); (try clear c190); (try clear c191); (try clear c192); (try clear c193); (try clear c198); (try clear c199); (try clear c200); (try clear c201); (try clear c202); (try clear c203); (try clear c204); (try clear c205); (try clear c207); (try clear c208); (try clear c209); (try clear c210); (try clear c211); (try clear c212); (try clear c220); (try clear c221); (try clear c222); (try clear c223); (try clear c224); (try clear c225); (try clear c226); (try clear c227); (try clear c232); (try clear c232b0); (try clear c232b1); (try clear hcz101_0); (try clear hcz101_1); (try clear hcz109_0); (try clear hcz109_1); (try clear hcz115_0); (try clear hcz115_1); (try clear hcz120_0); (try clear hcz120_1); (try clear hcz124_0); (try clear hcz124_1); (try clear hcz131_0); (try clear hcz131_1); (try clear hcz137_0); (try clear hcz137_1); (try clear hcz142_0); (try clear hcz142_1); (try clear hcz146_0); (try clear hcz146_1); (try clear hcz160_0); (try clear hcz160_1); (try clear hcz168_0); (try clear hcz168_1); (try clear hcz180_0); (try clear hcz180_1); (try clear hcz194_0); (try clear hcz194_1); (try clear hcz206_0); (try clear hcz206_1); (try clear hcz213_0); (try clear hcz213_1); (try clear hcz228_0); (try clear hcz228_1); (try clear hcz230_0); (try clear hcz230_1); (try clear hcz42_0); (try clear hcz42_1); (try clear hcz45_0); (try clear hcz45_1); (try clear hcz52_0); (try clear hcz52_1); (try clear hcz53_0); (try clear hcz53_1); (try clear hcz54_0); (try clear hcz54_1); (try clear hcz62_0); (try clear hcz62_1); (try clear hcz63_0); (try clear hcz63_1); (try clear hcz64_0); (try clear hcz64_1); (try clear hcz73_0); (try clear hcz73_1); (try clear hcz81_0); (try clear hcz81_1); (try clear hcz87_0); (try clear hcz87_1); (try clear hcz95_0); (try clear hcz95_1); (try clear hfz101_0); (try clear hfz101_1); (try clear hfz109_0); (try clear hfz109_1); (try clear hfz115_0); (try clear hfz115_1); (try clear hfz120_0); (try clear hfz120_1); (try clear hfz124_0); (try clear hfz124_1); (try clear hfz131_0); (try clear hfz131_1); (try clear hfz137_0); (try clear hfz137_1); (try clear hfz142_0); (try clear hfz142_1); (try clear hfz146_0); (try clear hfz146_1); (try clear hfz160_0); (try clear hfz160_1); (try clear hfz168_0); (try clear hfz168_1); (try clear hfz180_0); (try clear hfz180_1); (try clear hfz194_0); (try clear hfz194_1); (try clear hfz206_0); (try clear hfz206_1); (try clear hfz213_0); (try clear hfz213_1); (try clear hfz228_0); (try clear hfz228_1); (try clear hfz230_0); (try clear hfz230_1); (try clear hfz42_0); (try clear hfz42_1); (try clear hfz45_0); (try clear hfz45_1); (try clear hfz52_0); (try clear hfz52_1); (try clear hfz53_0); (try clear hfz53_1); (try clear hfz54_0); (try clear hfz54_1); (try clear hfz62_0); (try clear hfz62_1); (try clear hfz63_0); (try clear hfz63_1); (try clear hfz64_0); (try clear hfz64_1); (try clear hfz73_0); (try clear hfz73_1); (try clear hfz81_0); (try clear hfz81_1); (try clear hfz87_0); (try clear hfz87_1); (try clear hfz95_0); (try clear hfz95_1); (try clear p2)
                                obtain ⟨kq, x166_216, rfl, HA, HJ216, BK340, BK344, BK351, BK352, BK356, BK360, BK364, BK368, BK380, HB⟩ := hcut
                                cases kq with
                                | zero => exact absurd HA.out (by simp [laws_FnWords.j5])
                                | succ kj216 =>
                                  have H := HA.out
                                  clear HA
                                  simp only [laws_FnWords.j5] at H
                                  by_cases c233 : x166_216 = true
                                  · subst c233
                                    have H1 : (none) = some r := by rw [if_pos rfl] at H; exact H
                                    clear H
                                    have H := H1
                                    clear H1
                                    exact absurd H (by simp)
                                  · replace c233 := Bool.eq_false_iff.mpr c233
                                    subst c233
                                    have H1 : ((spec_DrawZeros.f kj216 l0).bind fun bt385 => ((impl_Zeros.f bt385.1 bt385.2).bind fun t388 => ((impl_ShiftLeft.f bt385.1 bt385.2 t388).bind fun bt389 => ((impl_ShiftRight.f bt389.1 bt389.2 t388).bind fun bt391 => (if (bt391.1 == bt385.1 && (bt391.2.1 == bt385.2)) = true then (if bt391.2.2 = true then (none) else ((spec_Zeros.f kj216 bt385.1 bt385.2).bind fun t395 => (some (t388 == t395)))) else (none)))))) = some r := by rw [if_neg (show ¬ (false = true) by decide)] at H; exact H
                                    clear H
                                    have H := H1
                                    clear H1
                                    replace H := Option.bind_eq_some_iff.mp H
                                    obtain ⟨⟨t385, t386⟩, A2340, H⟩ := H
                                    replace H : ((impl_Zeros.f t385 t386).bind fun t388 => ((impl_ShiftLeft.f t385 t386 t388).bind fun bt389 => ((impl_ShiftRight.f bt389.1 bt389.2 t388).bind fun bt391 => (if (bt391.1 == t385 && (bt391.2.1 == t386)) = true then (if bt391.2.2 = true then (none) else ((spec_Zeros.f kj216 t385 t386).bind fun t395 => (some (t388 == t395)))) else (none))))) = some r := H
                                    have A234 := Aside0.mk A2340
                                    clear A2340
                                    replace H := Option.bind_eq_some_iff.mp H
                                    obtain ⟨t388, A2350, H⟩ := H
                                    replace H : ((impl_ShiftLeft.f t385 t386 t388).bind fun bt389 => ((impl_ShiftRight.f bt389.1 bt389.2 t388).bind fun bt391 => (if (bt391.1 == t385 && (bt391.2.1 == t386)) = true then (if bt391.2.2 = true then (none) else ((spec_Zeros.f kj216 t385 t386).bind fun t395 => (some (t388 == t395)))) else (none)))) = some r := H
                                    have A235 := Aside0.mk A2350
                                    clear A2350
                                    replace H := Option.bind_eq_some_iff.mp H
                                    obtain ⟨⟨t389, t390⟩, A2360, H⟩ := H
                                    replace H : ((impl_ShiftRight.f t389 t390 t388).bind fun bt391 => (if (bt391.1 == t385 && (bt391.2.1 == t386)) = true then (if bt391.2.2 = true then (none) else ((spec_Zeros.f kj216 t385 t386).bind fun t395 => (some (t388 == t395)))) else (none))) = some r := H
                                    have A236 := Aside0.mk A2360
                                    clear A2360
                                    replace H := Option.bind_eq_some_iff.mp H
                                    obtain ⟨⟨t391, t392, t393⟩, A2370, H⟩ := H
                                    replace H : (if (t391 == t385 && (t392 == t386)) = true then (if t393 = true then (none) else ((spec_Zeros.f kj216 t385 t386).bind fun t395 => (some (t388 == t395)))) else (none)) = some r := H
                                    have A237 := Aside0.mk A2370
                                    clear A2370
                                    by_cases c238 : (t391 == t385 && (t392 == t386)) = true
                                    · rw [if_pos c238] at H
                                      have c238b0 : (t391 == t385 && (t392 == t386)) = true := c238
                                      (try (have c238b1 : decide (t391 = t385 && (t392 == t386)) = true := by simpa using c238))
                                      (try (have c238b2 : (t391 == t385 && (t392 == t386)) = true := by simpa using c238))
                                      clear c238
                                      by_cases c239 : t393 = true
                                      · subst c239
                                        have H1 : (none) = some r := by rw [if_pos rfl] at H; exact H
                                        clear H
                                        have H := H1
                                        clear H1
                                        exact absurd H (by simp)
                                      · replace c239 := Bool.eq_false_iff.mpr c239
                                        subst c239
                                        have H1 : ((spec_Zeros.f kj216 t385 t386).bind fun t395 => (some (t388 == t395))) = some r := by rw [if_neg (show ¬ (false = true) by decide)] at H; exact H
                                        clear H
                                        have H := H1
                                        clear H1
                                        replace H := Option.bind_eq_some_iff.mp H
                                        obtain ⟨t395, A2400, H⟩ := H
                                        replace H : (some (t388 == t395)) = some r := H
                                        have A240 := Aside0.mk A2400
                                        clear A2400
                                        obtain rfl := Option.some.inj H
                                        go_wp2_with (first | ((with_reducible refine gate_callee (f := 35) rfl ?_); refine goesL_ (some 168) rfl rfl Try.func35 (by kernel_rfl) rfl #[.slice A0 l0.length c0] rfl (by (try simp only [List.map_toArray, List.map_cons, List.map_nil]); first | done | rfl | (simp only [List.length_drop, List.length_take]; rfl)) ?_; (with_reducible refine (spec_DrawZeros.calls kj216 _ _ l0 t385 t386 _ ?side1 ?side2 A234.out).mono ?_); (case side1 => repeat (first | exact (Kd.C_below HR0.out HB.out) | (with_reducible refine Kd.C_alloc ?_ _) | (with_reducible refine Kd.C_drewN ?_ _) | (with_reducible refine Kd.C_drew ?_))); (case side2 => exact HC0.out); rintro e w241 ⟨rfl, hb⟩; refine ⟨_, rfl, ?_⟩; have n0_ := za BK340 hb; have n1_ := za BK344 hb; have n2_ := za BK351 hb; have n3_ := za BK352 hb; have n4_ := za BK356 hb; have n5_ := za BK360 hb; have n6_ := za BK364 hb; have n7_ := za BK368 hb; have n8_ := za BK380 hb; have n9_ := Aside0.mk (below_step zb hb); clear BK340 BK344 BK351 BK352 BK356 BK360 BK364 BK368 BK380 HB; have BK340 := n0_; have BK344 := n1_; have BK351 := n2_; have BK352 := n3_; have BK356 := n4_; have BK360 := n5_; have BK364 := n6_; have BK368 := n7_; have BK380 := n8_; have HB := n9_; clear n0_ n1_ n2_ n3_ n4_ n5_ n6_ n7_ n8_ n9_; (try clear hb); (try clear hb2); (try clear hk); (try clear hi)) | ((with_reducible refine gate_dst (N := 25) rfl ?_); refine box_event ?hg (N := 25) ?hd (cs := #[.int .u64 0, .int .u64 0]) (t := 26) ?hr ?_; (case hd => rfl); (case hg => rfl); (case hr => first | (go_simp; done) | (go_simp; rfl)); intro gb387 hg w242 hbox hb; have n0_ := za BK340 hb; have n1_ := za BK344 hb; have n2_ := za BK351 hb; have n3_ := za BK352 hb; have n4_ := za BK356 hb; have n5_ := za BK360 hb; have n6_ := za BK364 hb; have n7_ := za BK368 hb; have n8_ := za BK380 hb; have n9_ := Aside0.mk (below_step zb hb); have n10_ := Aside0.mk (hbox); have n11_ := zs w hg; have n12_ := zs w hg; have n13_ := zl BK340 hg; have n14_ := zg BK340 hg; have n15_ := zl BK344 hg; have n16_ := zg BK344 hg; have n17_ := zl BK351 hg; have n18_ := zg BK351 hg; have n19_ := zl BK352 hg; have n20_ := zg BK352 hg; have n21_ := zl BK356 hg; have n22_ := zg BK356 hg; have n23_ := zl BK360 hg; have n24_ := zg BK360 hg; have n25_ := zl BK364 hg; have n26_ := zg BK364 hg; have n27_ := zl BK368 hg; have n28_ := zg BK368 hg; have n29_ := zl BK380 hg; have n30_ := zg BK380 hg; clear BK340 BK344 BK351 BK352 BK356 BK360 BK364 BK368 BK380 HB; have BK340 := n0_; have BK344 := n1_; have BK351 := n2_; have BK352 := n3_; have BK356 := n4_; have BK360 := n5_; have BK364 := n6_; have BK368 := n7_; have BK380 := n8_; have HB := n9_; have BK387 := n10_; have GW387 := n11_; have GE387 := n12_; have NB340_387 := n13_; have NB387_340 := n14_; have NB344_387 := n15_; have NB387_344 := n16_; have NB351_387 := n17_; have NB387_351 := n18_; have NB352_387 := n19_; have NB387_352 := n20_; have NB356_387 := n21_; have NB387_356 := n22_; have NB360_387 := n23_; have NB387_360 := n24_; have NB364_387 := n25_; have NB387_364 := n26_; have NB368_387 := n27_; have NB387_368 := n28_; have NB380_387 := n29_; have NB387_380 := n30_; clear n0_ n1_ n2_ n3_ n4_ n5_ n6_ n7_ n8_ n9_ n10_ n11_ n12_ n13_ n14_ n15_ n16_ n17_ n18_ n19_ n20_ n21_ n22_ n23_ n24_ n25_ n26_ n27_ n28_ n29_ n30_ hb hbox hg; have hnb243 := NB387_340.out; have hnc243 := NB340_387.out; have hnb244 := NB387_344.out; have hnc244 := NB344_387.out; have hnb245 := NB387_351.out; have hnc245 := NB351_387.out; have hnb246 := NB387_352.out; have hnc246 := NB352_387.out; have hnb247 := NB387_356.out; have hnc247 := NB356_387.out; have hnb248 := NB387_360.out; have hnc248 := NB360_387.out; have hnb249 := NB387_364.out; have hnc249 := NB364_387.out; have hnb250 := NB387_368.out; have hnc250 := NB368_387.out; have hnb251 := NB387_380.out; have hnc251 := NB380_387.out; have hcz252_0 : w242.cell? ⟨gb387, 0, none⟩ = some (.int .u64 0) := (blk_cell BK387.out 0).trans rfl; have hcz252_1 : w242.cell? ⟨gb387, 1, none⟩ = some (.int .u64 0) := (blk_cell BK387.out 1).trans rfl; have hfz252_0 := blk_frozen BK387.out 0; have hfz252_1 := blk_frozen BK387.out 1) | ((with_reducible refine gate_callee (f := 26) rfl ?_); refine goesL_ (some 170) rfl rfl Try.func26 (by kernel_rfl) rfl #[.agg #[.int .u64 t385, .int .u64 t386]] rfl (by (try simp only [List.map_toArray, List.map_cons, List.map_nil]); first | done | rfl | (simp only [List.length_drop, List.length_take]; rfl)) ?_; (with_reducible refine (impl_Zeros.calls t385 t386 t388 _ A235.out).mono ?_); rintro e w253 ⟨rfl, hb⟩; refine ⟨_, rfl, ?_⟩; have n0_ := Aside0.mk (blk_below (g := gb340) (o := .cells #[.int .u64 t338, .int .u64 t339] 26 (0, 0)) (by (with_reducible repeat (first | refine blk_drewN ?_ _ | refine blk_drew ?_ | refine blk_alloc ?_ _)); refine blk_far ?_ NB340_387.out _; (with_reducible repeat (first | refine blk_drewN ?_ _ | refine blk_drew ?_ | refine blk_alloc ?_ _)); refine blk_far ?_ NB340_387.out _; (with_reducible repeat (first | refine blk_drewN ?_ _ | refine blk_drew ?_ | refine blk_alloc ?_ _)); exact BK340.out) hb); have n1_ := Aside0.mk (blk_below (g := gb344) (o := .cells #[.int .u64 t369, .int .u64 t370] 26 (0, 0)) (by (with_reducible repeat (first | refine blk_drewN ?_ _ | refine blk_drew ?_ | refine blk_alloc ?_ _)); refine blk_far ?_ NB344_387.out _; (with_reducible repeat (first | refine blk_drewN ?_ _ | refine blk_drew ?_ | refine blk_alloc ?_ _)); refine blk_far ?_ NB344_387.out _; (with_reducible repeat (first | refine blk_drewN ?_ _ | refine blk_drew ?_ | refine blk_alloc ?_ _)); exact BK344.out) hb); have n2_ := Aside0.mk (blk_below (g := gb351) (o := .cells #[.int .u64 t347, .int .u64 t348] 26 (0, 0)) (by (with_reducible repeat (first | refine blk_drewN ?_ _ | refine blk_drew ?_ | refine blk_alloc ?_ _)); refine blk_far ?_ NB351_387.out _; (with_reducible repeat (first | refine blk_drewN ?_ _ | refine blk_drew ?_ | refine blk_alloc ?_ _)); refine blk_far ?_ NB351_387.out _; (with_reducible repeat (first | refine blk_drewN ?_ _ | refine blk_drew ?_ | refine blk_alloc ?_ _)); exact BK351.out) hb); have n3_ := Aside0.mk (blk_below (g := gb352) (o := .cells #[.int .u64 t349, .int .u64 t350] 26 (0, 0)) (by (with_reducible repeat (first | refine blk_drewN ?_ _ | refine blk_drew ?_ | refine blk_alloc ?_ _)); refine blk_far ?_ NB352_387.out _; (with_reducible repeat (first | refine blk_drewN ?_ _ | refine blk_drew ?_ | refine blk_alloc ?_ _)); refine blk_far ?_ NB352_387.out _; (with_reducible repeat (first | refine blk_drewN ?_ _ | refine blk_drew ?_ | refine blk_alloc ?_ _)); exact BK352.out) hb); have n4_ := Aside0.mk (blk_below (g := gb356) (o := .cells #[.int .u64 t353, .int .u64 t354] 26 (0, 0)) (by (with_reducible repeat (first | refine blk_drewN ?_ _ | refine blk_drew ?_ | refine blk_alloc ?_ _)); refine blk_far ?_ NB356_387.out _; (with_reducible repeat (first | refine blk_drewN ?_ _ | refine blk_drew ?_ | refine blk_alloc ?_ _)); refine blk_far ?_ NB356_387.out _; (with_reducible repeat (first | refine blk_drewN ?_ _ | refine blk_drew ?_ | refine blk_alloc ?_ _)); exact BK356.out) hb); have n5_ := Aside0.mk (blk_below (g := gb360) (o := .cells #[.int .u64 t357, .int .u64 t358] 26 (0, 0)) (by (with_reducible repeat (first | refine blk_drewN ?_ _ | refine blk_drew ?_ | refine blk_alloc ?_ _)); refine blk_far ?_ NB360_387.out _; (with_reducible repeat (first | refine blk_drewN ?_ _ | refine blk_drew ?_ | refine blk_alloc ?_ _)); refine blk_far ?_ NB360_387.out _; (with_reducible repeat (first | refine blk_drewN ?_ _ | refine blk_drew ?_ | refine blk_alloc ?_ _)); exact BK360.out) hb); have n6_ := Aside0.mk (blk_below (g := gb364) (o := .cells #[.int .u64 t361, .int .u64 t362] 26 (0, 0)) (by (with_reducible repeat (first | refine blk_drewN ?_ _ | refine blk_drew ?_ | refine blk_alloc ?_ _)); refine blk_far ?_ NB364_387.out _; (with_reducible repeat (first | refine blk_drewN ?_ _ | refine blk_drew ?_ | refine blk_alloc ?_ _)); refine blk_far ?_ NB364_387.out _; (with_reducible repeat (first | refine blk_drewN ?_ _ | refine blk_drew ?_ | refine blk_alloc ?_ _)); exact BK364.out) hb); have n7_ := Aside0.mk (blk_below (g := gb368) (o := .cells #[.int .u64 t365, .int .u64 t366] 26 (0, 0)) (by (with_reducible repeat (first | refine blk_drewN ?_ _ | refine blk_drew ?_ | refine blk_alloc ?_ _)); refine blk_far ?_ NB368_387.out _; (with_reducible repeat (first | refine blk_drewN ?_ _ | refine blk_drew ?_ | refine blk_alloc ?_ _)); refine blk_far ?_ NB368_387.out _; (with_reducible repeat (first | refine blk_drewN ?_ _ | refine blk_drew ?_ | refine blk_alloc ?_ _)); exact BK368.out) hb); have n8_ := Aside0.mk (blk_below (g := gb380) (o := .cells #[.int .u64 t378, .int .u64 t379] 26 (0, 0)) (by (with_reducible repeat (first | refine blk_drewN ?_ _ | refine blk_drew ?_ | refine blk_alloc ?_ _)); refine blk_far ?_ NB380_387.out _; (with_reducible repeat (first | refine blk_drewN ?_ _ | refine blk_drew ?_ | refine blk_alloc ?_ _)); refine blk_far ?_ NB380_387.out _; (with_reducible repeat (first | refine blk_drewN ?_ _ | refine blk_drew ?_ | refine blk_alloc ?_ _)); exact BK380.out) hb); have n9_ := Aside0.mk (blk_below (g := gb387) (o := .cells #[.int .u64 t385, .int .u64 t386] 26 (0, 0)) (by (with_reducible repeat (first | refine blk_drewN ?_ _ | refine blk_drew ?_ | refine blk_alloc ?_ _)); refine blk_put (cs := #[.int .u64 t385, .int .u64 0]) ?_ 1 _ rfl; (with_reducible repeat (first | refine blk_drewN ?_ _ | refine blk_drew ?_ | refine blk_alloc ?_ _)); refine blk_put (cs := #[.int .u64 0, .int .u64 0]) ?_ 0 _ rfl; (with_reducible repeat (first | refine blk_drewN ?_ _ | refine blk_drew ?_ | refine blk_alloc ?_ _)); exact BK387.out) hb); have n10_ := Aside0.mk (below_step zb hb); clear BK340 BK344 BK351 BK352 BK356 BK360 BK364 BK368 BK380 BK387 HB; have BK340 := n0_; have BK344 := n1_; have BK351 := n2_; have BK352 := n3_; have BK356 := n4_; have BK360 := n5_; have BK364 := n6_; have BK368 := n7_; have BK380 := n8_; have BK387 := n9_; have HB := n10_; clear n0_ n1_ n2_ n3_ n4_ n5_ n6_ n7_ n8_ n9_ n10_; (try clear hb); (try clear hb2); (try clear hk); (try clear hi); have hcz254_0 : w253.cell? ⟨gb387, 0, none⟩ = some (.int .u64 t385) := (blk_cell BK387.out 0).trans rfl; have hcz254_1 : w253.cell? ⟨gb387, 1, none⟩ = some (.int .u64 t386) := (blk_cell BK387.out 1).trans rfl; have hfz254_0 := blk_frozen BK387.out 0; have hfz254_1 := blk_frozen BK387.out 1) | ((with_reducible refine gate_callee (f := 15) rfl ?_); refine goesL_ (some 174) rfl rfl Try.func15 (by kernel_rfl) rfl #[.agg #[.int .u64 t385, .int .u64 t386], .int .i64 t388] rfl (by (try simp only [List.map_toArray, List.map_cons, List.map_nil]); first | done | rfl | (simp only [List.length_drop, List.length_take]; rfl)) ?_; (with_reducible refine (impl_ShiftLeft.calls t385 t386 t388 t389 t390 _ A236.out).mono ?_); rintro e w255 ⟨rfl, hb⟩; refine ⟨_, rfl, ?_⟩; have n0_ := za BK340 hb; have n1_ := za BK344 hb; have n2_ := za BK351 hb; have n3_ := za BK352 hb; have n4_ := za BK356 hb; have n5_ := za BK360 hb; have n6_ := za BK364 hb; have n7_ := za BK368 hb; have n8_ := za BK380 hb; have n9_ := za BK387 hb; have n10_ := Aside0.mk (below_step zb hb); clear BK340 BK344 BK351 BK352 BK356 BK360 BK364 BK368 BK380 BK387 HB; have BK340 := n0_; have BK344 := n1_; have BK351 := n2_; have BK352 := n3_; have BK356 := n4_; have BK360 := n5_; have BK364 := n6_; have BK368 := n7_; have BK380 := n8_; have BK387 := n9_; have HB := n10_; clear n0_ n1_ n2_ n3_ n4_ n5_ n6_ n7_ n8_ n9_ n10_; (try clear hb); (try clear hb2); (try clear hk); (try clear hi)) | ((with_reducible refine gate_callee (f := 24) rfl ?_); refine goesL_ (some 176) rfl rfl Try.func24 (by kernel_rfl) rfl #[.agg #[.int .u64 t389, .int .u64 t390], .int .i64 t388] rfl (by (try simp only [List.map_toArray, List.map_cons, List.map_nil]); first | done | rfl | (simp only [List.length_drop, List.length_take]; rfl)) ?_; (with_reducible refine (impl_ShiftRight.calls t389 t390 t388 t391 t392 false _ A237.out).mono ?_); rintro e w256 ⟨rfl, hb⟩; refine ⟨_, rfl, ?_⟩; have n0_ := za BK340 hb; have n1_ := za BK344 hb; have n2_ := za BK351 hb; have n3_ := za BK352 hb; have n4_ := za BK356 hb; have n5_ := za BK360 hb; have n6_ := za BK364 hb; have n7_ := za BK368 hb; have n8_ := za BK380 hb; have n9_ := za BK387 hb; have n10_ := Aside0.mk (below_step zb hb); clear BK340 BK344 BK351 BK352 BK356 BK360 BK364 BK368 BK380 BK387 HB; have BK340 := n0_; have BK344 := n1_; have BK351 := n2_; have BK352 := n3_; have BK356 := n4_; have BK360 := n5_; have BK364 := n6_; have BK368 := n7_; have BK380 := n8_; have BK387 := n9_; have HB := n10_; clear n0_ n1_ n2_ n3_ n4_ n5_ n6_ n7_ n8_ n9_ n10_; (try clear hb); (try clear hb2); (try clear hk); (try clear hi)) | ((with_reducible refine gate_dst (N := 27) rfl ?_); refine box_event ?hg (N := 27) ?hd (cs := #[.int .u64 0, .int .u64 0]) (t := 26) ?hr ?_; (case hd => rfl); (case hg => rfl); (case hr => first | (go_simp; done) | (go_simp; rfl)); intro gb394 hg w257 hbox hb; have n0_ := za BK340 hb; have n1_ := za BK344 hb; have n2_ := za BK351 hb; have n3_ := za BK352 hb; have n4_ := za BK356 hb; have n5_ := za BK360 hb; have n6_ := za BK364 hb; have n7_ := za BK368 hb; have n8_ := za BK380 hb; have n9_ := za BK387 hb; have n10_ := Aside0.mk (below_step zb hb); have n11_ := Aside0.mk (hbox); have n12_ := zs w hg; have n13_ := zs w hg; have n14_ := zl BK340 hg; have n15_ := zg BK340 hg; have n16_ := zl BK344 hg; have n17_ := zg BK344 hg; have n18_ := zl BK351 hg; have n19_ := zg BK351 hg; have n20_ := zl BK352 hg; have n21_ := zg BK352 hg; have n22_ := zl BK356 hg; have n23_ := zg BK356 hg; have n24_ := zl BK360 hg; have n25_ := zg BK360 hg; have n26_ := zl BK364 hg; have n27_ := zg BK364 hg; have n28_ := zl BK368 hg; have n29_ := zg BK368 hg; have n30_ := zl BK380 hg; have n31_ := zg BK380 hg; have n32_ := zl BK387 hg; have n33_ := zg BK387 hg; clear BK340 BK344 BK351 BK352 BK356 BK360 BK364 BK368 BK380 BK387 HB; have BK340 := n0_; have BK344 := n1_; have BK351 := n2_; have BK352 := n3_; have BK356 := n4_; have BK360 := n5_; have BK364 := n6_; have BK368 := n7_; have BK380 := n8_; have BK387 := n9_; have HB := n10_; have BK394 := n11_; have GW394 := n12_; have GE394 := n13_; have NB340_394 := n14_; have NB394_340 := n15_; have NB344_394 := n16_; have NB394_344 := n17_; have NB351_394 := n18_; have NB394_351 := n19_; have NB352_394 := n20_; have NB394_352 := n21_; have NB356_394 := n22_; have NB394_356 := n23_; have NB360_394 := n24_; have NB394_360 := n25_; have NB364_394 := n26_; have NB394_364 := n27_; have NB368_394 := n28_; have NB394_368 := n29_; have NB380_394 := n30_; have NB394_380 := n31_; have NB387_394 := n32_; have NB394_387 := n33_; clear n0_ n1_ n2_ n3_ n4_ n5_ n6_ n7_ n8_ n9_ n10_ n11_ n12_ n13_ n14_ n15_ n16_ n17_ n18_ n19_ n20_ n21_ n22_ n23_ n24_ n25_ n26_ n27_ n28_ n29_ n30_ n31_ n32_ n33_ hb hbox hg; have hnb258 := NB394_340.out; have hnc258 := NB340_394.out; have hnb259 := NB394_344.out; have hnc259 := NB344_394.out; have hnb260 := NB394_351.out; have hnc260 := NB351_394.out; have hnb261 := NB394_352.out; have hnc261 := NB352_394.out; have hnb262 := NB394_356.out; have hnc262 := NB356_394.out; have hnb263 := NB394_360.out; have hnc263 := NB360_394.out; have hnb264 := NB394_364.out; have hnc264 := NB364_394.out; have hnb265 := NB394_368.out; have hnc265 := NB368_394.out; have hnb266 := NB394_380.out; have hnc266 := NB380_394.out; have hnb267 := NB394_387.out; have hnc267 := NB387_394.out; have hcz268_0 : w257.cell? ⟨gb394, 0, none⟩ = some (.int .u64 0) := (blk_cell BK394.out 0).trans rfl; have hcz268_1 : w257.cell? ⟨gb394, 1, none⟩ = some (.int .u64 0) := (blk_cell BK394.out 1).trans rfl; have hfz268_0 := blk_frozen BK394.out 0; have hfz268_1 := blk_frozen BK394.out 1; have hcz269_0 : w257.cell? ⟨gb387, 0, none⟩ = some (.int .u64 t385) := (blk_cell BK387.out 0).trans rfl; have hcz269_1 : w257.cell? ⟨gb387, 1, none⟩ = some (.int .u64 t386) := (blk_cell BK387.out 1).trans rfl; have hfz269_0 := blk_frozen BK387.out 0; have hfz269_1 := blk_frozen BK387.out 1) | (go_at_call 25; (with_reducible refine (spec_Zeros.calls kj216 t385 t386 t395 _ A240.out).mono ?_); rintro e w270 ⟨rfl, hb⟩; have n0_ := Aside0.mk (blk_below (g := gb340) (o := .cells #[.int .u64 t338, .int .u64 t339] 26 (0, 0)) (by (with_reducible repeat (first | refine blk_drewN ?_ _ | refine blk_drew ?_ | refine blk_alloc ?_ _)); refine blk_far ?_ NB340_394.out _; (with_reducible repeat (first | refine blk_drewN ?_ _ | refine blk_drew ?_ | refine blk_alloc ?_ _)); refine blk_far ?_ NB340_394.out _; (with_reducible repeat (first | refine blk_drewN ?_ _ | refine blk_drew ?_ | refine blk_alloc ?_ _)); exact BK340.out) hb); have n1_ := Aside0.mk (blk_below (g := gb344) (o := .cells #[.int .u64 t369, .int .u64 t370] 26 (0, 0)) (by (with_reducible repeat (first | refine blk_drewN ?_ _ | refine blk_drew ?_ | refine blk_alloc ?_ _)); refine blk_far ?_ NB344_394.out _; (with_reducible repeat (first | refine blk_drewN ?_ _ | refine blk_drew ?_ | refine blk_alloc ?_ _)); refine blk_far ?_ NB344_394.out _; (with_reducible repeat (first | refine blk_drewN ?_ _ | refine blk_drew ?_ | refine blk_alloc ?_ _)); exact BK344.out) hb); have n2_ := Aside0.mk (blk_below (g := gb351) (o := .cells #[.int .u64 t347, .int .u64 t348] 26 (0, 0)) (by (with_reducible repeat (first | refine blk_drewN ?_ _ | refine blk_drew ?_ | refine blk_alloc ?_ _)); refine blk_far ?_ NB351_394.out _; (with_reducible repeat (first | refine blk_drewN ?_ _ | refine blk_drew ?_ | refine blk_alloc ?_ _)); refine blk_far ?_ NB351_394.out _; (with_reducible repeat (first | refine blk_drewN ?_ _ | refine blk_drew ?_ | refine blk_alloc ?_ _)); exact BK351.out) hb); have n3_ := Aside0.mk (blk_below (g := gb352) (o := .cells #[.int .u64 t349, .int .u64 t350] 26 (0, 0)) (by (with_reducible repeat (first | refine blk_drewN ?_ _ | refine blk_drew ?_ | refine blk_alloc ?_ _)); refine blk_far ?_ NB352_394.out _; (with_reducible repeat (first | refine blk_drewN ?_ _ | refine blk_drew ?_ | refine blk_alloc ?_ _)); refine blk_far ?_ NB352_394.out _; (with_reducible repeat (first | refine blk_drewN ?_ _ | refine blk_drew ?_ | refine blk_alloc ?_ _)); exact BK352.out) hb); have n4_ := Aside0.mk (blk_below (g := gb356) (o := .cells #[.int .u64 t353, .int .u64 t354] 26 (0, 0)) (by (with_reducible repeat (first | refine blk_drewN ?_ _ | refine blk_drew ?_ | refine blk_alloc ?_ _)); refine blk_far ?_ NB356_394.out _; (with_reducible repeat (first | refine blk_drewN ?_ _ | refine blk_drew ?_ | refine blk_alloc ?_ _)); refine blk_far ?_ NB356_394.out _; (with_reducible repeat (first | refine blk_drewN ?_ _ | refine blk_drew ?_ | refine blk_alloc ?_ _)); exact BK356.out) hb); have n5_ := Aside0.mk (blk_below (g := gb360) (o := .cells #[.int .u64 t357, .int .u64 t358] 26 (0, 0)) (by (with_reducible repeat (first | refine blk_drewN ?_ _ | refine blk_drew ?_ | refine blk_alloc ?_ _)); refine blk_far ?_ NB360_394.out _; (with_reducible repeat (first | refine blk_drewN ?_ _ | refine blk_drew ?_ | refine blk_alloc ?_ _)); refine blk_far ?_ NB360_394.out _; (with_reducible repeat (first | refine blk_drewN ?_ _ | refine blk_drew ?_ | refine blk_alloc ?_ _)); exact BK360.out) hb); have n6_ := Aside0.mk (blk_below (g := gb364) (o := .cells #[.int .u64 t361, .int .u64 t362] 26 (0, 0)) (by (with_reducible repeat (first | refine blk_drewN ?_ _ | refine blk_drew ?_ | refine blk_alloc ?_ _)); refine blk_far ?_ NB364_394.out _; (with_reducible repeat (first | refine blk_drewN ?_ _ | refine blk_drew ?_ | refine blk_alloc ?_ _)); refine blk_far ?_ NB364_394.out _; (with_reducible repeat (first | refine blk_drewN ?_ _ | refine blk_drew ?_ | refine blk_alloc ?_ _)); exact BK364.out) hb); have n7_ := Aside0.mk (blk_below (g := gb368) (o := .cells #[.int .u64 t365, .int .u64 t366] 26 (0, 0)) (by (with_reducible repeat (first | refine blk_drewN ?_ _ | refine blk_drew ?_ | refine blk_alloc ?_ _)); refine blk_far ?_ NB368_394.out _; (with_reducible repeat (first | refine blk_drewN ?_ _ | refine blk_drew ?_ | refine blk_alloc ?_ _)); refine blk_far ?_ NB368_394.out _; (with_reducible repeat (first | refine blk_drewN ?_ _ | refine blk_drew ?_ | refine blk_alloc ?_ _)); exact BK368.out) hb); have n8_ := Aside0.mk (blk_below (g := gb380) (o := .cells #[.int .u64 t378, .int .u64 t379] 26 (0, 0)) (by (with_reducible repeat (first | refine blk_drewN ?_ _ | refine blk_drew ?_ | refine blk_alloc ?_ _)); refine blk_far ?_ NB380_394.out _; (with_reducible repeat (first | refine blk_drewN ?_ _ | refine blk_drew ?_ | refine blk_alloc ?_ _)); refine blk_far ?_ NB380_394.out _; (with_reducible repeat (first | refine blk_drewN ?_ _ | refine blk_drew ?_ | refine blk_alloc ?_ _)); exact BK380.out) hb); have n9_ := Aside0.mk (blk_below (g := gb387) (o := .cells #[.int .u64 t385, .int .u64 t386] 26 (0, 0)) (by (with_reducible repeat (first | refine blk_drewN ?_ _ | refine blk_drew ?_ | refine blk_alloc ?_ _)); refine blk_far ?_ NB387_394.out _; (with_reducible repeat (first | refine blk_drewN ?_ _ | refine blk_drew ?_ | refine blk_alloc ?_ _)); refine blk_far ?_ NB387_394.out _; (with_reducible repeat (first | refine blk_drewN ?_ _ | refine blk_drew ?_ | refine blk_alloc ?_ _)); exact BK387.out) hb); have n10_ := Aside0.mk (blk_below (g := gb394) (o := .cells #[.int .u64 t391, .int .u64 t392] 26 (0, 0)) (by (with_reducible repeat (first | refine blk_drewN ?_ _ | refine blk_drew ?_ | refine blk_alloc ?_ _)); refine blk_put (cs := #[.int .u64 t391, .int .u64 0]) ?_ 1 _ rfl; (with_reducible repeat (first | refine blk_drewN ?_ _ | refine blk_drew ?_ | refine blk_alloc ?_ _)); refine blk_put (cs := #[.int .u64 0, .int .u64 0]) ?_ 0 _ rfl; (with_reducible repeat (first | refine blk_drewN ?_ _ | refine blk_drew ?_ | refine blk_alloc ?_ _)); exact BK394.out) hb); have n11_ := Aside0.mk (below_step zb hb); clear BK340 BK344 BK351 BK352 BK356 BK360 BK364 BK368 BK380 BK387 BK394 HB; have BK340 := n0_; have BK344 := n1_; have BK351 := n2_; have BK352 := n3_; have BK356 := n4_; have BK360 := n5_; have BK364 := n6_; have BK368 := n7_; have BK380 := n8_; have BK387 := n9_; have BK394 := n10_; have HB := n11_; clear n0_ n1_ n2_ n3_ n4_ n5_ n6_ n7_ n8_ n9_ n10_ n11_; (try clear hb); (try clear hb2); (try clear hk); (try clear hi)))
                                        go_ret
                                        exact ⟨by first | rfl | (simp [errW_none, errW_some] <;> rfl) | (simp [*, errW_none, errW_some] <;> rfl), zb⟩
                                    · rw [if_neg c238] at H
                                      exact absurd H (by simp)

end Go.Proofs.Ytbcjhnhkpbcmcaa.PA
