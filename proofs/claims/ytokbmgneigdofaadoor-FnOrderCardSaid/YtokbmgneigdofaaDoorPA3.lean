-- Written by gprint.py (this session's program) through the kit's print.py. Lean checks it.
import Derived.Test.YtokbmgneigdofaaDoorPA0
import Derived.Test.YtokbmgneigdofaaDoorPA2
namespace Go.Proofs.YtokbmgneigdofaaDoor.PA
open Go.Proofs.YtokbmgneigdofaaDoorW.Z
open Go.Proofs.YtokbmgneigdofaaDoor.Given
open Go.RowKit Go.Proofs.YtokbmgneigdofaaDoorW.PrintWords Go.Proofs.YtokbmgneigdofaaDoorW.PrintLast
set_option linter.unusedVariables false
set_option linter.unusedSimpArgs false

/-! ### impl_Unpack: function 10 -/
mutual
def impl_Unpack.j0 : Nat → Int → Bool → Int → Int → Int → Option (Int × Int × Int × Int)
  | 0, _, _, _, _, _ => none
  | k + 1, x1, x20, x139000, x139001, x139002 => if x20 = true then (some (4, 0, 0, 0)) else ((impl_format_width.f x139000 x139001 x139002).bind fun t141 => (if 0 ≤ (wrap64 (t141 - 1)) then (if 0 ≤ (wrap64 (x139000 - 1)) then ((impl_format_allExp.f x139000 x139001 x139002).bind fun t142 => ((impl_format_allExp.f x139000 x139001 x139002).bind fun t143 => (if (Go.bits .and .u64 (shr .u64 x1 (wrap64 (x139000 - 1))) t142) = t143 then (impl_Unpack.j1 k (wrap64 (shr .u64 x1 (wrap64 (t141 - 1)))) (Go.bits .and .u64 (shr .u64 x1 (wrap64 (x139000 - 1))) t142) (Go.bits .and .u64 x1 (IntKind.u64.wrap ((shl .u64 1 (wrap64 (x139000 - 1))) - 1))) ((Go.bits .and .u64 x1 (IntKind.u64.wrap ((shl .u64 1 (wrap64 (x139000 - 1))) - 1))) == 0) x139000 x139001 x139002) else (impl_Unpack.j1 k (wrap64 (shr .u64 x1 (wrap64 (t141 - 1)))) (Go.bits .and .u64 (shr .u64 x1 (wrap64 (x139000 - 1))) t142) (Go.bits .and .u64 x1 (IntKind.u64.wrap ((shl .u64 1 (wrap64 (x139000 - 1))) - 1))) false x139000 x139001 x139002)))) else (none)) else (none)))
def impl_Unpack.j1 : Nat → Int → Int → Int → Bool → Int → Int → Int → Option (Int × Int × Int × Int)
  | 0, _, _, _, _, _, _, _ => none
  | k + 1, x6, x7, x8, x43, x139000, x139001, x139002 => if x43 = true then (some (2, x6, 0, 0)) else ((impl_format_allExp.f x139000 x139001 x139002).bind fun t144 => (if x7 = t144 then (if 0 ≤ (wrap64 (x139000 - 2)) then (impl_Unpack.j2 k x6 x7 x8 ((shr .u64 x8 (wrap64 (x139000 - 2))) == 1) x139000 x139001 x139002) else (none)) else (impl_Unpack.j2 k x6 x7 x8 false x139000 x139001 x139002)))
def impl_Unpack.j2 : Nat → Int → Int → Int → Bool → Int → Int → Int → Option (Int × Int × Int × Int)
  | 0, _, _, _, _, _, _, _ => none
  | k + 1, x6, x7, x8, x54, x139000, x139001, x139002 => if x54 = true then (some (3, x6, 0, 0)) else ((impl_format_allExp.f x139000 x139001 x139002).bind fun t145 => (if x7 = t145 then (some (4, x6, 0, 0)) else (if x7 = 0 then (impl_Unpack.j3 k x6 x7 x8 (x8 == 0) x139000 x139001 x139002) else (impl_Unpack.j3 k x6 x7 x8 false x139000 x139001 x139002))))
def impl_Unpack.j3 : Nat → Int → Int → Int → Bool → Int → Int → Int → Option (Int × Int × Int × Int)
  | 0, _, _, _, _, _, _, _ => none
  | k + 1, x6, x7, x8, x76, x139000, x139001, x139002 => if x76 = true then (some (0, x6, 0, 0)) else (if x7 > 0 then (if 0 ≤ (wrap64 (x139000 - 1)) then (some (1, x6, wrap64 ((wrap64 ((wrap64 ((wrap64 ((wrap64 (x7)) - 1)) + x139001)) - x139000)) + 1), Go.bits .or .u64 x8 (shl .u64 1 (wrap64 (x139000 - 1))))) else (none)) else ((impl_Zeros.f 0 x8).bind fun t146 => (if 0 ≤ (wrap64 (t146 - (wrap64 (128 - x139000)))) then (some (1, x6, wrap64 ((wrap64 ((wrap64 (x139001 - x139000)) + 1)) - (wrap64 (t146 - (wrap64 (128 - x139000))))), shl .u64 x8 (wrap64 (t146 - (wrap64 (128 - x139000)))))) else (none))))
end
def impl_Unpack.f (k : Nat) (a0 : Int) (a1 : Int) : Option (Int × Int × Int × Int) := (impl_formatOf.f a0).bind fun bt135 => ((impl_goodFormat.f a0).bind fun t139 => (if t139 = true then ((impl_format_fits.f bt135.1 bt135.2.1 bt135.2.2 a1).bind fun t140 => (impl_Unpack.j0 k a1 (!t140) bt135.1 bt135.2.1 bt135.2.2)) else (impl_Unpack.j0 k a1 true bt135.1 bt135.2.1 bt135.2.2)))
theorem impl_Unpack.mono_l : ∀ k, (∀ y0 y1 y2 y3 y4, LeO (impl_Unpack.j0 k y0 y1 y2 y3 y4) (impl_Unpack.j0 (k + 1) y0 y1 y2 y3 y4)) ∧ (∀ y0 y1 y2 y3 y4 y5 y6, LeO (impl_Unpack.j1 k y0 y1 y2 y3 y4 y5 y6) (impl_Unpack.j1 (k + 1) y0 y1 y2 y3 y4 y5 y6)) ∧ (∀ y0 y1 y2 y3 y4 y5 y6, LeO (impl_Unpack.j2 k y0 y1 y2 y3 y4 y5 y6) (impl_Unpack.j2 (k + 1) y0 y1 y2 y3 y4 y5 y6)) ∧ (∀ y0 y1 y2 y3 y4 y5 y6, LeO (impl_Unpack.j3 k y0 y1 y2 y3 y4 y5 y6) (impl_Unpack.j3 (k + 1) y0 y1 y2 y3 y4 y5 y6))
  | 0 => ⟨fun _ _ _ _ _ r h => by simp [impl_Unpack.j0] at h, fun _ _ _ _ _ _ _ r h => by simp [impl_Unpack.j1] at h, fun _ _ _ _ _ _ _ r h => by simp [impl_Unpack.j2] at h, fun _ _ _ _ _ _ _ r h => by simp [impl_Unpack.j3] at h⟩
  | k + 1 => by
    obtain ⟨ih0, ih1, ih2, ih3⟩ := impl_Unpack.mono_l k
    refine ⟨?_, ?_, ?_, ?_⟩
    · intro y0 y1 y2 y3 y4
      unfold impl_Unpack.j0
      repeat' first
      | (with_reducible exact ih0 _ _ _ _ _)
      | (with_reducible exact ih1 _ _ _ _ _ _ _)
      | (with_reducible exact ih2 _ _ _ _ _ _ _)
      | (with_reducible exact ih3 _ _ _ _ _ _ _)
      | (with_reducible exact LeO.refl _)
      | (with_reducible exact LeO.none _)
      | (with_reducible refine LeO.ite ?_ ?_)
      | (with_reducible refine LeO.bind ?_ (fun _ => ?_))
      | exact ih0 _ _ _ _ _
      | exact ih1 _ _ _ _ _ _ _
      | exact ih2 _ _ _ _ _ _ _
      | exact ih3 _ _ _ _ _ _ _
      | exact LeO.none _
      | refine LeO.ite ?_ ?_
      | refine LeO.bind ?_ (fun _ => ?_)
    · intro y0 y1 y2 y3 y4 y5 y6
      unfold impl_Unpack.j1
      repeat' first
      | (with_reducible exact ih0 _ _ _ _ _)
      | (with_reducible exact ih1 _ _ _ _ _ _ _)
      | (with_reducible exact ih2 _ _ _ _ _ _ _)
      | (with_reducible exact ih3 _ _ _ _ _ _ _)
      | (with_reducible exact LeO.refl _)
      | (with_reducible exact LeO.none _)
      | (with_reducible refine LeO.ite ?_ ?_)
      | (with_reducible refine LeO.bind ?_ (fun _ => ?_))
      | exact ih0 _ _ _ _ _
      | exact ih1 _ _ _ _ _ _ _
      | exact ih2 _ _ _ _ _ _ _
      | exact ih3 _ _ _ _ _ _ _
      | exact LeO.none _
      | refine LeO.ite ?_ ?_
      | refine LeO.bind ?_ (fun _ => ?_)
    · intro y0 y1 y2 y3 y4 y5 y6
      unfold impl_Unpack.j2
      repeat' first
      | (with_reducible exact ih0 _ _ _ _ _)
      | (with_reducible exact ih1 _ _ _ _ _ _ _)
      | (with_reducible exact ih2 _ _ _ _ _ _ _)
      | (with_reducible exact ih3 _ _ _ _ _ _ _)
      | (with_reducible exact LeO.refl _)
      | (with_reducible exact LeO.none _)
      | (with_reducible refine LeO.ite ?_ ?_)
      | (with_reducible refine LeO.bind ?_ (fun _ => ?_))
      | exact ih0 _ _ _ _ _
      | exact ih1 _ _ _ _ _ _ _
      | exact ih2 _ _ _ _ _ _ _
      | exact ih3 _ _ _ _ _ _ _
      | exact LeO.none _
      | refine LeO.ite ?_ ?_
      | refine LeO.bind ?_ (fun _ => ?_)
    · intro y0 y1 y2 y3 y4 y5 y6
      unfold impl_Unpack.j3
      repeat' first
      | (with_reducible exact ih0 _ _ _ _ _)
      | (with_reducible exact ih1 _ _ _ _ _ _ _)
      | (with_reducible exact ih2 _ _ _ _ _ _ _)
      | (with_reducible exact ih3 _ _ _ _ _ _ _)
      | (with_reducible exact LeO.refl _)
      | (with_reducible exact LeO.none _)
      | (with_reducible refine LeO.ite ?_ ?_)
      | (with_reducible refine LeO.bind ?_ (fun _ => ?_))
      | exact ih0 _ _ _ _ _
      | exact ih1 _ _ _ _ _ _ _
      | exact ih2 _ _ _ _ _ _ _
      | exact ih3 _ _ _ _ _ _ _
      | exact LeO.none _
      | refine LeO.ite ?_ ?_
      | refine LeO.bind ?_ (fun _ => ?_)
theorem impl_Unpack.mono : ∀ a0 a1 k, LeO (impl_Unpack.f k a0 a1) (impl_Unpack.f (k + 1) a0 a1) := by
  intro a0 a1 k
  obtain ⟨ih0, ih1, ih2, ih3⟩ := impl_Unpack.mono_l k
  unfold impl_Unpack.f
  repeat' first
      | (with_reducible exact ih0 _ _ _ _ _)
      | (with_reducible exact ih1 _ _ _ _ _ _ _)
      | (with_reducible exact ih2 _ _ _ _ _ _ _)
      | (with_reducible exact ih3 _ _ _ _ _ _ _)
      | (with_reducible exact LeO.refl _)
      | (with_reducible exact LeO.none _)
      | (with_reducible refine LeO.ite ?_ ?_)
      | (with_reducible refine LeO.bind ?_ (fun _ => ?_))
      | exact ih0 _ _ _ _ _
      | exact ih1 _ _ _ _ _ _ _
      | exact ih2 _ _ _ _ _ _ _
      | exact ih3 _ _ _ _ _ _ _
      | exact LeO.none _
      | refine LeO.ite ?_ ?_
      | refine LeO.bind ?_ (fun _ => ?_)
def impl_Unpack.T5 : Bool × List (List Nat × List Nat) := (true, [([], []), ([], []), ([1], [1]), ([2], [2]), ([0, 3], [0, 3]), ([], []), ([5], [5]), ([4, 6], [4, 6]), ([7, 6, 0, 1, 2, 3, 4, 5, 6, 7], [7])])
def impl_Unpack.B5 : List Nat := [0, 0, 2, 6, 15, 0, 32, 127, 255]
theorem impl_Unpack.tab5 : rtab .any (opsOf Tryd.f10 5) = impl_Unpack.T5 := by kernel_rfl
theorem impl_Unpack.bits5 : waitsOk impl_Unpack.T5.2 impl_Unpack.B5 = true := by kernel_rfl
def impl_Unpack.T16 : Bool × List (List Nat × List Nat) := (true, [([], []), ([], []), ([1], [1]), ([2], [2]), ([], []), ([4], [4]), ([3, 5], [3, 5]), ([], []), ([7], [7]), ([6, 8], [6, 8]), ([9], [9]), ([], []), ([], []), ([12], [12]), ([13], [13]), ([14], [14]), ([11, 15], [11, 15]), ([0, 10, 16], [0, 10, 16]), ([17, 0, 1, 2, 3, 4, 5, 6, 7, 8, 9, 10, 11, 12, 13, 14, 15, 16, 17], [17])])
def impl_Unpack.B16 : List Nat := [0, 0, 2, 6, 0, 16, 62, 0, 128, 510, 1022, 0, 0, 4096, 12288, 28672, 63488, 131071, 262143]
theorem impl_Unpack.tab16 : rtab .any (opsOf Tryd.f10 16) = impl_Unpack.T16 := by kernel_rfl
theorem impl_Unpack.bits16 : waitsOk impl_Unpack.T16.2 impl_Unpack.B16 = true := by kernel_rfl
def impl_Unpack.T17 : Bool × List (List Nat × List Nat) := (true, [([], []), ([0], [0]), ([1], [1]), ([], []), ([3], [3]), ([4], [4]), ([2, 5], [2, 5]), ([6, 2, 0, 1, 2, 3, 4, 5, 6], [6])])
def impl_Unpack.B17 : List Nat := [0, 1, 3, 0, 8, 24, 63, 127]
theorem impl_Unpack.tab17 : rtab .any (opsOf Tryd.f10 17) = impl_Unpack.T17 := by kernel_rfl
theorem impl_Unpack.bits17 : waitsOk impl_Unpack.T17.2 impl_Unpack.B17 = true := by kernel_rfl
def impl_Unpack.T18 : Bool × List (List Nat × List Nat) := (true, [([], []), ([], []), ([1], [1]), ([], []), ([3], [3]), ([2, 4], [2, 4]), ([5], [5]), ([], []), ([6, 7], [6, 7]), ([], []), ([], []), ([9, 10], [9, 10]), ([0, 8, 11], [0, 8, 11]), ([12, 0, 1, 2, 3, 4, 5, 6, 7, 8, 9, 10, 11, 12], [12])])
def impl_Unpack.B18 : List Nat := [0, 0, 2, 0, 8, 30, 62, 0, 254, 0, 0, 1536, 4095, 8191]
theorem impl_Unpack.tab18 : rtab .any (opsOf Tryd.f10 18) = impl_Unpack.T18 := by kernel_rfl
theorem impl_Unpack.bits18 : waitsOk impl_Unpack.T18.2 impl_Unpack.B18 = true := by kernel_rfl
set_option maxHeartbeats 8000000 in
set_option maxRecDepth 100000 in
theorem impl_Unpack.calls (k : Nat) (a0 : Int) (a1 : Int) (r1 : Int) (r2 : Int) (r3 : Int) (r4 : Int) (w : World) (hGformats : Gformats w) (h : impl_Unpack.f k a0 a1 = some (r1, r2, r3, r4)) :
    Calls Tryd.prog 10 #[.int .i64 a0, .int .u64 a1] w fun e w' => e = .returned (.agg #[.int .i64 r1, .int .i64 r2, .int .i64 r3, .int .u64 r4]) ∧ Below w.heap.size w w' := by
  have hu24 := Tryd.underlying24
  have hu45 := Tryd.underlying45
  have hu53 := Tryd.underlying53
  have HB := Aside0.mk (Below.refl w.heap.size w)
  have H : ((impl_formatOf.f a0).bind fun bt135 => ((impl_goodFormat.f a0).bind fun t139 => (if t139 = true then ((impl_format_fits.f bt135.1 bt135.2.1 bt135.2.2 a1).bind fun t140 => (impl_Unpack.j0 k a1 (!t140) bt135.1 bt135.2.1 bt135.2.2)) else (impl_Unpack.j0 k a1 true bt135.1 bt135.2.1 bt135.2.2)))) = some (r1, r2, r3, r4) := h
  clear h
  replace H := Option.bind_eq_some_iff.mp H
  obtain ⟨⟨t135, t136, t137⟩, A30, H⟩ := H
  replace H : ((impl_goodFormat.f a0).bind fun t139 => (if t139 = true then ((impl_format_fits.f t135 t136 t137 a1).bind fun t140 => (impl_Unpack.j0 k a1 (!t140) t135 t136 t137)) else (impl_Unpack.j0 k a1 true t135 t136 t137))) = some (r1, r2, r3, r4) := H
  have A3 := Aside0.mk A30
  clear A30
  have HC4 := Aside0.mk H
  clear H
  go_enter Tryd.func10, Tryd.ntmps10
  go_upto_region 2 with (first | ((with_reducible refine gate_dst (N := 4) rfl ?_); refine box_event ?hg (N := 4) ?hd (cs := #[.int .i64 0, .int .i64 0, .int .i64 0, .int .u64 0]) (t := 24) ?hr ?_; (case hd => rfl); (case hg => rfl); (case hr => first | (go_simp; done) | (go_simp; rfl)); intro gb134 hg w5 hbox hb; have n0_ := Aside0.mk (below_step zb hb); have n1_ := Aside0.mk (hbox); have n2_ := zs w hg; have n3_ := zs w hg; clear HB; have HB := n0_; have BK134 := n1_; have GW134 := n2_; have GE134 := n3_; clear n0_ n1_ n2_ n3_ hb hbox hg) | ((with_reducible refine gate_callee (f := 30) rfl ?_); refine goesL_ (some 11) rfl rfl Tryd.func30 (by kernel_rfl) rfl #[.int .i64 a0] rfl (by (try simp only [List.map_toArray, List.map_cons, List.map_nil]); first | done | rfl | (simp only [List.length_drop, List.length_take]; rfl)) ?_; (with_reducible refine (impl_formatOf.calls a0 t135 t136 t137 _ ?side1 A3.out).mono ?_); (case side1 => exact Gformats.below hGformats zb); rintro e w6 ⟨rfl, hb⟩; refine ⟨_, rfl, ?_⟩; have n0_ := za BK134 hb; have n1_ := Aside0.mk (below_step zb hb); clear BK134 HB; have BK134 := n0_; have HB := n1_; clear n0_ n1_; (try clear hb); (try clear hb2); (try clear hk); (try clear hi)) | ((with_reducible refine gate_dst (N := 5) rfl ?_); refine box_event ?hg (N := 5) ?hd (cs := #[.int .i64 0, .int .i64 0, .int .i64 0]) (t := 45) ?hr ?_; (case hd => rfl); (case hg => rfl); (case hr => first | (go_simp; done) | (go_simp; rfl)); intro gb138 hg w7 hbox hb; have n0_ := za BK134 hb; have n1_ := Aside0.mk (below_step zb hb); have n2_ := Aside0.mk (hbox); have n3_ := zs w hg; have n4_ := zs w hg; have n5_ := zl BK134 hg; have n6_ := zg BK134 hg; clear BK134 HB; have BK134 := n0_; have HB := n1_; have BK138 := n2_; have GW138 := n3_; have GE138 := n4_; have NB134_138 := n5_; have NB138_134 := n6_; clear n0_ n1_ n2_ n3_ n4_ n5_ n6_ hb hbox hg; have hnb8 := NB138_134.out; have hnc8 := NB134_138.out; have hcz9_0 : w7.cell? ⟨gb138, 0, none⟩ = some (.int .i64 0) := (blk_cell BK138.out 0).trans rfl; have hcz9_1 : w7.cell? ⟨gb138, 1, none⟩ = some (.int .i64 0) := (blk_cell BK138.out 1).trans rfl; have hcz9_2 : w7.cell? ⟨gb138, 2, none⟩ = some (.int .i64 0) := (blk_cell BK138.out 2).trans rfl; have hfz9_0 := blk_frozen BK138.out 0; have hfz9_1 := blk_frozen BK138.out 1; have hfz9_2 := blk_frozen BK138.out 2))
  (try simp only [Act.put, List.setIfInBounds_toArray, List.set_cons_zero, List.set_cons_succ])
  go_cut [20] (fun v20 wc => ∃ (kq : Nat) (x20_3 : Bool), v20 = .bool x20_3 ∧ Aside0 (impl_Unpack.j0 kq a1 x20_3 t135 t136 t137 = some (r1, r2, r3, r4)) ∧ Aside0 (kq ≤ k) ∧ Aside0 (wc.heap[gb134]? = some (.cells #[.int .i64 0, .int .i64 0, .int .i64 0, .int .u64 0] 24 (0, 0))) ∧ Aside0 (wc.heap[gb138]? = some (.cells #[.int .i64 t135, .int .i64 t136, .int .i64 t137] 45 (0, 0))) ∧ Aside0 (Below w.heap.size w wc))
  case first =>
    have H := HC4.out
    clear HC4
    replace H := Option.bind_eq_some_iff.mp H
    obtain ⟨t139, A100, H⟩ := H
    replace H : (if t139 = true then ((impl_format_fits.f t135 t136 t137 a1).bind fun t140 => (impl_Unpack.j0 k a1 (!t140) t135 t136 t137)) else (impl_Unpack.j0 k a1 true t135 t136 t137)) = some (r1, r2, r3, r4) := H
    have A10 := Aside0.mk A100
    clear A100
    by_cases c11 : t139 = true
    · subst c11
      have H1 : ((impl_format_fits.f t135 t136 t137 a1).bind fun t140 => (impl_Unpack.j0 k a1 (!t140) t135 t136 t137)) = some (r1, r2, r3, r4) := by rw [if_pos rfl] at H; exact H
      clear H
      have H := H1
      clear H1
      replace H := Option.bind_eq_some_iff.mp H
      obtain ⟨t140, A120, H⟩ := H
      replace H : (impl_Unpack.j0 k a1 (!t140) t135 t136 t137) = some (r1, r2, r3, r4) := H
      have A12 := Aside0.mk A120
      clear A120
      have H' := Aside0.mk H
      clear H
      go_wp2_with (first | ((with_reducible refine gate_callee (f := 31) rfl ?_); refine goesL_ (some 13) rfl rfl Tryd.func31 (by kernel_rfl) rfl #[.int .i64 a0] rfl (by (try simp only [List.map_toArray, List.map_cons, List.map_nil]); first | done | rfl | (simp only [List.length_drop, List.length_take]; rfl)) ?_; (with_reducible refine (impl_goodFormat.calls a0 true _ A10.out).mono ?_); rintro e w' ⟨rfl, ⟨nd, rfl⟩⟩; refine ⟨_, rfl, ?_⟩; have hnb13 := NB138_134.out; have hnc13 := NB134_138.out; have hcz14_0 : w7.cell? ⟨gb138, 0, none⟩ = some (.int .i64 0) := (blk_cell BK138.out 0).trans rfl; have hcz14_1 : w7.cell? ⟨gb138, 1, none⟩ = some (.int .i64 0) := (blk_cell BK138.out 1).trans rfl; have hcz14_2 : w7.cell? ⟨gb138, 2, none⟩ = some (.int .i64 0) := (blk_cell BK138.out 2).trans rfl; have hfz14_0 := blk_frozen BK138.out 0; have hfz14_1 := blk_frozen BK138.out 1; have hfz14_2 := blk_frozen BK138.out 2) | (go_at_call 32; (with_reducible refine (impl_format_fits.calls t135 t136 t137 a1 t140 _ A12.out).mono ?_); rintro e w15 ⟨rfl, hb⟩; have n0_ := Aside0.mk (blk_below (g := gb134) (o := .cells #[.int .i64 0, .int .i64 0, .int .i64 0, .int .u64 0] 24 (0, 0)) (by (with_reducible repeat (first | refine blk_drewN ?_ _ | refine blk_drew ?_ | refine blk_alloc ?_ _)); refine blk_far ?_ NB134_138.out _; (with_reducible repeat (first | refine blk_drewN ?_ _ | refine blk_drew ?_ | refine blk_alloc ?_ _)); refine blk_far ?_ NB134_138.out _; (with_reducible repeat (first | refine blk_drewN ?_ _ | refine blk_drew ?_ | refine blk_alloc ?_ _)); refine blk_far ?_ NB134_138.out _; (with_reducible repeat (first | refine blk_drewN ?_ _ | refine blk_drew ?_ | refine blk_alloc ?_ _)); exact BK134.out) hb); have n1_ := Aside0.mk (blk_below (g := gb138) (o := .cells #[.int .i64 t135, .int .i64 t136, .int .i64 t137] 45 (0, 0)) (by (with_reducible repeat (first | refine blk_drewN ?_ _ | refine blk_drew ?_ | refine blk_alloc ?_ _)); refine blk_put (cs := #[.int .i64 t135, .int .i64 t136, .int .i64 0]) ?_ 2 _ rfl; (with_reducible repeat (first | refine blk_drewN ?_ _ | refine blk_drew ?_ | refine blk_alloc ?_ _)); refine blk_put (cs := #[.int .i64 t135, .int .i64 0, .int .i64 0]) ?_ 1 _ rfl; (with_reducible repeat (first | refine blk_drewN ?_ _ | refine blk_drew ?_ | refine blk_alloc ?_ _)); refine blk_put (cs := #[.int .i64 0, .int .i64 0, .int .i64 0]) ?_ 0 _ rfl; (with_reducible repeat (first | refine blk_drewN ?_ _ | refine blk_drew ?_ | refine blk_alloc ?_ _)); exact BK138.out) hb); have n2_ := Aside0.mk (below_step zb hb); clear BK134 BK138 HB; have BK134 := n0_; have BK138 := n1_; have HB := n2_; clear n0_ n1_ n2_; (try clear hb); (try clear hb2); (try clear hk); (try clear hi)))
      go_meet
      case rel => exact ⟨_, (!t140), (by first | rfl | (simp; done) | (simp [*]; done)), H', ⟨by first | omega | exact Nat.le_refl _⟩, ⟨zk⟩, ⟨zk⟩, ⟨zb⟩⟩
    · replace c11 := Bool.eq_false_iff.mpr c11
      subst c11
      have H1 : (impl_Unpack.j0 k a1 true t135 t136 t137) = some (r1, r2, r3, r4) := by rw [if_neg (show ¬ (false = true) by decide)] at H; exact H
      clear H
      have H := H1
      clear H1
      have H' := Aside0.mk H
      clear H
      go_wp2_with (first | ((with_reducible refine gate_callee (f := 31) rfl ?_); refine goesL_ (some 13) rfl rfl Tryd.func31 (by kernel_rfl) rfl #[.int .i64 a0] rfl (by (try simp only [List.map_toArray, List.map_cons, List.map_nil]); first | done | rfl | (simp only [List.length_drop, List.length_take]; rfl)) ?_; (with_reducible refine (impl_goodFormat.calls a0 false _ A10.out).mono ?_); rintro e w' ⟨rfl, ⟨nd, rfl⟩⟩; refine ⟨_, rfl, ?_⟩))
      go_meet
      case rel => exact ⟨_, (true), (by first | rfl | (simp; done) | (simp [*]; done)), H', ⟨by first | omega | exact Nat.le_refl _⟩, ⟨by (with_reducible repeat (first | refine blk_drewN ?_ _ | refine blk_drew ?_ | refine blk_alloc ?_ _)); refine blk_far ?_ NB134_138.out _; (with_reducible repeat (first | refine blk_drewN ?_ _ | refine blk_drew ?_ | refine blk_alloc ?_ _)); refine blk_far ?_ NB134_138.out _; (with_reducible repeat (first | refine blk_drewN ?_ _ | refine blk_drew ?_ | refine blk_alloc ?_ _)); refine blk_far ?_ NB134_138.out _; (with_reducible repeat (first | refine blk_drewN ?_ _ | refine blk_drew ?_ | refine blk_alloc ?_ _)); exact BK134.out⟩, ⟨by (with_reducible repeat (first | refine blk_drewN ?_ _ | refine blk_drew ?_ | refine blk_alloc ?_ _)); refine blk_put (cs := #[.int .i64 t135, .int .i64 t136, .int .i64 0]) ?_ 2 _ rfl; (with_reducible repeat (first | refine blk_drewN ?_ _ | refine blk_drew ?_ | refine blk_alloc ?_ _)); refine blk_put (cs := #[.int .i64 t135, .int .i64 0, .int .i64 0]) ?_ 1 _ rfl; (with_reducible repeat (first | refine blk_drewN ?_ _ | refine blk_drew ?_ | refine blk_alloc ?_ _)); refine blk_put (cs := #[.int .i64 0, .int .i64 0, .int .i64 0]) ?_ 0 _ rfl; (with_reducible repeat (first | refine blk_drewN ?_ _ | refine blk_drew ?_ | refine blk_alloc ?_ _)); exact BK138.out⟩, ⟨zb⟩⟩
  case rest =>
    clear HC4
    (try clear c1); (try clear p2); (try clear c3); (try clear c8); (try clear c10); (try clear c11); (try clear c13); (try clear hcz14_0); (try clear hcz14_1); (try clear hcz14_2); (try clear hcz9_0); (try clear hcz9_1); (try clear hcz9_2); (try clear hfz14_0); (try clear hfz14_1); (try clear hfz14_2); (try clear hfz9_0); (try clear hfz9_1); (try clear hfz9_2)
    obtain ⟨kq, x20_3, rfl, HA, HJ3, BK134, BK138, HB⟩ := hcut
    cases kq with
    | zero => exact absurd HA.out (by simp [impl_Unpack.j0])
    | succ kj3 =>
      have H := HA.out
      clear HA
      simp only [impl_Unpack.j0] at H
      by_cases c16 : x20_3 = true
      · subst c16
        have H1 : (some (4, 0, 0, 0)) = some (r1, r2, r3, r4) := by rw [if_pos rfl] at H; exact H
        clear H
        have H := H1
        clear H1
        simp only [Option.some.injEq, Prod.mk.injEq] at H
        obtain ⟨rfl, rfl, rfl, rfl⟩ := H
        have hnb17 := NB134_138.out
        have hnc17 := NB138_134.out
        have hcz18_0 : wc.cell? ⟨gb134, 0, none⟩ = some (.int .i64 0) := (blk_cell BK134.out 0).trans rfl
        have hcz18_1 : wc.cell? ⟨gb134, 1, none⟩ = some (.int .i64 0) := (blk_cell BK134.out 1).trans rfl
        have hcz18_2 : wc.cell? ⟨gb134, 2, none⟩ = some (.int .i64 0) := (blk_cell BK134.out 2).trans rfl
        have hcz18_3 : wc.cell? ⟨gb134, 3, none⟩ = some (.int .u64 0) := (blk_cell BK134.out 3).trans rfl
        have hfz18_0 := blk_frozen BK134.out 0
        have hfz18_1 := blk_frozen BK134.out 1
        have hfz18_2 := blk_frozen BK134.out 2
        have hfz18_3 := blk_frozen BK134.out 3
        go_wp2
        refine bodyPost_ret (results_cell_row rfl _ _ gb134 24 #[.int .i64 4, .int .i64 0, .int .i64 0, .int .u64 0] (0, 0) _ rfl (by (with_reducible repeat (first | refine blk_drewN ?_ _ | refine blk_drew ?_ | refine blk_alloc ?_ _)); refine blk_put (cs := #[.int .i64 4, .int .i64 0, .int .i64 0, .int .u64 0]) ?_ 3 _ rfl; (with_reducible repeat (first | refine blk_drewN ?_ _ | refine blk_drew ?_ | refine blk_alloc ?_ _)); refine blk_put (cs := #[.int .i64 4, .int .i64 0, .int .i64 0, .int .u64 0]) ?_ 2 _ rfl; (with_reducible repeat (first | refine blk_drewN ?_ _ | refine blk_drew ?_ | refine blk_alloc ?_ _)); refine blk_put (cs := #[.int .i64 4, .int .i64 0, .int .i64 0, .int .u64 0]) ?_ 1 _ rfl; (with_reducible repeat (first | refine blk_drewN ?_ _ | refine blk_drew ?_ | refine blk_alloc ?_ _)); refine blk_put (cs := #[.int .i64 0, .int .i64 0, .int .i64 0, .int .u64 0]) ?_ 0 _ rfl; (with_reducible repeat (first | refine blk_drewN ?_ _ | refine blk_drew ?_ | refine blk_alloc ?_ _)); exact BK134.out) Tryd.underlying24 rfl (by kernel_rfl)) rfl ?_
        exact ⟨by first | rfl | (simp [errW_none, errW_some] <;> rfl) | (simp [*, errW_none, errW_some] <;> rfl), zb⟩
      · replace c16 := Bool.eq_false_iff.mpr c16
        subst c16
        have H1 : ((impl_format_width.f t135 t136 t137).bind fun t141 => (if 0 ≤ (wrap64 (t141 - 1)) then (if 0 ≤ (wrap64 (t135 - 1)) then ((impl_format_allExp.f t135 t136 t137).bind fun t142 => ((impl_format_allExp.f t135 t136 t137).bind fun t143 => (if (Go.bits .and .u64 (shr .u64 a1 (wrap64 (t135 - 1))) t142) = t143 then (impl_Unpack.j1 kj3 (wrap64 (shr .u64 a1 (wrap64 (t141 - 1)))) (Go.bits .and .u64 (shr .u64 a1 (wrap64 (t135 - 1))) t142) (Go.bits .and .u64 a1 (IntKind.u64.wrap ((shl .u64 1 (wrap64 (t135 - 1))) - 1))) ((Go.bits .and .u64 a1 (IntKind.u64.wrap ((shl .u64 1 (wrap64 (t135 - 1))) - 1))) == 0) t135 t136 t137) else (impl_Unpack.j1 kj3 (wrap64 (shr .u64 a1 (wrap64 (t141 - 1)))) (Go.bits .and .u64 (shr .u64 a1 (wrap64 (t135 - 1))) t142) (Go.bits .and .u64 a1 (IntKind.u64.wrap ((shl .u64 1 (wrap64 (t135 - 1))) - 1))) false t135 t136 t137)))) else (none)) else (none))) = some (r1, r2, r3, r4) := by rw [if_neg (show ¬ (false = true) by decide)] at H; exact H
        clear H
        have H := H1
        clear H1
        replace H := Option.bind_eq_some_iff.mp H
        obtain ⟨t141, A190, H⟩ := H
        replace H : (if 0 ≤ (wrap64 (t141 - 1)) then (if 0 ≤ (wrap64 (t135 - 1)) then ((impl_format_allExp.f t135 t136 t137).bind fun t142 => ((impl_format_allExp.f t135 t136 t137).bind fun t143 => (if (Go.bits .and .u64 (shr .u64 a1 (wrap64 (t135 - 1))) t142) = t143 then (impl_Unpack.j1 kj3 (wrap64 (shr .u64 a1 (wrap64 (t141 - 1)))) (Go.bits .and .u64 (shr .u64 a1 (wrap64 (t135 - 1))) t142) (Go.bits .and .u64 a1 (IntKind.u64.wrap ((shl .u64 1 (wrap64 (t135 - 1))) - 1))) ((Go.bits .and .u64 a1 (IntKind.u64.wrap ((shl .u64 1 (wrap64 (t135 - 1))) - 1))) == 0) t135 t136 t137) else (impl_Unpack.j1 kj3 (wrap64 (shr .u64 a1 (wrap64 (t141 - 1)))) (Go.bits .and .u64 (shr .u64 a1 (wrap64 (t135 - 1))) t142) (Go.bits .and .u64 a1 (IntKind.u64.wrap ((shl .u64 1 (wrap64 (t135 - 1))) - 1))) false t135 t136 t137)))) else (none)) else (none)) = some (r1, r2, r3, r4) := H
        have A19 := Aside0.mk A190
        clear A190
        obtain ⟨ji20, hji20⟩ : ∃ j_ : Int, (wrap64 (t141 - 1)) = j_ := ⟨_, rfl⟩
        replace H : (if 0 ≤ (ji20) then (if 0 ≤ (wrap64 (t135 - 1)) then ((impl_format_allExp.f t135 t136 t137).bind fun t142 => ((impl_format_allExp.f t135 t136 t137).bind fun t143 => (if (Go.bits .and .u64 (shr .u64 a1 (wrap64 (t135 - 1))) t142) = t143 then (impl_Unpack.j1 kj3 (wrap64 (shr .u64 a1 (ji20))) (Go.bits .and .u64 (shr .u64 a1 (wrap64 (t135 - 1))) t142) (Go.bits .and .u64 a1 (IntKind.u64.wrap ((shl .u64 1 (wrap64 (t135 - 1))) - 1))) ((Go.bits .and .u64 a1 (IntKind.u64.wrap ((shl .u64 1 (wrap64 (t135 - 1))) - 1))) == 0) t135 t136 t137) else (impl_Unpack.j1 kj3 (wrap64 (shr .u64 a1 (ji20))) (Go.bits .and .u64 (shr .u64 a1 (wrap64 (t135 - 1))) t142) (Go.bits .and .u64 a1 (IntKind.u64.wrap ((shl .u64 1 (wrap64 (t135 - 1))) - 1))) false t135 t136 t137)))) else (none)) else (none)) = some (r1, r2, r3, r4) := by first | (rw [hji20] at H; exact H) | (simp only [hji20] at H ⊢; exact H)
        (try (have hji20B0 : ji20 ≤ 64 := by omega))
        (try (have hji20B1 : ji20 ≤ 1152921504606846975 := by omega))
        (try (have hji20B2 : -1152921504606846976 ≤ ji20 := by omega))
        (try rw [hji20] at A19)
        have hji20w : (IntKind.i64.wrap (t141 - 1)) = ji20 := (i64_w _).trans hji20
        by_cases c21 : 0 ≤ (ji20)
        · rw [if_pos c21] at H
          have c21b0 := eq_true c21
          have c21b1 : decide (0 ≤ (ji20)) = true := decide_eq_true c21
          clear c21
          obtain ⟨ji22, hji22⟩ : ∃ j_ : Int, (shr .u64 a1 (ji20)) = j_ := ⟨_, rfl⟩
          replace H : (if 0 ≤ (wrap64 (t135 - 1)) then ((impl_format_allExp.f t135 t136 t137).bind fun t142 => ((impl_format_allExp.f t135 t136 t137).bind fun t143 => (if (Go.bits .and .u64 (shr .u64 a1 (wrap64 (t135 - 1))) t142) = t143 then (impl_Unpack.j1 kj3 (wrap64 (ji22)) (Go.bits .and .u64 (shr .u64 a1 (wrap64 (t135 - 1))) t142) (Go.bits .and .u64 a1 (IntKind.u64.wrap ((shl .u64 1 (wrap64 (t135 - 1))) - 1))) ((Go.bits .and .u64 a1 (IntKind.u64.wrap ((shl .u64 1 (wrap64 (t135 - 1))) - 1))) == 0) t135 t136 t137) else (impl_Unpack.j1 kj3 (wrap64 (ji22)) (Go.bits .and .u64 (shr .u64 a1 (wrap64 (t135 - 1))) t142) (Go.bits .and .u64 a1 (IntKind.u64.wrap ((shl .u64 1 (wrap64 (t135 - 1))) - 1))) false t135 t136 t137)))) else (none)) = some (r1, r2, r3, r4) := by first | (rw [hji22] at H; exact H) | (simp only [hji22] at H ⊢; exact H)
          (try rw [hji22] at A19)
          have hji22_ : (a1 / 2 ^ min (ji20).toNat 64) = ji22 := hji22
          have hji22z : (ji20) ≤ 64 → (a1 / 2 ^ (ji20).toNat) = ji22 := shr_small hji22
          obtain ⟨ji23, hji23⟩ : ∃ j_ : Int, (wrap64 (t135 - 1)) = j_ := ⟨_, rfl⟩
          replace H : (if 0 ≤ (ji23) then ((impl_format_allExp.f t135 t136 t137).bind fun t142 => ((impl_format_allExp.f t135 t136 t137).bind fun t143 => (if (Go.bits .and .u64 (shr .u64 a1 (ji23)) t142) = t143 then (impl_Unpack.j1 kj3 (wrap64 (ji22)) (Go.bits .and .u64 (shr .u64 a1 (ji23)) t142) (Go.bits .and .u64 a1 (IntKind.u64.wrap ((shl .u64 1 (ji23)) - 1))) ((Go.bits .and .u64 a1 (IntKind.u64.wrap ((shl .u64 1 (ji23)) - 1))) == 0) t135 t136 t137) else (impl_Unpack.j1 kj3 (wrap64 (ji22)) (Go.bits .and .u64 (shr .u64 a1 (ji23)) t142) (Go.bits .and .u64 a1 (IntKind.u64.wrap ((shl .u64 1 (ji23)) - 1))) false t135 t136 t137)))) else (none)) = some (r1, r2, r3, r4) := by first | (rw [hji23] at H; exact H) | (simp only [hji23] at H ⊢; exact H)
          (try (have hji23B0 : ji23 ≤ 64 := by omega))
          (try (have hji23B1 : ji23 ≤ 1152921504606846975 := by omega))
          (try (have hji23B2 : -1152921504606846976 ≤ ji23 := by omega))
          (try rw [hji23] at A19)
          have hji23w : (IntKind.i64.wrap (t135 - 1)) = ji23 := (i64_w _).trans hji23
          by_cases c24 : 0 ≤ (ji23)
          · rw [if_pos c24] at H
            have c24b0 := eq_true c24
            have c24b1 : decide (0 ≤ (ji23)) = true := decide_eq_true c24
            clear c24
            obtain ⟨ji25, hji25⟩ : ∃ j_ : Int, (shr .u64 a1 (ji23)) = j_ := ⟨_, rfl⟩
            replace H : ((impl_format_allExp.f t135 t136 t137).bind fun t142 => ((impl_format_allExp.f t135 t136 t137).bind fun t143 => (if (Go.bits .and .u64 (ji25) t142) = t143 then (impl_Unpack.j1 kj3 (wrap64 (ji22)) (Go.bits .and .u64 (ji25) t142) (Go.bits .and .u64 a1 (IntKind.u64.wrap ((shl .u64 1 (ji23)) - 1))) ((Go.bits .and .u64 a1 (IntKind.u64.wrap ((shl .u64 1 (ji23)) - 1))) == 0) t135 t136 t137) else (impl_Unpack.j1 kj3 (wrap64 (ji22)) (Go.bits .and .u64 (ji25) t142) (Go.bits .and .u64 a1 (IntKind.u64.wrap ((shl .u64 1 (ji23)) - 1))) false t135 t136 t137)))) = some (r1, r2, r3, r4) := by first | (rw [hji25] at H; exact H) | (simp only [hji25] at H ⊢; exact H)
            (try rw [hji25] at A19)
            have hji25_ : (a1 / 2 ^ min (ji23).toNat 64) = ji25 := hji25
            have hji25z : (ji23) ≤ 64 → (a1 / 2 ^ (ji23).toNat) = ji25 := shr_small hji25
            replace H := Option.bind_eq_some_iff.mp H
            obtain ⟨t142, A260, H⟩ := H
            replace H : ((impl_format_allExp.f t135 t136 t137).bind fun t143 => (if (Go.bits .and .u64 (ji25) t142) = t143 then (impl_Unpack.j1 kj3 (wrap64 (ji22)) (Go.bits .and .u64 (ji25) t142) (Go.bits .and .u64 a1 (IntKind.u64.wrap ((shl .u64 1 (ji23)) - 1))) ((Go.bits .and .u64 a1 (IntKind.u64.wrap ((shl .u64 1 (ji23)) - 1))) == 0) t135 t136 t137) else (impl_Unpack.j1 kj3 (wrap64 (ji22)) (Go.bits .and .u64 (ji25) t142) (Go.bits .and .u64 a1 (IntKind.u64.wrap ((shl .u64 1 (ji23)) - 1))) false t135 t136 t137))) = some (r1, r2, r3, r4) := H
            have A26 := Aside0.mk A260
            clear A260
            have c27b0 := eq_true (of_decide_eq_true (by first | (with_reducible assumption) | assumption) : 0 ≤ (ji23))
            obtain ⟨ji28, hji28⟩ : ∃ j_ : Int, (shl .u64 1 (ji23)) = j_ := ⟨_, rfl⟩
            replace H : ((impl_format_allExp.f t135 t136 t137).bind fun t143 => (if (Go.bits .and .u64 (ji25) t142) = t143 then (impl_Unpack.j1 kj3 (wrap64 (ji22)) (Go.bits .and .u64 (ji25) t142) (Go.bits .and .u64 a1 (IntKind.u64.wrap ((ji28) - 1))) ((Go.bits .and .u64 a1 (IntKind.u64.wrap ((ji28) - 1))) == 0) t135 t136 t137) else (impl_Unpack.j1 kj3 (wrap64 (ji22)) (Go.bits .and .u64 (ji25) t142) (Go.bits .and .u64 a1 (IntKind.u64.wrap ((ji28) - 1))) false t135 t136 t137))) = some (r1, r2, r3, r4) := by first | (rw [hji28] at H; exact H) | (simp only [hji28] at H ⊢; exact H)
            (try rw [hji28] at A19)
            (try rw [hji28] at A26)
            have hji28_ : (IntKind.u64.wrap (1 * 2 ^ min (ji23).toNat 64)) = ji28 := hji28
            have hji28z : (ji23) ≤ 64 → (IntKind.u64.wrap (1 * 2 ^ (ji23).toNat)) = ji28 := shl_small hji28
            have hji28u : (IntKind.u64.wrap (2 ^ min (ji23).toNat 64)) = ji28 := by have h_ := hji28_; rw [Int.one_mul] at h_; exact h_
            have hji28v : (ji23) ≤ 64 → (IntKind.u64.wrap (2 ^ (ji23).toNat)) = ji28 := fun hle_ => by have h_ := hji28z hle_; rw [Int.one_mul] at h_; exact h_
            have HC29 := Aside0.mk H
            clear H
            have hnb30 := NB138_134.out
            have hnc30 := NB134_138.out
            have hcz31_0 : wc.cell? ⟨gb138, 0, none⟩ = some (.int .i64 t135) := (blk_cell BK138.out 0).trans rfl
            have hcz31_1 : wc.cell? ⟨gb138, 1, none⟩ = some (.int .i64 t136) := (blk_cell BK138.out 1).trans rfl
            have hcz31_2 : wc.cell? ⟨gb138, 2, none⟩ = some (.int .i64 t137) := (blk_cell BK138.out 2).trans rfl
            have hfz31_0 := blk_frozen BK138.out 0
            have hfz31_1 := blk_frozen BK138.out 1
            have hfz31_2 := blk_frozen BK138.out 2
            try go_wp2_with (first | ((with_reducible refine gate_callee (f := 33) rfl ?_); refine goesL_ (some 24) rfl rfl Tryd.func33 (by kernel_rfl) rfl #[.agg #[.int .i64 t135, .int .i64 t136, .int .i64 t137]] rfl (by (try simp only [List.map_toArray, List.map_cons, List.map_nil]); first | done | rfl | (simp only [List.length_drop, List.length_take]; rfl)) ?_; (with_reducible refine (impl_format_width.calls t135 t136 t137 t141 _ A19.out).mono ?_); rintro e w32 ⟨rfl, hb⟩; refine ⟨_, rfl, ?_⟩; have n0_ := za BK134 hb; have n1_ := za BK138 hb; have n2_ := Aside0.mk (below_step zb hb); clear BK134 BK138 HB; have BK134 := n0_; have BK138 := n1_; have HB := n2_; clear n0_ n1_ n2_; (try clear hb); (try clear hb2); (try clear hk); (try clear hi)))
            have n0_ := Aside0.mk (blk_drew BK134.out)
            have n1_ := Aside0.mk (blk_drew BK138.out)
            have n2_ := Aside0.mk (below_drew1 HB.out)
            clear BK134
            clear BK138
            clear HB
            have BK134 := n0_
            have BK138 := n1_
            have HB := n2_
            clear n0_ n1_ n2_
            refine start_ (n := 9) (S := fun w' => w'.cell? ⟨gb138, 0, none⟩ = some (.int .i64 t135) ∧ w'.cell? ⟨gb138, 1, none⟩ = some (.int .i64 t136) ∧ w'.cell? ⟨gb138, 2, none⟩ = some (.int .i64 t137)) (ds := []) #[false, false, false, false, false, false, false, false, false] (by kernel_rfl) rfl rfl ⟨(blk_cell BK138.out 0).trans rfl, (blk_cell BK138.out 1).trans rfl, (blk_cell BK138.out 2).trans rfl⟩ (fun hHeld => ?_); refine with_tabW impl_Unpack.tab5 impl_Unpack.bits5 (fun HT_ HW_ => ?_)
            generalize w32.drew = w33 at BK134 BK138 HB hHeld ⊢
            refine pure_ (i := 0) (N := some 28) (v := ?_) (a' := ?_) #[true, false, false, false, false, false, false, false, false] rfl rfl (any_of HT_.out (by kernel_rfl)) (fun _ _ _ h => h) (Or.inl ⟨by rfl, ?_⟩) ?_ ?_
            rotate_left
            · intro w'
              go_simp
              with_reducible rfl
            rotate_left
            · simp only [Act.put, List.setIfInBounds_toArray, List.set_cons_zero, List.set_cons_succ, i64_w, i32_w]
              rfl
            refine pure_ (i := 1) (N := some 29) (v := ?_) (a' := ?_) #[true, true, false, false, false, false, false, false, false] rfl rfl (any_of HT_.out (by kernel_rfl)) (fun _ _ _ h => h) (Or.inl ⟨by rfl, ?_⟩) ?_ ?_
            rotate_left
            · intro w'
              go_simp
              with_reducible rfl
            rotate_left
            · simp only [Act.put, List.setIfInBounds_toArray, List.set_cons_zero, List.set_cons_succ, i64_w, i32_w]
              rfl
            refine take_ (i := 2) (N := some 30) (v := ?_) (a' := ?_) #[true, true, true, false, false, false, false, false, false] rfl rfl (take_ofW HT_.out HW_.out (by kernel_rfl)) (fun _ _ _ h => h) (Or.inl ⟨by rfl, ?_⟩) hHeld ?_ ?_
            rotate_left
            · rintro w' ⟨s0, s1, s2⟩
              go_simp
              with_reducible rfl
            rotate_left
            · simp only [Act.put, List.setIfInBounds_toArray, List.set_cons_zero, List.set_cons_succ, i64_w, i32_w]
              rfl
            refine pure_ (i := 3) (N := some 31) (v := ?_) (a' := ?_) #[true, true, true, true, false, false, false, false, false] rfl rfl (any_of HT_.out (by kernel_rfl)) (fun _ _ _ h => h) (Or.inl ⟨by rfl, ?_⟩) ?_ ?_
            rotate_left
            · intro w'
              go_simp
              with_reducible rfl
            rotate_left
            · simp only [Act.put, List.setIfInBounds_toArray, List.set_cons_zero, List.set_cons_succ, i64_w, i32_w]
              rfl
            refine pure_ (i := 4) (N := some 32) (v := ?_) (a' := ?_) #[true, true, true, true, true, false, false, false, false] rfl rfl (any_of HT_.out (by kernel_rfl)) (fun _ _ _ h => h) (Or.inl ⟨by rfl, ?_⟩) ?_ ?_
            rotate_left
            · intro w'
              go_simp
              with_reducible rfl
            rotate_left
            · simp only [Act.put, List.setIfInBounds_toArray, List.set_cons_zero, List.set_cons_succ, i64_w, i32_w]
              rfl
            refine take_ (i := 5) (N := some 33) (v := ?_) (a' := ?_) #[true, true, true, true, true, true, false, false, false] rfl rfl (take_ofW HT_.out HW_.out (by kernel_rfl)) (fun _ _ _ h => h) (Or.inl ⟨by rfl, ?_⟩) hHeld ?_ ?_
            rotate_left
            · rintro w' ⟨s0, s1, s2⟩
              go_simp
              with_reducible rfl
            rotate_left
            · simp only [Act.put, List.setIfInBounds_toArray, List.set_cons_zero, List.set_cons_succ, i64_w, i32_w]
              rfl
            refine one_ (i := 6) (N := some 34) #[true, true, true, true, true, true, true, false, false] rfl rfl (one_of HT_.out (by kernel_rfl)) (by decide) (fun K hK => ?_)
            refine goes_ Tryd.func34 (by kernel_rfl) rfl #[.agg #[.int .i64 t135, .int .i64 t136, .int .i64 t137]] (by rfl) rfl rfl (by (try simp only [List.map_toArray, List.map_cons, List.map_nil]); first | done | rfl | (simp only [List.length_drop, List.length_take]; rfl)) ?_
            with_reducible refine (impl_format_allExp.calls t135 t136 t137 t142 _ A26.out).mono ?_
            rintro e w34 ⟨rfl, hb⟩
            refine ⟨_, rfl, ?_⟩
            have n0_ := za BK134 hb
            have n1_ := za BK138 hb
            have n2_ := Aside0.mk (below_step zb hb)
            clear BK134
            clear BK138
            clear HB
            have BK134 := n0_
            have BK138 := n1_
            have HB := n2_
            clear n0_ n1_ n2_
            (try clear hb)
            (try clear hb2)
            (try clear hk)
            (try clear hi)
            refine hK.out _ _ ⟨(blk_cell BK138.out 0).trans rfl, (blk_cell BK138.out 1).trans rfl, (blk_cell BK138.out 2).trans rfl⟩ (fun hHeld => ?_)
            clear hK K
            refine norm_ (a' := ?_) ?_ ?_
            rotate_left
            · show Act.put _ (some 34) _ = _
              simp only [Act.put, List.setIfInBounds_toArray, List.set_cons_zero, List.set_cons_succ, i64_w, i32_w]
              rfl
            refine pure_ (i := 7) (N := some 35) (v := ?_) (a' := ?_) #[true, true, true, true, true, true, true, true, false] rfl rfl (any_of HT_.out (by kernel_rfl)) (fun _ _ _ h => h) (Or.inl ⟨by rfl, ?_⟩) ?_ ?_
            rotate_left
            · intro w'
              go_simp
              with_reducible rfl
            rotate_left
            · simp only [Act.put, List.setIfInBounds_toArray, List.set_cons_zero, List.set_cons_succ, i64_w, i32_w]
              rfl
            refine pure_ (i := 8) (N := some 7) (v := ?_) (a' := ?_) #[true, true, true, true, true, true, true, true, true] rfl rfl (any_of HT_.out (by kernel_rfl)) (fun _ _ _ h => h) (Or.inl ⟨by rfl, ?_⟩) ?_ ?_
            rotate_left
            · intro w'
              go_simp
              with_reducible rfl
            rotate_left
            · simp only [Act.put, List.setIfInBounds_toArray, List.set_cons_zero, List.set_cons_succ, i64_w, i32_w]
              rfl
            refine done_ (done_of HT_.out (by kernel_rfl)) ?_
            have hcz35_0 : w34.cell? ⟨gb138, 0, none⟩ = some (.int .i64 t135) := (blk_cell BK138.out 0).trans rfl
            have hcz35_1 : w34.cell? ⟨gb138, 1, none⟩ = some (.int .i64 t136) := (blk_cell BK138.out 1).trans rfl
            have hcz35_2 : w34.cell? ⟨gb138, 2, none⟩ = some (.int .i64 t137) := (blk_cell BK138.out 2).trans rfl
            have hfz35_0 := blk_frozen BK138.out 0
            have hfz35_1 := blk_frozen BK138.out 1
            have hfz35_2 := blk_frozen BK138.out 2
            go_upto_region 7 with (fail)
            go_cut [43] (fun v43 wc => ∃ (kq : Nat) (x43_28 : Bool), v43 = .bool x43_28 ∧ Aside0 (impl_Unpack.j1 kq (wrap64 (ji22)) (Go.bits .and .u64 (ji25) t142) (Go.bits .and .u64 a1 (IntKind.u64.wrap ((ji28) - 1))) x43_28 t135 t136 t137 = some (r1, r2, r3, r4)) ∧ Aside0 (kq ≤ kj3) ∧ Aside0 (wc.heap[gb134]? = some (.cells #[.int .i64 0, .int .i64 0, .int .i64 0, .int .u64 0] 24 (0, 0))) ∧ Aside0 (wc.heap[gb138]? = some (.cells #[.int .i64 t135, .int .i64 t136, .int .i64 t137] 45 (0, 0))) ∧ Aside0 (Below w.heap.size w wc))
            case first =>
              have H := HC29.out
              clear HC29
              replace H := Option.bind_eq_some_iff.mp H
              obtain ⟨t143, A360, H⟩ := H
              replace H : (if (Go.bits .and .u64 (ji25) t142) = t143 then (impl_Unpack.j1 kj3 (wrap64 (ji22)) (Go.bits .and .u64 (ji25) t142) (Go.bits .and .u64 a1 (IntKind.u64.wrap ((ji28) - 1))) ((Go.bits .and .u64 a1 (IntKind.u64.wrap ((ji28) - 1))) == 0) t135 t136 t137) else (impl_Unpack.j1 kj3 (wrap64 (ji22)) (Go.bits .and .u64 (ji25) t142) (Go.bits .and .u64 a1 (IntKind.u64.wrap ((ji28) - 1))) false t135 t136 t137)) = some (r1, r2, r3, r4) := H
              have A36 := Aside0.mk A360
              clear A360
              by_cases c37 : (Go.bits .and .u64 (ji25) t142) = t143
              · rw [if_pos c37] at H
                have c37b0 : ((Go.bits .and .u64 (ji25) t142) == t143) = true := beq_iff_eq.mpr c37
                have c37b1 : ((Go.bits .and .u64 (ji25) t142) != t143) = false := bne_eq_false_iff_eq.mpr c37
                clear c37
                (first | rw [c37b0] | (simp only [i64_w, i32_w]; rw [c37b0]) | skip)
                have H' := Aside0.mk H
                clear H
                have hnb38 := NB138_134.out
                have hnc38 := NB134_138.out
                have hcz39_0 : w34.cell? ⟨gb138, 0, none⟩ = some (.int .i64 t135) := (blk_cell BK138.out 0).trans rfl
                have hcz39_1 : w34.cell? ⟨gb138, 1, none⟩ = some (.int .i64 t136) := (blk_cell BK138.out 1).trans rfl
                have hcz39_2 : w34.cell? ⟨gb138, 2, none⟩ = some (.int .i64 t137) := (blk_cell BK138.out 2).trans rfl
                have hfz39_0 := blk_frozen BK138.out 0
                have hfz39_1 := blk_frozen BK138.out 1
                have hfz39_2 := blk_frozen BK138.out 2
                go_wp2_with (first | ((with_reducible refine gate_callee (f := 34) rfl ?_); refine goesL_ (some 46) rfl rfl Tryd.func34 (by kernel_rfl) rfl #[.agg #[.int .i64 t135, .int .i64 t136, .int .i64 t137]] rfl (by (try simp only [List.map_toArray, List.map_cons, List.map_nil]); first | done | rfl | (simp only [List.length_drop, List.length_take]; rfl)) ?_; (with_reducible refine (impl_format_allExp.calls t135 t136 t137 t143 _ A36.out).mono ?_); rintro e w40 ⟨rfl, hb⟩; refine ⟨_, rfl, ?_⟩; have n0_ := za BK134 hb; have n1_ := za BK138 hb; have n2_ := Aside0.mk (below_step zb hb); clear BK134 BK138 HB; have BK134 := n0_; have BK138 := n1_; have HB := n2_; clear n0_ n1_ n2_; (try clear hb); (try clear hb2); (try clear hk); (try clear hi)))
                go_meet
                case rel => exact ⟨_, (((Go.bits .and .u64 a1 (IntKind.u64.wrap ((ji28) - 1))) == 0)), (by first | rfl | (simp; done) | (simp only [← hji28] <;> (first | rfl | simp)) | (simp [*]; done)), H', ⟨by have := HJ3.out; first | omega | exact Nat.le_refl _⟩, ⟨zk⟩, ⟨zk⟩, ⟨zb⟩⟩
              · rw [if_neg c37] at H
                have c37b0 : ((Go.bits .and .u64 (ji25) t142) == t143) = false := beq_eq_false_iff_ne.mpr c37
                have c37b1 : ((Go.bits .and .u64 (ji25) t142) != t143) = true := bne_iff_ne.mpr c37
                (first | rw [c37b0] | (simp only [i64_w, i32_w]; rw [c37b0]) | skip)
                have H' := Aside0.mk H
                clear H
                have hnb41 := NB138_134.out
                have hnc41 := NB134_138.out
                have hcz42_0 : w34.cell? ⟨gb138, 0, none⟩ = some (.int .i64 t135) := (blk_cell BK138.out 0).trans rfl
                have hcz42_1 : w34.cell? ⟨gb138, 1, none⟩ = some (.int .i64 t136) := (blk_cell BK138.out 1).trans rfl
                have hcz42_2 : w34.cell? ⟨gb138, 2, none⟩ = some (.int .i64 t137) := (blk_cell BK138.out 2).trans rfl
                have hfz42_0 := blk_frozen BK138.out 0
                have hfz42_1 := blk_frozen BK138.out 1
                have hfz42_2 := blk_frozen BK138.out 2
                go_wp2_with (first | ((with_reducible refine gate_callee (f := 34) rfl ?_); refine goesL_ (some 46) rfl rfl Tryd.func34 (by kernel_rfl) rfl #[.agg #[.int .i64 t135, .int .i64 t136, .int .i64 t137]] rfl (by (try simp only [List.map_toArray, List.map_cons, List.map_nil]); first | done | rfl | (simp only [List.length_drop, List.length_take]; rfl)) ?_; (with_reducible refine (impl_format_allExp.calls t135 t136 t137 t143 _ A36.out).mono ?_); rintro e w43 ⟨rfl, hb⟩; refine ⟨_, rfl, ?_⟩; have n0_ := za BK134 hb; have n1_ := za BK138 hb; have n2_ := Aside0.mk (below_step zb hb); clear BK134 BK138 HB; have BK134 := n0_; have BK138 := n1_; have HB := n2_; clear n0_ n1_ n2_; (try clear hb); (try clear hb2); (try clear hk); (try clear hi)))
                go_meet
                case rel => exact ⟨_, (false), (by first | rfl | (simp; done) | (simp [*]; done)), H', ⟨by have := HJ3.out; first | omega | exact Nat.le_refl _⟩, ⟨zk⟩, ⟨zk⟩, ⟨zb⟩⟩
            case rest =>
              clear HC29
              (try clear c1); (try clear c2); (try clear p2); (try clear c3); (try clear c4); (try clear p6); (try clear c8); (try clear c10); (try clear c11); (try clear c13); (try clear c16); (try clear c17); (try clear c21); (try clear c21b0); (try clear c21b1); (try clear c24); (try clear c24b0); (try clear c24b1); (try clear c27); (try clear c27b0); (try clear c30); (try clear c31); (try clear c33); (try clear c34); (try clear c37); (try clear c37b0); (try clear c37b1); (try clear c38); (try clear c41); (try clear hcz14_0); (try clear hcz14_1); (try clear hcz14_2); (try clear hcz18_0); (try clear hcz18_1); (try clear hcz18_2); (try clear hcz18_3); (try clear hcz31_0); (try clear hcz31_1); (try clear hcz31_2); (try clear hcz35_0); (try clear hcz35_1); (try clear hcz35_2); (try clear hcz39_0); (try clear hcz39_1); (try clear hcz39_2); (try clear hcz42_0); (try clear hcz42_1); (try clear hcz42_2); (try clear hcz9_0); (try clear hcz9_1); (try clear hcz9_2); (try clear hfz14_0); (try clear hfz14_1); (try clear hfz14_2); (try clear hfz18_0); (try clear hfz18_1); (try clear hfz18_2); (try clear hfz18_3); (try clear hfz31_0); (try clear hfz31_1); (try clear hfz31_2); (try clear hfz35_0); (try clear hfz35_1); (try clear hfz35_2); (try clear hfz39_0); (try clear hfz39_1); (try clear hfz39_2); (try clear hfz42_0); (try clear hfz42_1); (try clear hfz42_2); (try clear hfz9_0); (try clear hfz9_1); (try clear hfz9_2); (try clear p2)
              obtain ⟨kq, x43_28, rfl, HA, HJ28, BK134, BK138, HB⟩ := hcut
              cases kq with
              | zero => exact absurd HA.out (by simp [impl_Unpack.j1])
              | succ kj28 =>
                have H := HA.out
                clear HA
                simp only [impl_Unpack.j1] at H
                by_cases c44 : x43_28 = true
                · subst c44
                  have H1 : (some (2, (wrap64 (ji22)), 0, 0)) = some (r1, r2, r3, r4) := by rw [if_pos rfl] at H; exact H
                  clear H
                  have H := H1
                  clear H1
                  simp only [Option.some.injEq, Prod.mk.injEq] at H
                  obtain ⟨rfl, rfl, rfl, rfl⟩ := H
                  have hnb45 := NB134_138.out
                  have hnc45 := NB138_134.out
                  have hcz46_0 : wc.cell? ⟨gb134, 0, none⟩ = some (.int .i64 0) := (blk_cell BK134.out 0).trans rfl
                  have hcz46_1 : wc.cell? ⟨gb134, 1, none⟩ = some (.int .i64 0) := (blk_cell BK134.out 1).trans rfl
                  have hcz46_2 : wc.cell? ⟨gb134, 2, none⟩ = some (.int .i64 0) := (blk_cell BK134.out 2).trans rfl
                  have hcz46_3 : wc.cell? ⟨gb134, 3, none⟩ = some (.int .u64 0) := (blk_cell BK134.out 3).trans rfl
                  have hfz46_0 := blk_frozen BK134.out 0
                  have hfz46_1 := blk_frozen BK134.out 1
                  have hfz46_2 := blk_frozen BK134.out 2
                  have hfz46_3 := blk_frozen BK134.out 3
                  go_wp2
                  refine bodyPost_ret (results_cell_row rfl _ _ gb134 24 #[.int .i64 2, .int .i64 (wrap64 (ji22)), .int .i64 0, .int .u64 0] (0, 0) _ rfl (by (with_reducible repeat (first | refine blk_drewN ?_ _ | refine blk_drew ?_ | refine blk_alloc ?_ _)); refine blk_put (cs := #[.int .i64 2, .int .i64 (wrap64 (ji22)), .int .i64 0, .int .u64 0]) ?_ 3 _ rfl; (with_reducible repeat (first | refine blk_drewN ?_ _ | refine blk_drew ?_ | refine blk_alloc ?_ _)); refine blk_put (cs := #[.int .i64 2, .int .i64 (wrap64 (ji22)), .int .i64 0, .int .u64 0]) ?_ 2 _ rfl; (with_reducible repeat (first | refine blk_drewN ?_ _ | refine blk_drew ?_ | refine blk_alloc ?_ _)); refine blk_put (cs := #[.int .i64 2, .int .i64 0, .int .i64 0, .int .u64 0]) ?_ 1 _ rfl; (with_reducible repeat (first | refine blk_drewN ?_ _ | refine blk_drew ?_ | refine blk_alloc ?_ _)); refine blk_put (cs := #[.int .i64 0, .int .i64 0, .int .i64 0, .int .u64 0]) ?_ 0 _ rfl; (with_reducible repeat (first | refine blk_drewN ?_ _ | refine blk_drew ?_ | refine blk_alloc ?_ _)); exact BK134.out) Tryd.underlying24 rfl (by kernel_rfl)) rfl ?_
                  exact ⟨by first | rfl | (simp [errW_none, errW_some] <;> rfl) | (simp only [← hji20, ← hji22, ← hji23, ← hji25, ← hji28]; first | rfl | (simp [errW_none, errW_some] <;> rfl)) | (simp [*, errW_none, errW_some] <;> rfl), zb⟩
                · replace c44 := Bool.eq_false_iff.mpr c44
                  subst c44
                  have H1 : ((impl_format_allExp.f t135 t136 t137).bind fun t144 => (if (Go.bits .and .u64 (ji25) t142) = t144 then (if 0 ≤ (wrap64 (t135 - 2)) then (impl_Unpack.j2 kj28 (wrap64 (ji22)) (Go.bits .and .u64 (ji25) t142) (Go.bits .and .u64 a1 (IntKind.u64.wrap ((ji28) - 1))) ((shr .u64 (Go.bits .and .u64 a1 (IntKind.u64.wrap ((ji28) - 1))) (wrap64 (t135 - 2))) == 1) t135 t136 t137) else (none)) else (impl_Unpack.j2 kj28 (wrap64 (ji22)) (Go.bits .and .u64 (ji25) t142) (Go.bits .and .u64 a1 (IntKind.u64.wrap ((ji28) - 1))) false t135 t136 t137))) = some (r1, r2, r3, r4) := by rw [if_neg (show ¬ (false = true) by decide)] at H; exact H
                  clear H
                  have H := H1
                  clear H1
                  have HC47 := Aside0.mk H
                  clear H
                  go_upto_region 9 with (fail)
                  go_cut [54] (fun v54 wc => ∃ (kq : Nat) (x54_46 : Bool), v54 = .bool x54_46 ∧ Aside0 (impl_Unpack.j2 kq (wrap64 (ji22)) (Go.bits .and .u64 (ji25) t142) (Go.bits .and .u64 a1 (IntKind.u64.wrap ((ji28) - 1))) x54_46 t135 t136 t137 = some (r1, r2, r3, r4)) ∧ Aside0 (kq ≤ kj28) ∧ Aside0 (wc.heap[gb134]? = some (.cells #[.int .i64 0, .int .i64 0, .int .i64 0, .int .u64 0] 24 (0, 0))) ∧ Aside0 (wc.heap[gb138]? = some (.cells #[.int .i64 t135, .int .i64 t136, .int .i64 t137] 45 (0, 0))) ∧ Aside0 (Below w.heap.size w wc))
                  case first =>
                    have H := HC47.out
                    clear HC47
                    replace H := Option.bind_eq_some_iff.mp H
                    obtain ⟨t144, A480, H⟩ := H
                    replace H : (if (Go.bits .and .u64 (ji25) t142) = t144 then (if 0 ≤ (wrap64 (t135 - 2)) then (impl_Unpack.j2 kj28 (wrap64 (ji22)) (Go.bits .and .u64 (ji25) t142) (Go.bits .and .u64 a1 (IntKind.u64.wrap ((ji28) - 1))) ((shr .u64 (Go.bits .and .u64 a1 (IntKind.u64.wrap ((ji28) - 1))) (wrap64 (t135 - 2))) == 1) t135 t136 t137) else (none)) else (impl_Unpack.j2 kj28 (wrap64 (ji22)) (Go.bits .and .u64 (ji25) t142) (Go.bits .and .u64 a1 (IntKind.u64.wrap ((ji28) - 1))) false t135 t136 t137)) = some (r1, r2, r3, r4) := H
                    have A48 := Aside0.mk A480
                    clear A480
                    by_cases c49 : (Go.bits .and .u64 (ji25) t142) = t144
                    · rw [if_pos c49] at H
                      have c49b0 : ((Go.bits .and .u64 (ji25) t142) == t144) = true := beq_iff_eq.mpr c49
                      have c49b1 : ((Go.bits .and .u64 (ji25) t142) != t144) = false := bne_eq_false_iff_eq.mpr c49
                      clear c49
                      (first | rw [c49b0] | (simp only [i64_w, i32_w]; rw [c49b0]) | skip)
                      obtain ⟨ji50, hji50⟩ : ∃ j_ : Int, (wrap64 (t135 - 2)) = j_ := ⟨_, rfl⟩
                      replace H : (if 0 ≤ (ji50) then (impl_Unpack.j2 kj28 (wrap64 (ji22)) (Go.bits .and .u64 (ji25) t142) (Go.bits .and .u64 a1 (IntKind.u64.wrap ((ji28) - 1))) ((shr .u64 (Go.bits .and .u64 a1 (IntKind.u64.wrap ((ji28) - 1))) (ji50)) == 1) t135 t136 t137) else (none)) = some (r1, r2, r3, r4) := by first | (rw [hji50] at H; exact H) | (simp only [hji50] at H ⊢; exact H)
                      (try (have hji50B0 : ji50 ≤ 64 := by omega))
                      (try (have hji50B1 : ji50 ≤ 1152921504606846975 := by omega))
                      (try (have hji50B2 : -1152921504606846976 ≤ ji50 := by omega))
                      (try rw [hji50] at A48)
                      have hji50w : (IntKind.i64.wrap (t135 - 2)) = ji50 := (i64_w _).trans hji50
                      by_cases c51 : 0 ≤ (ji50)
                      · rw [if_pos c51] at H
                        have c51b0 := eq_true c51
                        have c51b1 : decide (0 ≤ (ji50)) = true := decide_eq_true c51
                        clear c51
                        obtain ⟨ji52, hji52⟩ : ∃ j_ : Int, (shr .u64 (Go.bits .and .u64 a1 (IntKind.u64.wrap ((ji28) - 1))) (ji50)) = j_ := ⟨_, rfl⟩
                        replace H : (impl_Unpack.j2 kj28 (wrap64 (ji22)) (Go.bits .and .u64 (ji25) t142) (Go.bits .and .u64 a1 (IntKind.u64.wrap ((ji28) - 1))) ((ji52) == 1) t135 t136 t137) = some (r1, r2, r3, r4) := by first | (rw [hji52] at H; exact H) | (simp only [hji52] at H ⊢; exact H)
                        (try rw [hji52] at A48)
                        have hji52_ : ((Go.bits .and .u64 a1 (IntKind.u64.wrap ((ji28) - 1))) / 2 ^ min (ji50).toNat 64) = ji52 := hji52
                        have hji52z : (ji50) ≤ 64 → ((Go.bits .and .u64 a1 (IntKind.u64.wrap ((ji28) - 1))) / 2 ^ (ji50).toNat) = ji52 := shr_small hji52
                        have H' := Aside0.mk H
                        clear H
                        have hnb53 := NB138_134.out
                        have hnc53 := NB134_138.out
                        have hcz54_0 : wc.cell? ⟨gb138, 0, none⟩ = some (.int .i64 t135) := (blk_cell BK138.out 0).trans rfl
                        have hcz54_1 : wc.cell? ⟨gb138, 1, none⟩ = some (.int .i64 t136) := (blk_cell BK138.out 1).trans rfl
                        have hcz54_2 : wc.cell? ⟨gb138, 2, none⟩ = some (.int .i64 t137) := (blk_cell BK138.out 2).trans rfl
                        have hfz54_0 := blk_frozen BK138.out 0
                        have hfz54_1 := blk_frozen BK138.out 1
                        have hfz54_2 := blk_frozen BK138.out 2
                        go_wp2_with (first | ((with_reducible refine gate_callee (f := 34) rfl ?_); refine goesL_ (some 57) rfl rfl Tryd.func34 (by kernel_rfl) rfl #[.agg #[.int .i64 t135, .int .i64 t136, .int .i64 t137]] rfl (by (try simp only [List.map_toArray, List.map_cons, List.map_nil]); first | done | rfl | (simp only [List.length_drop, List.length_take]; rfl)) ?_; (with_reducible refine (impl_format_allExp.calls t135 t136 t137 t144 _ A48.out).mono ?_); rintro e w55 ⟨rfl, hb⟩; refine ⟨_, rfl, ?_⟩; have n0_ := za BK134 hb; have n1_ := za BK138 hb; have n2_ := Aside0.mk (below_step zb hb); clear BK134 BK138 HB; have BK134 := n0_; have BK138 := n1_; have HB := n2_; clear n0_ n1_ n2_; (try clear hb); (try clear hb2); (try clear hk); (try clear hi); have hcz56_0 : w55.cell? ⟨gb138, 0, none⟩ = some (.int .i64 t135) := (blk_cell BK138.out 0).trans rfl; have hcz56_1 : w55.cell? ⟨gb138, 1, none⟩ = some (.int .i64 t136) := (blk_cell BK138.out 1).trans rfl; have hcz56_2 : w55.cell? ⟨gb138, 2, none⟩ = some (.int .i64 t137) := (blk_cell BK138.out 2).trans rfl; have hfz56_0 := blk_frozen BK138.out 0; have hfz56_1 := blk_frozen BK138.out 1; have hfz56_2 := blk_frozen BK138.out 2))
                        go_meet
                        case rel => exact ⟨_, (((ji52) == 1)), (by first | rfl | (simp; done) | (simp only [← hji52] <;> (first | rfl | simp)) | (simp [*]; done)), H', ⟨by have := HJ3.out; have := HJ28.out; first | omega | exact Nat.le_refl _⟩, ⟨zk⟩, ⟨zk⟩, ⟨zb⟩⟩
                      · rw [if_neg c51] at H
                        exact absurd H (by simp)
                    · rw [if_neg c49] at H
                      have c49b0 : ((Go.bits .and .u64 (ji25) t142) == t144) = false := beq_eq_false_iff_ne.mpr c49
                      have c49b1 : ((Go.bits .and .u64 (ji25) t142) != t144) = true := bne_iff_ne.mpr c49
                      (first | rw [c49b0] | (simp only [i64_w, i32_w]; rw [c49b0]) | skip)
                      have H' := Aside0.mk H
                      clear H
                      have hnb57 := NB138_134.out
                      have hnc57 := NB134_138.out
                      have hcz58_0 : wc.cell? ⟨gb138, 0, none⟩ = some (.int .i64 t135) := (blk_cell BK138.out 0).trans rfl
                      have hcz58_1 : wc.cell? ⟨gb138, 1, none⟩ = some (.int .i64 t136) := (blk_cell BK138.out 1).trans rfl
                      have hcz58_2 : wc.cell? ⟨gb138, 2, none⟩ = some (.int .i64 t137) := (blk_cell BK138.out 2).trans rfl
                      have hfz58_0 := blk_frozen BK138.out 0
                      have hfz58_1 := blk_frozen BK138.out 1
                      have hfz58_2 := blk_frozen BK138.out 2
                      go_wp2_with (first | ((with_reducible refine gate_callee (f := 34) rfl ?_); refine goesL_ (some 57) rfl rfl Tryd.func34 (by kernel_rfl) rfl #[.agg #[.int .i64 t135, .int .i64 t136, .int .i64 t137]] rfl (by (try simp only [List.map_toArray, List.map_cons, List.map_nil]); first | done | rfl | (simp only [List.length_drop, List.length_take]; rfl)) ?_; (with_reducible refine (impl_format_allExp.calls t135 t136 t137 t144 _ A48.out).mono ?_); rintro e w59 ⟨rfl, hb⟩; refine ⟨_, rfl, ?_⟩; have n0_ := za BK134 hb; have n1_ := za BK138 hb; have n2_ := Aside0.mk (below_step zb hb); clear BK134 BK138 HB; have BK134 := n0_; have BK138 := n1_; have HB := n2_; clear n0_ n1_ n2_; (try clear hb); (try clear hb2); (try clear hk); (try clear hi)))
                      go_meet
                      case rel => exact ⟨_, (false), (by first | rfl | (simp; done) | (simp [*]; done)), H', ⟨by have := HJ3.out; have := HJ28.out; first | omega | exact Nat.le_refl _⟩, ⟨zk⟩, ⟨zk⟩, ⟨zb⟩⟩
                  case rest =>
                    clear HC47
                    (try clear c1); (try clear c2); (try clear p2); (try clear c3); (try clear c4); (try clear c5); (try clear p6); (try clear c8); (try clear c10); (try clear c11); (try clear c13); (try clear c16); (try clear c17); (try clear c21); (try clear c21b0); (try clear c21b1); (try clear c24); (try clear c24b0); (try clear c24b1); (try clear c27); (try clear c27b0); (try clear c30); (try clear c31); (try clear c33); (try clear c34); (try clear c37); (try clear c37b0); (try clear c37b1); (try clear c38); (try clear c41); (try clear c44); (try clear c45); (try clear c49); (try clear c49b0); (try clear c49b1); (try clear c51); (try clear c51b0); (try clear c51b1); (try clear c53); (try clear c57); (try clear hcz14_0); (try clear hcz14_1); (try clear hcz14_2); (try clear hcz18_0); (try clear hcz18_1); (try clear hcz18_2); (try clear hcz18_3); (try clear hcz31_0); (try clear hcz31_1); (try clear hcz31_2); (try clear hcz35_0); (try clear hcz35_1); (try clear hcz35_2); (try clear hcz39_0); (try clear hcz39_1); (try clear hcz39_2); (try clear hcz42_0); (try clear hcz42_1); (try clear hcz42_2); (try clear hcz46_0); (try clear hcz46_1); (try clear hcz46_2); (try clear hcz46_3); (try clear hcz54_0); (try clear hcz54_1); (try clear hcz54_2); (try clear hcz56_0); (try clear hcz56_1); (try clear hcz56_2); (try clear hcz58_0); (try clear hcz58_1); (try clear hcz58_2); (try clear hcz9_0); (try clear hcz9_1); (try clear hcz9_2); (try clear hfz14_0); (try clear hfz14_1); (try clear hfz14_2); (try clear hfz18_0); (try clear hfz18_1); (try clear hfz18_2); (try clear hfz18_3); (try clear hfz31_0); (try clear hfz31_1); (try clear hfz31_2); (try clear hfz35_0); (try clear hfz35_1); (try clear hfz35_2); (try clear hfz39_0); (try clear hfz39_1); (try clear hfz39_2); (try clear hfz42_0); (try clear hfz42_1); (try clear hfz42_2); (try clear hfz46_0); (try clear hfz46_1); (try clear hfz46_2); (try clear hfz46_3); (try clear hfz54_0); (try clear hfz54_1); (try clear hfz54_2); (try clear hfz56_0); (try clear hfz56_1); (try clear hfz56_2); (try clear hfz58_0); (try clear hfz58_1); (try clear hfz58_2); (try clear hfz9_0); (try clear hfz9_1); (try clear hfz9_2); (try clear p2); (try clear p6)
                    obtain ⟨kq, x54_46, rfl, HA, HJ46, BK134, BK138, HB⟩ := hcut
                    cases kq with
                    | zero => exact absurd HA.out (by simp [impl_Unpack.j2])
                    | succ kj46 =>
                      have H := HA.out
                      clear HA
                      simp only [impl_Unpack.j2] at H
                      by_cases c60 : x54_46 = true
                      · subst c60
                        have H1 : (some (3, (wrap64 (ji22)), 0, 0)) = some (r1, r2, r3, r4) := by rw [if_pos rfl] at H; exact H
                        clear H
                        have H := H1
                        clear H1
                        simp only [Option.some.injEq, Prod.mk.injEq] at H
                        obtain ⟨rfl, rfl, rfl, rfl⟩ := H
                        have hnb61 := NB134_138.out
                        have hnc61 := NB138_134.out
                        have hcz62_0 : wc.cell? ⟨gb134, 0, none⟩ = some (.int .i64 0) := (blk_cell BK134.out 0).trans rfl
                        have hcz62_1 : wc.cell? ⟨gb134, 1, none⟩ = some (.int .i64 0) := (blk_cell BK134.out 1).trans rfl
                        have hcz62_2 : wc.cell? ⟨gb134, 2, none⟩ = some (.int .i64 0) := (blk_cell BK134.out 2).trans rfl
                        have hcz62_3 : wc.cell? ⟨gb134, 3, none⟩ = some (.int .u64 0) := (blk_cell BK134.out 3).trans rfl
                        have hfz62_0 := blk_frozen BK134.out 0
                        have hfz62_1 := blk_frozen BK134.out 1
                        have hfz62_2 := blk_frozen BK134.out 2
                        have hfz62_3 := blk_frozen BK134.out 3
                        go_wp2
                        refine bodyPost_ret (results_cell_row rfl _ _ gb134 24 #[.int .i64 3, .int .i64 (wrap64 (ji22)), .int .i64 0, .int .u64 0] (0, 0) _ rfl (by (with_reducible repeat (first | refine blk_drewN ?_ _ | refine blk_drew ?_ | refine blk_alloc ?_ _)); refine blk_put (cs := #[.int .i64 3, .int .i64 (wrap64 (ji22)), .int .i64 0, .int .u64 0]) ?_ 3 _ rfl; (with_reducible repeat (first | refine blk_drewN ?_ _ | refine blk_drew ?_ | refine blk_alloc ?_ _)); refine blk_put (cs := #[.int .i64 3, .int .i64 (wrap64 (ji22)), .int .i64 0, .int .u64 0]) ?_ 2 _ rfl; (with_reducible repeat (first | refine blk_drewN ?_ _ | refine blk_drew ?_ | refine blk_alloc ?_ _)); refine blk_put (cs := #[.int .i64 3, .int .i64 0, .int .i64 0, .int .u64 0]) ?_ 1 _ rfl; (with_reducible repeat (first | refine blk_drewN ?_ _ | refine blk_drew ?_ | refine blk_alloc ?_ _)); refine blk_put (cs := #[.int .i64 0, .int .i64 0, .int .i64 0, .int .u64 0]) ?_ 0 _ rfl; (with_reducible repeat (first | refine blk_drewN ?_ _ | refine blk_drew ?_ | refine blk_alloc ?_ _)); exact BK134.out) Tryd.underlying24 rfl (by kernel_rfl)) rfl ?_
                        exact ⟨by first | rfl | (simp [errW_none, errW_some] <;> rfl) | (simp only [← hji20, ← hji22, ← hji23, ← hji25, ← hji28]; first | rfl | (simp [errW_none, errW_some] <;> rfl)) | (simp [*, errW_none, errW_some] <;> rfl), zb⟩
                      · replace c60 := Bool.eq_false_iff.mpr c60
                        subst c60
                        have H1 : ((impl_format_allExp.f t135 t136 t137).bind fun t145 => (if (Go.bits .and .u64 (ji25) t142) = t145 then (some (4, (wrap64 (ji22)), 0, 0)) else (if (Go.bits .and .u64 (ji25) t142) = 0 then (impl_Unpack.j3 kj46 (wrap64 (ji22)) (Go.bits .and .u64 (ji25) t142) (Go.bits .and .u64 a1 (IntKind.u64.wrap ((ji28) - 1))) ((Go.bits .and .u64 a1 (IntKind.u64.wrap ((ji28) - 1))) == 0) t135 t136 t137) else (impl_Unpack.j3 kj46 (wrap64 (ji22)) (Go.bits .and .u64 (ji25) t142) (Go.bits .and .u64 a1 (IntKind.u64.wrap ((ji28) - 1))) false t135 t136 t137)))) = some (r1, r2, r3, r4) := by rw [if_neg (show ¬ (false = true) by decide)] at H; exact H
                        clear H
                        have H := H1
                        clear H1
                        replace H := Option.bind_eq_some_iff.mp H
                        obtain ⟨t145, A630, H⟩ := H
                        replace H : (if (Go.bits .and .u64 (ji25) t142) = t145 then (some (4, (wrap64 (ji22)), 0, 0)) else (if (Go.bits .and .u64 (ji25) t142) = 0 then (impl_Unpack.j3 kj46 (wrap64 (ji22)) (Go.bits .and .u64 (ji25) t142) (Go.bits .and .u64 a1 (IntKind.u64.wrap ((ji28) - 1))) ((Go.bits .and .u64 a1 (IntKind.u64.wrap ((ji28) - 1))) == 0) t135 t136 t137) else (impl_Unpack.j3 kj46 (wrap64 (ji22)) (Go.bits .and .u64 (ji25) t142) (Go.bits .and .u64 a1 (IntKind.u64.wrap ((ji28) - 1))) false t135 t136 t137))) = some (r1, r2, r3, r4) := H
                        have A63 := Aside0.mk A630
                        clear A630
                        by_cases c64 : (Go.bits .and .u64 (ji25) t142) = t145
                        · rw [if_pos c64] at H
                          have c64b0 : ((Go.bits .and .u64 (ji25) t142) == t145) = true := beq_iff_eq.mpr c64
                          have c64b1 : ((Go.bits .and .u64 (ji25) t142) != t145) = false := bne_eq_false_iff_eq.mpr c64
                          clear c64
                          simp only [Option.some.injEq, Prod.mk.injEq] at H
                          obtain ⟨rfl, rfl, rfl, rfl⟩ := H
                          have hnb65 := NB138_134.out
                          have hnc65 := NB134_138.out
                          have hcz66_0 : wc.cell? ⟨gb138, 0, none⟩ = some (.int .i64 t135) := (blk_cell BK138.out 0).trans rfl
                          have hcz66_1 : wc.cell? ⟨gb138, 1, none⟩ = some (.int .i64 t136) := (blk_cell BK138.out 1).trans rfl
                          have hcz66_2 : wc.cell? ⟨gb138, 2, none⟩ = some (.int .i64 t137) := (blk_cell BK138.out 2).trans rfl
                          have hfz66_0 := blk_frozen BK138.out 0
                          have hfz66_1 := blk_frozen BK138.out 1
                          have hfz66_2 := blk_frozen BK138.out 2
                          go_wp2_with (first | ((with_reducible refine gate_callee (f := 34) rfl ?_); refine goesL_ (some 72) rfl rfl Tryd.func34 (by kernel_rfl) rfl #[.agg #[.int .i64 t135, .int .i64 t136, .int .i64 t137]] rfl (by (try simp only [List.map_toArray, List.map_cons, List.map_nil]); first | done | rfl | (simp only [List.length_drop, List.length_take]; rfl)) ?_; (with_reducible refine (impl_format_allExp.calls t135 t136 t137 t145 _ A63.out).mono ?_); rintro e w67 ⟨rfl, hb⟩; refine ⟨_, rfl, ?_⟩; have n0_ := za BK134 hb; have n1_ := za BK138 hb; have n2_ := Aside0.mk (below_step zb hb); clear BK134 BK138 HB; have BK134 := n0_; have BK138 := n1_; have HB := n2_; clear n0_ n1_ n2_; (try clear hb); (try clear hb2); (try clear hk); (try clear hi); have hcz68_0 : w67.cell? ⟨gb134, 0, none⟩ = some (.int .i64 0) := (blk_cell BK134.out 0).trans rfl; have hcz68_1 : w67.cell? ⟨gb134, 1, none⟩ = some (.int .i64 0) := (blk_cell BK134.out 1).trans rfl; have hcz68_2 : w67.cell? ⟨gb134, 2, none⟩ = some (.int .i64 0) := (blk_cell BK134.out 2).trans rfl; have hcz68_3 : w67.cell? ⟨gb134, 3, none⟩ = some (.int .u64 0) := (blk_cell BK134.out 3).trans rfl; have hfz68_0 := blk_frozen BK134.out 0; have hfz68_1 := blk_frozen BK134.out 1; have hfz68_2 := blk_frozen BK134.out 2; have hfz68_3 := blk_frozen BK134.out 3))
                          refine bodyPost_ret (results_cell_row rfl _ _ gb134 24 #[.int .i64 4, .int .i64 (wrap64 (ji22)), .int .i64 0, .int .u64 0] (0, 0) _ rfl (by (with_reducible repeat (first | refine blk_drewN ?_ _ | refine blk_drew ?_ | refine blk_alloc ?_ _)); refine blk_put (cs := #[.int .i64 4, .int .i64 (wrap64 (ji22)), .int .i64 0, .int .u64 0]) ?_ 3 _ rfl; (with_reducible repeat (first | refine blk_drewN ?_ _ | refine blk_drew ?_ | refine blk_alloc ?_ _)); refine blk_put (cs := #[.int .i64 4, .int .i64 (wrap64 (ji22)), .int .i64 0, .int .u64 0]) ?_ 2 _ rfl; (with_reducible repeat (first | refine blk_drewN ?_ _ | refine blk_drew ?_ | refine blk_alloc ?_ _)); refine blk_put (cs := #[.int .i64 4, .int .i64 0, .int .i64 0, .int .u64 0]) ?_ 1 _ rfl; (with_reducible repeat (first | refine blk_drewN ?_ _ | refine blk_drew ?_ | refine blk_alloc ?_ _)); refine blk_put (cs := #[.int .i64 0, .int .i64 0, .int .i64 0, .int .u64 0]) ?_ 0 _ rfl; (with_reducible repeat (first | refine blk_drewN ?_ _ | refine blk_drew ?_ | refine blk_alloc ?_ _)); exact BK134.out) Tryd.underlying24 rfl (by kernel_rfl)) rfl ?_
                          exact ⟨by first | rfl | (simp [errW_none, errW_some] <;> rfl) | (simp only [← hji20, ← hji22, ← hji23, ← hji25, ← hji28]; first | rfl | (simp [errW_none, errW_some] <;> rfl)) | (simp [*, errW_none, errW_some] <;> rfl), zb⟩
                        · rw [if_neg c64] at H
                          have c64b0 : ((Go.bits .and .u64 (ji25) t142) == t145) = false := beq_eq_false_iff_ne.mpr c64
                          have c64b1 : ((Go.bits .and .u64 (ji25) t142) != t145) = true := bne_iff_ne.mpr c64
                          have HC69 := Aside0.mk H
                          clear H
                          have hnb70 := NB138_134.out
                          have hnc70 := NB134_138.out
                          have hcz71_0 : wc.cell? ⟨gb138, 0, none⟩ = some (.int .i64 t135) := (blk_cell BK138.out 0).trans rfl
                          have hcz71_1 : wc.cell? ⟨gb138, 1, none⟩ = some (.int .i64 t136) := (blk_cell BK138.out 1).trans rfl
                          have hcz71_2 : wc.cell? ⟨gb138, 2, none⟩ = some (.int .i64 t137) := (blk_cell BK138.out 2).trans rfl
                          have hfz71_0 := blk_frozen BK138.out 0
                          have hfz71_1 := blk_frozen BK138.out 1
                          have hfz71_2 := blk_frozen BK138.out 2
                          go_upto_region 13 with (first | ((with_reducible refine gate_callee (f := 34) rfl ?_); refine goesL_ (some 72) rfl rfl Tryd.func34 (by kernel_rfl) rfl #[.agg #[.int .i64 t135, .int .i64 t136, .int .i64 t137]] rfl (by (try simp only [List.map_toArray, List.map_cons, List.map_nil]); first | done | rfl | (simp only [List.length_drop, List.length_take]; rfl)) ?_; (with_reducible refine (impl_format_allExp.calls t135 t136 t137 t145 _ A63.out).mono ?_); rintro e w72 ⟨rfl, hb⟩; refine ⟨_, rfl, ?_⟩; have n0_ := za BK134 hb; have n1_ := za BK138 hb; have n2_ := Aside0.mk (below_step zb hb); clear BK134 BK138 HB; have BK134 := n0_; have BK138 := n1_; have HB := n2_; clear n0_ n1_ n2_; (try clear hb); (try clear hb2); (try clear hk); (try clear hi)))
                          (try simp only [Act.put, List.setIfInBounds_toArray, List.set_cons_zero, List.set_cons_succ])
                          go_cut [76] (fun v76 wc => ∃ (kq : Nat) (x76_68 : Bool), v76 = .bool x76_68 ∧ Aside0 (impl_Unpack.j3 kq (wrap64 (ji22)) (Go.bits .and .u64 (ji25) t142) (Go.bits .and .u64 a1 (IntKind.u64.wrap ((ji28) - 1))) x76_68 t135 t136 t137 = some (r1, r2, r3, r4)) ∧ Aside0 (kq ≤ kj46) ∧ Aside0 (wc.heap[gb134]? = some (.cells #[.int .i64 0, .int .i64 0, .int .i64 0, .int .u64 0] 24 (0, 0))) ∧ Aside0 (wc.heap[gb138]? = some (.cells #[.int .i64 t135, .int .i64 t136, .int .i64 t137] 45 (0, 0))) ∧ Aside0 (Below w.heap.size w wc))
                          case first =>
                            have H := HC69.out
                            clear HC69
                            by_cases c73 : (Go.bits .and .u64 (ji25) t142) = 0
                            · rw [if_pos c73] at H
                              have c73b0 : ((Go.bits .and .u64 (ji25) t142) == 0) = true := beq_iff_eq.mpr c73
                              have c73b1 : ((Go.bits .and .u64 (ji25) t142) != 0) = false := bne_eq_false_iff_eq.mpr c73
                              clear c73
                              (first | rw [c73b0] | (simp only [i64_w, i32_w]; rw [c73b0]) | skip)
                              have H' := Aside0.mk H
                              clear H
                              go_wp2
                              go_meet
                              case rel => exact ⟨_, (((Go.bits .and .u64 a1 (IntKind.u64.wrap ((ji28) - 1))) == 0)), (by first | rfl | (simp; done) | (simp only [← hji28] <;> (first | rfl | simp)) | (simp [*]; done)), H', ⟨by have := HJ3.out; have := HJ28.out; have := HJ46.out; first | omega | exact Nat.le_refl _⟩, ⟨zk⟩, ⟨zk⟩, ⟨zb⟩⟩
                            · rw [if_neg c73] at H
                              have c73b0 : ((Go.bits .and .u64 (ji25) t142) == 0) = false := beq_eq_false_iff_ne.mpr c73
                              have c73b1 : ((Go.bits .and .u64 (ji25) t142) != 0) = true := bne_iff_ne.mpr c73
                              (first | rw [c73b0] | (simp only [i64_w, i32_w]; rw [c73b0]) | skip)
                              have H' := Aside0.mk H
                              clear H
                              go_wp2
                              go_meet
                              case rel => exact ⟨_, (false), (by first | rfl | (simp; done) | (simp [*]; done)), H', ⟨by have := HJ3.out; have := HJ28.out; have := HJ46.out; first | omega | exact Nat.le_refl _⟩, ⟨zk⟩, ⟨zk⟩, ⟨zb⟩⟩
                          case rest =>
                            clear HC69
                            (try clear c1); (try clear c2); (try clear p2); (try clear c3); (try clear c4); (try clear c5); (try clear c6); (try clear p6); (try clear c7); (try clear c8); (try clear c10); (try clear c11); (try clear c13); (try clear c16); (try clear c17); (try clear c21); (try clear c21b0); (try clear c21b1); (try clear c24); (try clear c24b0); (try clear c24b1); (try clear c27); (try clear c27b0); (try clear c30); (try clear c31); (try clear c33); (try clear c34); (try clear c37); (try clear c37b0); (try clear c37b1); (try clear c38); (try clear c41); (try clear c44); (try clear c45); (try clear c49); (try clear c49b0); (try clear c49b1); (try clear c51); (try clear c51b0); (try clear c51b1); (try clear c53); (try clear c57); (try clear c60); (try clear c61); (try clear c64); (try clear c64b0); (try clear c64b1); (try clear p64); (try clear c65); (try clear c70); (try clear c73); (try clear c73b0); (try clear c73b1); (try clear hcz14_0); (try clear hcz14_1); (try clear hcz14_2); (try clear hcz18_0); (try clear hcz18_1); (try clear hcz18_2); (try clear hcz18_3); (try clear hcz31_0); (try clear hcz31_1); (try clear hcz31_2); (try clear hcz35_0); (try clear hcz35_1); (try clear hcz35_2); (try clear hcz39_0); (try clear hcz39_1); (try clear hcz39_2); (try clear hcz42_0); (try clear hcz42_1); (try clear hcz42_2); (try clear hcz46_0); (try clear hcz46_1); (try clear hcz46_2); (try clear hcz46_3); (try clear hcz54_0); (try clear hcz54_1); (try clear hcz54_2); (try clear hcz56_0); (try clear hcz56_1); (try clear hcz56_2); (try clear hcz58_0); (try clear hcz58_1); (try clear hcz58_2); (try clear hcz62_0); (try clear hcz62_1); (try clear hcz62_2); (try clear hcz62_3); (try clear hcz66_0); (try clear hcz66_1); (try clear hcz66_2); (try clear hcz68_0); (try clear hcz68_1); (try clear hcz68_2); (try clear hcz68_3); (try clear hcz71_0); (try clear hcz71_1); (try clear hcz71_2); (try clear hcz9_0); (try clear hcz9_1); (try clear hcz9_2); (try clear hfz14_0); (try clear hfz14_1); (try clear hfz14_2); (try clear hfz18_0); (try clear hfz18_1); (try clear hfz18_2); (try clear hfz18_3); (try clear hfz31_0); (try clear hfz31_1); (try clear hfz31_2); (try clear hfz35_0); (try clear hfz35_1); (try clear hfz35_2); (try clear hfz39_0); (try clear hfz39_1); (try clear hfz39_2); (try clear hfz42_0); (try clear hfz42_1); (try clear hfz42_2); (try clear hfz46_0); (try clear hfz46_1); (try clear hfz46_2); (try clear hfz46_3); (try clear hfz54_0); (try clear hfz54_1); (try clear hfz54_2); (try clear hfz56_0); (try clear hfz56_1); (try clear hfz56_2); (try clear hfz58_0); (try clear hfz58_1); (try clear hfz58_2); (try clear hfz62_0); (try clear hfz62_1); (try clear hfz62_2); (try clear hfz62_3); (try clear hfz66_0); (try clear hfz66_1); (try clear hfz66_2); (try clear hfz68_0); (try clear hfz68_1); (try clear hfz68_2); (try clear hfz68_3); (try clear hfz71_0); (try clear hfz71_1); (try clear hfz71_2); (try clear hfz9_0); (try clear hfz9_1); (try clear hfz9_2); (try clear p2); (try clear p6)
                            obtain ⟨kq, x76_68, rfl, HA, HJ68, BK134, BK138, HB⟩ := hcut
                            cases kq with
                            | zero => exact absurd HA.out (by simp [impl_Unpack.j3])
                            | succ kj68 =>
                              have H := HA.out
                              clear HA
                              simp only [impl_Unpack.j3] at H
                              by_cases c74 : x76_68 = true
                              · subst c74
                                have H1 : (some (0, (wrap64 (ji22)), 0, 0)) = some (r1, r2, r3, r4) := by rw [if_pos rfl] at H; exact H
                                clear H
                                have H := H1
                                clear H1
                                simp only [Option.some.injEq, Prod.mk.injEq] at H
                                obtain ⟨rfl, rfl, rfl, rfl⟩ := H
                                have hnb75 := NB134_138.out
                                have hnc75 := NB138_134.out
                                have hcz76_0 : wc.cell? ⟨gb134, 0, none⟩ = some (.int .i64 0) := (blk_cell BK134.out 0).trans rfl
                                have hcz76_1 : wc.cell? ⟨gb134, 1, none⟩ = some (.int .i64 0) := (blk_cell BK134.out 1).trans rfl
                                have hcz76_2 : wc.cell? ⟨gb134, 2, none⟩ = some (.int .i64 0) := (blk_cell BK134.out 2).trans rfl
                                have hcz76_3 : wc.cell? ⟨gb134, 3, none⟩ = some (.int .u64 0) := (blk_cell BK134.out 3).trans rfl
                                have hfz76_0 := blk_frozen BK134.out 0
                                have hfz76_1 := blk_frozen BK134.out 1
                                have hfz76_2 := blk_frozen BK134.out 2
                                have hfz76_3 := blk_frozen BK134.out 3
                                go_wp2
                                refine bodyPost_ret (results_cell_row rfl _ _ gb134 24 #[.int .i64 0, .int .i64 (wrap64 (ji22)), .int .i64 0, .int .u64 0] (0, 0) _ rfl (by (with_reducible repeat (first | refine blk_drewN ?_ _ | refine blk_drew ?_ | refine blk_alloc ?_ _)); refine blk_put (cs := #[.int .i64 0, .int .i64 (wrap64 (ji22)), .int .i64 0, .int .u64 0]) ?_ 3 _ rfl; (with_reducible repeat (first | refine blk_drewN ?_ _ | refine blk_drew ?_ | refine blk_alloc ?_ _)); refine blk_put (cs := #[.int .i64 0, .int .i64 (wrap64 (ji22)), .int .i64 0, .int .u64 0]) ?_ 2 _ rfl; (with_reducible repeat (first | refine blk_drewN ?_ _ | refine blk_drew ?_ | refine blk_alloc ?_ _)); refine blk_put (cs := #[.int .i64 0, .int .i64 0, .int .i64 0, .int .u64 0]) ?_ 1 _ rfl; (with_reducible repeat (first | refine blk_drewN ?_ _ | refine blk_drew ?_ | refine blk_alloc ?_ _)); refine blk_put (cs := #[.int .i64 0, .int .i64 0, .int .i64 0, .int .u64 0]) ?_ 0 _ rfl; (with_reducible repeat (first | refine blk_drewN ?_ _ | refine blk_drew ?_ | refine blk_alloc ?_ _)); exact BK134.out) Tryd.underlying24 rfl (by kernel_rfl)) rfl ?_
                                exact ⟨by first | rfl | (simp [errW_none, errW_some] <;> rfl) | (simp only [← hji20, ← hji22, ← hji23, ← hji25, ← hji28]; first | rfl | (simp [errW_none, errW_some] <;> rfl)) | (simp [*, errW_none, errW_some] <;> rfl), zb⟩
                              · replace c74 := Bool.eq_false_iff.mpr c74
                                subst c74
                                have H1 : (if (Go.bits .and .u64 (ji25) t142) > 0 then (if 0 ≤ (wrap64 (t135 - 1)) then (some (1, (wrap64 (ji22)), wrap64 ((wrap64 ((wrap64 ((wrap64 ((wrap64 ((Go.bits .and .u64 (ji25) t142))) - 1)) + t136)) - t135)) + 1), Go.bits .or .u64 (Go.bits .and .u64 a1 (IntKind.u64.wrap ((ji28) - 1))) (shl .u64 1 (wrap64 (t135 - 1))))) else (none)) else ((impl_Zeros.f 0 (Go.bits .and .u64 a1 (IntKind.u64.wrap ((ji28) - 1)))).bind fun t146 => (if 0 ≤ (wrap64 (t146 - (wrap64 (128 - t135)))) then (some (1, (wrap64 (ji22)), wrap64 ((wrap64 ((wrap64 (t136 - t135)) + 1)) - (wrap64 (t146 - (wrap64 (128 - t135))))), shl .u64 (Go.bits .and .u64 a1 (IntKind.u64.wrap ((ji28) - 1))) (wrap64 (t146 - (wrap64 (128 - t135)))))) else (none)))) = some (r1, r2, r3, r4) := by rw [if_neg (show ¬ (false = true) by decide)] at H; exact H
                                clear H
                                have H := H1
                                clear H1
                                by_cases c77 : (Go.bits .and .u64 (ji25) t142) > 0
                                · rw [if_pos c77] at H
                                  have c77b0 : decide (0 < (Go.bits .and .u64 (ji25) t142)) = true := decide_eq_true c77
                                  clear c77
                                  obtain ⟨ji78, hji78⟩ : ∃ j_ : Int, (wrap64 (t135 - 1)) = j_ := ⟨_, rfl⟩
                                  (try (have hji78p : ji23 = ji78 := hji23.symm.trans hji78))
                                  (try (have hji78p : ji23 = ji78 := hji23.symm.trans hji78))
                                  replace H : (if 0 ≤ (ji78) then (some (1, (wrap64 (ji22)), wrap64 ((wrap64 ((wrap64 ((wrap64 ((wrap64 ((Go.bits .and .u64 (ji25) t142))) - 1)) + t136)) - t135)) + 1), Go.bits .or .u64 (Go.bits .and .u64 a1 (IntKind.u64.wrap ((ji28) - 1))) (shl .u64 1 (ji78)))) else (none)) = some (r1, r2, r3, r4) := by first | (rw [hji78] at H; exact H) | (simp only [hji78] at H ⊢; exact H)
                                  (try (have hji78B0 : ji78 ≤ 64 := by omega))
                                  (try (have hji78B1 : ji78 ≤ 1152921504606846975 := by omega))
                                  (try (have hji78B2 : -1152921504606846976 ≤ ji78 := by omega))
                                  have hji78w : (IntKind.i64.wrap (t135 - 1)) = ji78 := (i64_w _).trans hji78
                                  by_cases c79 : 0 ≤ (ji78)
                                  · rw [if_pos c79] at H
                                    have c79b0 := eq_true c79
                                    have c79b1 : decide (0 ≤ (ji78)) = true := decide_eq_true c79
                                    clear c79
                                    obtain ⟨ji80, hji80⟩ : ∃ j_ : Int, (shl .u64 1 (ji78)) = j_ := ⟨_, rfl⟩
                                    replace H : (some (1, (wrap64 (ji22)), wrap64 ((wrap64 ((wrap64 ((wrap64 ((wrap64 ((Go.bits .and .u64 (ji25) t142))) - 1)) + t136)) - t135)) + 1), Go.bits .or .u64 (Go.bits .and .u64 a1 (IntKind.u64.wrap ((ji28) - 1))) (ji80))) = some (r1, r2, r3, r4) := by first | (rw [hji80] at H; exact H) | (simp only [hji80] at H ⊢; exact H)
                                    have hji80_ : (IntKind.u64.wrap (1 * 2 ^ min (ji78).toNat 64)) = ji80 := hji80
                                    have hji80z : (ji78) ≤ 64 → (IntKind.u64.wrap (1 * 2 ^ (ji78).toNat)) = ji80 := shl_small hji80
                                    have hji80u : (IntKind.u64.wrap (2 ^ min (ji78).toNat 64)) = ji80 := by have h_ := hji80_; rw [Int.one_mul] at h_; exact h_
                                    have hji80v : (ji78) ≤ 64 → (IntKind.u64.wrap (2 ^ (ji78).toNat)) = ji80 := fun hle_ => by have h_ := hji80z hle_; rw [Int.one_mul] at h_; exact h_
                                    simp only [Option.some.injEq, Prod.mk.injEq] at H
                                    obtain ⟨rfl, rfl, rfl, rfl⟩ := H
                                    try go_wp2
                                    have n0_ := Aside0.mk (blk_drew BK134.out)
                                    have n1_ := Aside0.mk (blk_drew BK138.out)
                                    have n2_ := Aside0.mk (below_drew1 HB.out)
                                    clear BK134
                                    clear BK138
                                    clear HB
                                    have BK134 := n0_
                                    have BK138 := n1_
                                    have HB := n2_
                                    clear n0_ n1_ n2_
                                    refine start_ (n := 19) (S := fun w' => w'.cell? ⟨gb138, 0, none⟩ = some (.int .i64 t135) ∧ w'.cell? ⟨gb138, 1, none⟩ = some (.int .i64 t136) ∧ w'.cell? ⟨gb138, 2, none⟩ = some (.int .i64 t137)) (ds := []) #[false, false, false, false, false, false, false, false, false, false, false, false, false, false, false, false, false, false, false] (by kernel_rfl) rfl rfl ⟨(blk_cell BK138.out 0).trans rfl, (blk_cell BK138.out 1).trans rfl, (blk_cell BK138.out 2).trans rfl⟩ (fun hHeld => ?_); refine with_tabW impl_Unpack.tab16 impl_Unpack.bits16 (fun HT_ HW_ => ?_)
                                    generalize wc.drew = w81 at BK134 BK138 HB hHeld ⊢
                                    refine pure_ (i := 0) (N := some 88) (v := ?_) (a' := ?_) #[true, false, false, false, false, false, false, false, false, false, false, false, false, false, false, false, false, false, false] rfl rfl (any_of HT_.out (by kernel_rfl)) (fun _ _ _ h => h) (Or.inl ⟨by rfl, ?_⟩) ?_ ?_
                                    rotate_left
                                    · intro w'
                                      go_simp
                                      with_reducible rfl
                                    rotate_left
                                    · simp only [Act.put, List.setIfInBounds_toArray, List.set_cons_zero, List.set_cons_succ, i64_w, i32_w]
                                      rfl
                                    refine pure_ (i := 1) (N := some 89) (v := ?_) (a' := ?_) #[true, true, false, false, false, false, false, false, false, false, false, false, false, false, false, false, false, false, false] rfl rfl (any_of HT_.out (by kernel_rfl)) (fun _ _ _ h => h) (Or.inl ⟨by rfl, ?_⟩) ?_ ?_
                                    rotate_left
                                    · intro w'
                                      go_simp
                                      with_reducible rfl
                                    rotate_left
                                    · simp only [Act.put, List.setIfInBounds_toArray, List.set_cons_zero, List.set_cons_succ, i64_w, i32_w]
                                      rfl
                                    refine pure_ (i := 2) (N := some 90) (v := ?_) (a' := ?_) #[true, true, true, false, false, false, false, false, false, false, false, false, false, false, false, false, false, false, false] rfl rfl (any_of HT_.out (by kernel_rfl)) (fun _ _ _ h => h) (Or.inl ⟨by rfl, ?_⟩) ?_ ?_
                                    rotate_left
                                    · intro w'
                                      go_simp
                                      with_reducible rfl
                                    rotate_left
                                    · simp only [Act.put, List.setIfInBounds_toArray, List.set_cons_zero, List.set_cons_succ, i64_w, i32_w]
                                      rfl
                                    refine pure_ (i := 3) (N := some 91) (v := ?_) (a' := ?_) #[true, true, true, true, false, false, false, false, false, false, false, false, false, false, false, false, false, false, false] rfl rfl (any_of HT_.out (by kernel_rfl)) (fun _ _ _ h => h) (Or.inl ⟨by rfl, ?_⟩) ?_ ?_
                                    rotate_left
                                    · intro w'
                                      go_simp
                                      with_reducible rfl
                                    rotate_left
                                    · simp only [Act.put, List.setIfInBounds_toArray, List.set_cons_zero, List.set_cons_succ, i64_w, i32_w]
                                      rfl
                                    refine pure_ (i := 4) (N := some 92) (v := ?_) (a' := ?_) #[true, true, true, true, true, false, false, false, false, false, false, false, false, false, false, false, false, false, false] rfl rfl (any_of HT_.out (by kernel_rfl)) (fun _ _ _ h => h) (Or.inl ⟨by rfl, ?_⟩) ?_ ?_
                                    rotate_left
                                    · intro w'
                                      go_simp
                                      with_reducible rfl
                                    rotate_left
                                    · simp only [Act.put, List.setIfInBounds_toArray, List.set_cons_zero, List.set_cons_succ, i64_w, i32_w]
                                      rfl
                                    refine pure_ (i := 7) (N := some 95) (v := ?_) (a' := ?_) #[true, true, true, true, true, false, false, true, false, false, false, false, false, false, false, false, false, false, false] rfl rfl (any_of HT_.out (by kernel_rfl)) (fun _ _ _ h => h) (Or.inl ⟨by rfl, ?_⟩) ?_ ?_
                                    rotate_left
                                    · intro w'
                                      go_simp
                                      with_reducible rfl
                                    rotate_left
                                    · simp only [Act.put, List.setIfInBounds_toArray, List.set_cons_zero, List.set_cons_succ, i64_w, i32_w]
                                      rfl
                                    refine pure_ (i := 11) (N := some 99) (v := ?_) (a' := ?_) #[true, true, true, true, true, false, false, true, false, false, false, true, false, false, false, false, false, false, false] rfl rfl (any_of HT_.out (by kernel_rfl)) (fun _ _ _ h => h) (Or.inl ⟨by rfl, ?_⟩) ?_ ?_
                                    rotate_left
                                    · intro w'
                                      go_simp
                                      with_reducible rfl
                                    rotate_left
                                    · simp only [Act.put, List.setIfInBounds_toArray, List.set_cons_zero, List.set_cons_succ, i64_w, i32_w]
                                      rfl
                                    refine pure_ (i := 12) (N := some 100) (v := ?_) (a' := ?_) #[true, true, true, true, true, false, false, true, false, false, false, true, true, false, false, false, false, false, false] rfl rfl (any_of HT_.out (by kernel_rfl)) (fun _ _ _ h => h) (Or.inl ⟨by rfl, ?_⟩) ?_ ?_
                                    rotate_left
                                    · intro w'
                                      go_simp
                                      with_reducible rfl
                                    rotate_left
                                    · simp only [Act.put, List.setIfInBounds_toArray, List.set_cons_zero, List.set_cons_succ, i64_w, i32_w]
                                      rfl
                                    refine take_ (i := 5) (N := some 93) (v := ?_) (a' := ?_) #[true, true, true, true, true, true, false, true, false, false, false, true, true, false, false, false, false, false, false] rfl rfl (take_ofW HT_.out HW_.out (by kernel_rfl)) (fun _ _ _ h => h) (Or.inl ⟨by rfl, ?_⟩) hHeld ?_ ?_
                                    rotate_left
                                    · rintro w' ⟨s0, s1, s2⟩
                                      go_simp
                                      with_reducible rfl
                                    rotate_left
                                    · simp only [Act.put, List.setIfInBounds_toArray, List.set_cons_zero, List.set_cons_succ, i64_w, i32_w]
                                      rfl
                                    refine pure_ (i := 6) (N := some 94) (v := ?_) (a' := ?_) #[true, true, true, true, true, true, true, true, false, false, false, true, true, false, false, false, false, false, false] rfl rfl (any_of HT_.out (by kernel_rfl)) (fun _ _ _ h => h) (Or.inl ⟨by rfl, ?_⟩) ?_ ?_
                                    rotate_left
                                    · intro w'
                                      go_simp
                                      with_reducible rfl
                                    rotate_left
                                    · simp only [Act.put, List.setIfInBounds_toArray, List.set_cons_zero, List.set_cons_succ, i64_w, i32_w]
                                      rfl
                                    refine take_ (i := 8) (N := some 96) (v := ?_) (a' := ?_) #[true, true, true, true, true, true, true, true, true, false, false, true, true, false, false, false, false, false, false] rfl rfl (take_ofW HT_.out HW_.out (by kernel_rfl)) (fun _ _ _ h => h) (Or.inl ⟨by rfl, ?_⟩) hHeld ?_ ?_
                                    rotate_left
                                    · rintro w' ⟨s0, s1, s2⟩
                                      go_simp
                                      with_reducible rfl
                                    rotate_left
                                    · simp only [Act.put, List.setIfInBounds_toArray, List.set_cons_zero, List.set_cons_succ, i64_w, i32_w]
                                      rfl
                                    refine pure_ (i := 9) (N := some 97) (v := ?_) (a' := ?_) #[true, true, true, true, true, true, true, true, true, true, false, true, true, false, false, false, false, false, false] rfl rfl (any_of HT_.out (by kernel_rfl)) (fun _ _ _ h => h) (Or.inl ⟨by rfl, ?_⟩) ?_ ?_
                                    rotate_left
                                    · intro w'
                                      go_simp
                                      with_reducible rfl
                                    rotate_left
                                    · simp only [Act.put, List.setIfInBounds_toArray, List.set_cons_zero, List.set_cons_succ, i64_w, i32_w]
                                      rfl
                                    refine pure_ (i := 10) (N := some 98) (v := ?_) (a' := ?_) #[true, true, true, true, true, true, true, true, true, true, true, true, true, false, false, false, false, false, false] rfl rfl (any_of HT_.out (by kernel_rfl)) (fun _ _ _ h => h) (Or.inl ⟨by rfl, ?_⟩) ?_ ?_
                                    rotate_left
                                    · intro w'
                                      go_simp
                                      with_reducible rfl
                                    rotate_left
                                    · simp only [Act.put, List.setIfInBounds_toArray, List.set_cons_zero, List.set_cons_succ, i64_w, i32_w]
                                      rfl
                                    refine take_ (i := 13) (N := some 101) (v := ?_) (a' := ?_) #[true, true, true, true, true, true, true, true, true, true, true, true, true, true, false, false, false, false, false] rfl rfl (take_ofW HT_.out HW_.out (by kernel_rfl)) (fun _ _ _ h => h) (Or.inl ⟨by rfl, ?_⟩) hHeld ?_ ?_
                                    rotate_left
                                    · rintro w' ⟨s0, s1, s2⟩
                                      go_simp
                                      with_reducible rfl
                                    rotate_left
                                    · simp only [Act.put, List.setIfInBounds_toArray, List.set_cons_zero, List.set_cons_succ, i64_w, i32_w]
                                      rfl
                                    refine pure_ (i := 14) (N := some 102) (v := ?_) (a' := ?_) #[true, true, true, true, true, true, true, true, true, true, true, true, true, true, true, false, false, false, false] rfl rfl (any_of HT_.out (by kernel_rfl)) (fun _ _ _ h => h) (Or.inl ⟨by rfl, ?_⟩) ?_ ?_
                                    rotate_left
                                    · intro w'
                                      go_simp
                                      with_reducible rfl
                                    rotate_left
                                    · simp only [Act.put, List.setIfInBounds_toArray, List.set_cons_zero, List.set_cons_succ, i64_w, i32_w]
                                      rfl
                                    refine pure_ (i := 15) (N := some 103) (v := ?_) (a' := ?_) #[true, true, true, true, true, true, true, true, true, true, true, true, true, true, true, true, false, false, false] rfl rfl (any_of HT_.out (by kernel_rfl)) (fun _ _ _ h => h) (Or.inl ⟨by rfl, ?_⟩) ?_ ?_
                                    rotate_left
                                    · intro w'
                                      go_simp
                                      with_reducible rfl
                                    rotate_left
                                    · simp only [Act.put, List.setIfInBounds_toArray, List.set_cons_zero, List.set_cons_succ, i64_w, i32_w]
                                      rfl
                                    refine pure_ (i := 16) (N := some 104) (v := ?_) (a' := ?_) #[true, true, true, true, true, true, true, true, true, true, true, true, true, true, true, true, true, false, false] rfl rfl (any_of HT_.out (by kernel_rfl)) (fun _ _ _ h => h) (Or.inl ⟨by rfl, ?_⟩) ?_ ?_
                                    rotate_left
                                    · intro w'
                                      go_simp
                                      with_reducible rfl
                                    rotate_left
                                    · simp only [Act.put, List.setIfInBounds_toArray, List.set_cons_zero, List.set_cons_succ, i64_w, i32_w]
                                      rfl
                                    refine pure_ (i := 17) (N := some 105) (v := ?_) (a' := ?_) #[true, true, true, true, true, true, true, true, true, true, true, true, true, true, true, true, true, true, false] rfl rfl (any_of HT_.out (by kernel_rfl)) (fun _ _ _ h => h) (Or.inl ⟨by rfl, ?_⟩) ?_ ?_
                                    rotate_left
                                    · intro w'
                                      go_simp
                                      with_reducible rfl
                                    rotate_left
                                    · simp only [Act.put, List.setIfInBounds_toArray, List.set_cons_zero, List.set_cons_succ, i64_w, i32_w]
                                      rfl
                                    refine one_ (i := 18) (N := none) #[true, true, true, true, true, true, true, true, true, true, true, true, true, true, true, true, true, true, true] rfl rfl (one_of HT_.out (by kernel_rfl)) (by decide) (fun K hK => ?_)
                                    have hs82 : w81.cell? ⟨gb134, 0, none⟩ = some (.int .i64 0) := (blk_cell BK134.out 0).trans rfl
                                    have hfs82 := blk_frozen BK134.out 0
                                    have hns82_1 := NB138_134.out
                                    have hms82_1 := NB134_138.out
                                    have hs83 : w81.cell? ⟨gb134, 1, none⟩ = some (.int .i64 0) := (blk_cell BK134.out 1).trans rfl
                                    have hfs83 := blk_frozen BK134.out 1
                                    have hns83_1 := NB138_134.out
                                    have hms83_1 := NB134_138.out
                                    have hs84 : w81.cell? ⟨gb134, 2, none⟩ = some (.int .i64 0) := (blk_cell BK134.out 2).trans rfl
                                    have hfs84 := blk_frozen BK134.out 2
                                    have hns84_1 := NB138_134.out
                                    have hms84_1 := NB134_138.out
                                    have hs85 : w81.cell? ⟨gb134, 3, none⟩ = some (.int .u64 0) := (blk_cell BK134.out 3).trans rfl
                                    have hfs85 := blk_frozen BK134.out 3
                                    have hns85_1 := NB138_134.out
                                    have hms85_1 := NB134_138.out
                                    refine skip_ (w1 := ?_) (by rfl) rfl ?_ ?_
                                    rotate_left
                                    · go_simp
                                      rfl
                                    refine hK.out _ _ ⟨((cell_far (p := ⟨gb134, _, none⟩) NB138_134.out _).trans (((cell_far (p := ⟨gb134, _, none⟩) NB138_134.out _).trans (((cell_far (p := ⟨gb134, _, none⟩) NB138_134.out _).trans (((cell_far (p := ⟨gb134, _, none⟩) NB138_134.out _).trans (hHeld.1)))))))), ((cell_far (p := ⟨gb134, _, none⟩) NB138_134.out _).trans (((cell_far (p := ⟨gb134, _, none⟩) NB138_134.out _).trans (((cell_far (p := ⟨gb134, _, none⟩) NB138_134.out _).trans (((cell_far (p := ⟨gb134, _, none⟩) NB138_134.out _).trans (hHeld.2.1)))))))), ((cell_far (p := ⟨gb134, _, none⟩) NB138_134.out _).trans (((cell_far (p := ⟨gb134, _, none⟩) NB138_134.out _).trans (((cell_far (p := ⟨gb134, _, none⟩) NB138_134.out _).trans (((cell_far (p := ⟨gb134, _, none⟩) NB138_134.out _).trans (hHeld.2.2))))))))⟩ (fun hHeld => ?_)
                                    clear hK K
                                    refine done_ (done_of HT_.out (by kernel_rfl)) ?_
                                    try go_wp2
                                    refine bodyPost_ret (results_cell_row rfl _ _ gb134 24 #[.int .i64 1, .int .i64 (wrap64 (ji22)), .int .i64 (wrap64 ((wrap64 ((wrap64 ((wrap64 ((wrap64 ((Go.bits .and .u64 (ji25) t142))) - 1)) + t136)) - t135)) + 1)), .int .u64 (Go.bits .or .u64 (Go.bits .and .u64 a1 (IntKind.u64.wrap ((ji28) - 1))) (ji80))] (0, 0) _ rfl (by (with_reducible repeat (first | refine blk_drewN ?_ _ | refine blk_drew ?_ | refine blk_alloc ?_ _)); refine blk_put (cs := #[.int .i64 1, .int .i64 (wrap64 (ji22)), .int .i64 (wrap64 ((wrap64 ((wrap64 ((wrap64 ((wrap64 ((Go.bits .and .u64 (ji25) t142))) - 1)) + t136)) - t135)) + 1)), .int .u64 0]) ?_ 3 _ rfl; (with_reducible repeat (first | refine blk_drewN ?_ _ | refine blk_drew ?_ | refine blk_alloc ?_ _)); refine blk_put (cs := #[.int .i64 1, .int .i64 (wrap64 (ji22)), .int .i64 0, .int .u64 0]) ?_ 2 _ rfl; (with_reducible repeat (first | refine blk_drewN ?_ _ | refine blk_drew ?_ | refine blk_alloc ?_ _)); refine blk_put (cs := #[.int .i64 1, .int .i64 0, .int .i64 0, .int .u64 0]) ?_ 1 _ rfl; (with_reducible repeat (first | refine blk_drewN ?_ _ | refine blk_drew ?_ | refine blk_alloc ?_ _)); refine blk_put (cs := #[.int .i64 0, .int .i64 0, .int .i64 0, .int .u64 0]) ?_ 0 _ rfl; (with_reducible repeat (first | refine blk_drewN ?_ _ | refine blk_drew ?_ | refine blk_alloc ?_ _)); exact BK134.out) Tryd.underlying24 rfl (by kernel_rfl)) rfl ?_
                                    exact ⟨by first | rfl | (simp [errW_none, errW_some] <;> rfl) | (simp only [← hji20, ← hji22, ← hji23, ← hji25, ← hji28, ← hji78, ← hji80]; first | rfl | (simp [errW_none, errW_some] <;> rfl)) | (simp [*, errW_none, errW_some] <;> rfl), zb⟩
                                  · rw [if_neg c79] at H
                                    exact absurd H (by simp)
                                · rw [if_neg c77] at H
                                  have c77b0 : decide (0 < (Go.bits .and .u64 (ji25) t142)) = false := decide_eq_false c77
                                  clear c77
                                  replace H := Option.bind_eq_some_iff.mp H
                                  obtain ⟨t146, A860, H⟩ := H
                                  replace H : (if 0 ≤ (wrap64 (t146 - (wrap64 (128 - t135)))) then (some (1, (wrap64 (ji22)), wrap64 ((wrap64 ((wrap64 (t136 - t135)) + 1)) - (wrap64 (t146 - (wrap64 (128 - t135))))), shl .u64 (Go.bits .and .u64 a1 (IntKind.u64.wrap ((ji28) - 1))) (wrap64 (t146 - (wrap64 (128 - t135)))))) else (none)) = some (r1, r2, r3, r4) := H
                                  have A86 := Aside0.mk A860
                                  clear A860
                                  obtain ⟨ji87, hji87⟩ : ∃ j_ : Int, (wrap64 (t146 - (wrap64 (128 - t135)))) = j_ := ⟨_, rfl⟩
                                  replace H : (if 0 ≤ (ji87) then (some (1, (wrap64 (ji22)), wrap64 ((wrap64 ((wrap64 (t136 - t135)) + 1)) - (ji87)), shl .u64 (Go.bits .and .u64 a1 (IntKind.u64.wrap ((ji28) - 1))) (ji87))) else (none)) = some (r1, r2, r3, r4) := by first | (rw [hji87] at H; exact H) | (simp only [hji87] at H ⊢; exact H)
                                  (try (have hji87B0 : ji87 ≤ 64 := by omega))
                                  (try (have hji87B1 : ji87 ≤ 1152921504606846975 := by omega))
                                  (try (have hji87B2 : -1152921504606846976 ≤ ji87 := by omega))
                                  (try rw [hji87] at A86)
                                  have hji87w : (IntKind.i64.wrap (t146 - (wrap64 (128 - t135)))) = ji87 := (i64_w _).trans hji87
                                  by_cases c88 : 0 ≤ (ji87)
                                  · rw [if_pos c88] at H
                                    have c88b0 := eq_true c88
                                    have c88b1 : decide (0 ≤ (ji87)) = true := decide_eq_true c88
                                    clear c88
                                    obtain ⟨ji89, hji89⟩ : ∃ j_ : Int, (shl .u64 (Go.bits .and .u64 a1 (IntKind.u64.wrap ((ji28) - 1))) (ji87)) = j_ := ⟨_, rfl⟩
                                    replace H : (some (1, (wrap64 (ji22)), wrap64 ((wrap64 ((wrap64 (t136 - t135)) + 1)) - (ji87)), ji89)) = some (r1, r2, r3, r4) := by first | (rw [hji89] at H; exact H) | (simp only [hji89] at H ⊢; exact H)
                                    (try rw [hji89] at A86)
                                    have hji89_ : (IntKind.u64.wrap ((Go.bits .and .u64 a1 (IntKind.u64.wrap ((ji28) - 1))) * 2 ^ min (ji87).toNat 64)) = ji89 := hji89
                                    have hji89z : (ji87) ≤ 64 → (IntKind.u64.wrap ((Go.bits .and .u64 a1 (IntKind.u64.wrap ((ji28) - 1))) * 2 ^ (ji87).toNat)) = ji89 := shl_small hji89
                                    simp only [Option.some.injEq, Prod.mk.injEq] at H
                                    obtain ⟨rfl, rfl, rfl, rfl⟩ := H
                                    try go_wp2
                                    have n0_ := Aside0.mk (blk_drew BK134.out)
                                    have n1_ := Aside0.mk (blk_drew BK138.out)
                                    have n2_ := Aside0.mk (below_drew1 HB.out)
                                    clear BK134
                                    clear BK138
                                    clear HB
                                    have BK134 := n0_
                                    have BK138 := n1_
                                    have HB := n2_
                                    clear n0_ n1_ n2_
                                    refine start_ (n := 8) (S := fun w' => w'.cell? ⟨gb138, 0, none⟩ = some (.int .i64 t135) ∧ w'.cell? ⟨gb138, 1, none⟩ = some (.int .i64 t136) ∧ w'.cell? ⟨gb138, 2, none⟩ = some (.int .i64 t137)) (ds := []) #[false, false, false, false, false, false, false, false] (by kernel_rfl) rfl rfl ⟨(blk_cell BK138.out 0).trans rfl, (blk_cell BK138.out 1).trans rfl, (blk_cell BK138.out 2).trans rfl⟩ (fun hHeld => ?_); refine with_tabW impl_Unpack.tab17 impl_Unpack.bits17 (fun HT_ HW_ => ?_)
                                    generalize wc.drew = w90 at BK134 BK138 HB hHeld ⊢
                                    refine pure_ (i := 0) (N := some 106) (v := ?_) (a' := ?_) #[true, false, false, false, false, false, false, false] rfl rfl (any_of HT_.out (by kernel_rfl)) (fun _ _ _ h => h) (Or.inl ⟨by rfl, ?_⟩) ?_ ?_
                                    rotate_left
                                    · intro w'
                                      go_simp
                                      with_reducible rfl
                                    rotate_left
                                    · simp only [Act.put, List.setIfInBounds_toArray, List.set_cons_zero, List.set_cons_succ, i64_w, i32_w]
                                      rfl
                                    refine pure_ (i := 1) (N := some 107) (v := ?_) (a' := ?_) #[true, true, false, false, false, false, false, false] rfl rfl (any_of HT_.out (by kernel_rfl)) (fun _ _ _ h => h) (Or.inl ⟨by rfl, ?_⟩) ?_ ?_
                                    rotate_left
                                    · intro w'
                                      go_simp
                                      with_reducible rfl
                                    rotate_left
                                    · simp only [Act.put, List.setIfInBounds_toArray, List.set_cons_zero, List.set_cons_succ, i64_w, i32_w]
                                      rfl
                                    refine pure_ (i := 3) (N := some 109) (v := ?_) (a' := ?_) #[true, true, false, true, false, false, false, false] rfl rfl (any_of HT_.out (by kernel_rfl)) (fun _ _ _ h => h) (Or.inl ⟨by rfl, ?_⟩) ?_ ?_
                                    rotate_left
                                    · intro w'
                                      go_simp
                                      with_reducible rfl
                                    rotate_left
                                    · simp only [Act.put, List.setIfInBounds_toArray, List.set_cons_zero, List.set_cons_succ, i64_w, i32_w]
                                      rfl
                                    refine take_ (i := 4) (N := some 110) (v := ?_) (a' := ?_) #[true, true, false, true, true, false, false, false] rfl rfl (take_ofW HT_.out HW_.out (by kernel_rfl)) (fun _ _ _ h => h) (Or.inl ⟨by rfl, ?_⟩) hHeld ?_ ?_
                                    rotate_left
                                    · rintro w' ⟨s0, s1, s2⟩
                                      go_simp
                                      with_reducible rfl
                                    rotate_left
                                    · simp only [Act.put, List.setIfInBounds_toArray, List.set_cons_zero, List.set_cons_succ, i64_w, i32_w]
                                      rfl
                                    refine pure_ (i := 5) (N := some 111) (v := ?_) (a' := ?_) #[true, true, false, true, true, true, false, false] rfl rfl (any_of HT_.out (by kernel_rfl)) (fun _ _ _ h => h) (Or.inl ⟨by rfl, ?_⟩) ?_ ?_
                                    rotate_left
                                    · intro w'
                                      go_simp
                                      with_reducible rfl
                                    rotate_left
                                    · simp only [Act.put, List.setIfInBounds_toArray, List.set_cons_zero, List.set_cons_succ, i64_w, i32_w]
                                      rfl
                                    refine one_ (i := 2) (N := some 108) #[true, true, true, true, true, true, false, false] rfl rfl (one_of HT_.out (by kernel_rfl)) (by decide) (fun K hK => ?_)
                                    refine goes_ Tryd.func35 (by kernel_rfl) rfl #[.agg #[.int .u64 0, .int .u64 (Go.bits .and .u64 a1 (IntKind.u64.wrap ((ji28) - 1)))]] (by rfl) rfl rfl (by (try simp only [List.map_toArray, List.map_cons, List.map_nil]); first | done | (simp only [hji28]; rfl) | rfl | (simp only [List.length_drop, List.length_take]; rfl)) ?_
                                    with_reducible refine (impl_Zeros.calls 0 (Go.bits .and .u64 a1 (IntKind.u64.wrap ((ji28) - 1))) t146 _ A86.out).mono ?_
                                    rintro e w91 ⟨rfl, hb⟩
                                    refine ⟨_, rfl, ?_⟩
                                    have n0_ := za BK134 hb
                                    have n1_ := za BK138 hb
                                    have n2_ := Aside0.mk (below_step zb hb)
                                    clear BK134
                                    clear BK138
                                    clear HB
                                    have BK134 := n0_
                                    have BK138 := n1_
                                    have HB := n2_
                                    clear n0_ n1_ n2_
                                    (try clear hb)
                                    (try clear hb2)
                                    (try clear hk)
                                    (try clear hi)
                                    refine hK.out _ _ ⟨(blk_cell BK138.out 0).trans rfl, (blk_cell BK138.out 1).trans rfl, (blk_cell BK138.out 2).trans rfl⟩ (fun hHeld => ?_)
                                    clear hK K
                                    refine norm_ (a' := ?_) ?_ ?_
                                    rotate_left
                                    · show Act.put _ (some 108) _ = _
                                      simp only [Act.put, List.setIfInBounds_toArray, List.set_cons_zero, List.set_cons_succ, i64_w, i32_w]
                                      rfl
                                    refine pure_ (i := 6) (N := some 112) (v := ?_) (a' := ?_) #[true, true, true, true, true, true, true, false] rfl rfl (any_of HT_.out (by kernel_rfl)) (fun _ _ _ h => h) (Or.inl ⟨by rfl, ?_⟩) ?_ ?_
                                    rotate_left
                                    · intro w'
                                      go_simp
                                      with_reducible rfl
                                    rotate_left
                                    · simp only [Act.put, List.setIfInBounds_toArray, List.set_cons_zero, List.set_cons_succ, i64_w, i32_w]
                                      rfl
                                    refine pure_ (i := 7) (N := some 9) (v := ?_) (a' := ?_) #[true, true, true, true, true, true, true, true] rfl rfl (any_of HT_.out (by kernel_rfl)) (fun _ _ _ h => h) (Or.inl ⟨by rfl, ?_⟩) ?_ ?_
                                    rotate_left
                                    · intro w'
                                      go_simp
                                      with_reducible rfl
                                    rotate_left
                                    · simp only [Act.put, List.setIfInBounds_toArray, List.set_cons_zero, List.set_cons_succ, i64_w, i32_w]
                                      rfl
                                    refine done_ (done_of HT_.out (by kernel_rfl)) ?_
                                    try go_wp2
                                    have n0_ := Aside0.mk (blk_drew BK134.out)
                                    have n1_ := Aside0.mk (blk_drew BK138.out)
                                    have n2_ := Aside0.mk (below_drew1 HB.out)
                                    clear BK134
                                    clear BK138
                                    clear HB
                                    have BK134 := n0_
                                    have BK138 := n1_
                                    have HB := n2_
                                    clear n0_ n1_ n2_
                                    refine start_ (n := 14) (S := fun w' => w'.cell? ⟨gb138, 0, none⟩ = some (.int .i64 t135) ∧ w'.cell? ⟨gb138, 1, none⟩ = some (.int .i64 t136) ∧ w'.cell? ⟨gb138, 2, none⟩ = some (.int .i64 t137)) (ds := []) #[false, false, false, false, false, false, false, false, false, false, false, false, false, false] (by kernel_rfl) rfl rfl ⟨(blk_cell BK138.out 0).trans rfl, (blk_cell BK138.out 1).trans rfl, (blk_cell BK138.out 2).trans rfl⟩ (fun hHeld => ?_); refine with_tabW impl_Unpack.tab18 impl_Unpack.bits18 (fun HT_ HW_ => ?_)
                                    generalize w91.drew = w92 at BK134 BK138 HB hHeld ⊢
                                    refine pure_ (i := 0) (N := some 113) (v := ?_) (a' := ?_) #[true, false, false, false, false, false, false, false, false, false, false, false, false, false] rfl rfl (any_of HT_.out (by kernel_rfl)) (fun _ _ _ h => h) (Or.inl ⟨by rfl, ?_⟩) ?_ ?_
                                    rotate_left
                                    · intro w'
                                      go_simp
                                      with_reducible rfl
                                    rotate_left
                                    · simp only [Act.put, List.setIfInBounds_toArray, List.set_cons_zero, List.set_cons_succ, i64_w, i32_w]
                                      rfl
                                    refine pure_ (i := 1) (N := some 114) (v := ?_) (a' := ?_) #[true, true, false, false, false, false, false, false, false, false, false, false, false, false] rfl rfl (any_of HT_.out (by kernel_rfl)) (fun _ _ _ h => h) (Or.inl ⟨by rfl, ?_⟩) ?_ ?_
                                    rotate_left
                                    · intro w'
                                      go_simp
                                      with_reducible rfl
                                    rotate_left
                                    · simp only [Act.put, List.setIfInBounds_toArray, List.set_cons_zero, List.set_cons_succ, i64_w, i32_w]
                                      rfl
                                    refine pure_ (i := 3) (N := some 116) (v := ?_) (a' := ?_) #[true, true, false, true, false, false, false, false, false, false, false, false, false, false] rfl rfl (any_of HT_.out (by kernel_rfl)) (fun _ _ _ h => h) (Or.inl ⟨by rfl, ?_⟩) ?_ ?_
                                    rotate_left
                                    · intro w'
                                      go_simp
                                      with_reducible rfl
                                    rotate_left
                                    · simp only [Act.put, List.setIfInBounds_toArray, List.set_cons_zero, List.set_cons_succ, i64_w, i32_w]
                                      rfl
                                    refine pure_ (i := 7) (N := some 120) (v := ?_) (a' := ?_) #[true, true, false, true, false, false, false, true, false, false, false, false, false, false] rfl rfl (any_of HT_.out (by kernel_rfl)) (fun _ _ _ h => h) (Or.inl ⟨by rfl, ?_⟩) ?_ ?_
                                    rotate_left
                                    · intro w'
                                      go_simp
                                      with_reducible rfl
                                    rotate_left
                                    · simp only [Act.put, List.setIfInBounds_toArray, List.set_cons_zero, List.set_cons_succ, i64_w, i32_w]
                                      rfl
                                    refine pure_ (i := 9) (N := some 122) (v := ?_) (a' := ?_) #[true, true, false, true, false, false, false, true, false, true, false, false, false, false] rfl rfl (any_of HT_.out (by kernel_rfl)) (fun _ _ _ h => h) (Or.inl ⟨by rfl, ?_⟩) ?_ ?_
                                    rotate_left
                                    · intro w'
                                      go_simp
                                      with_reducible rfl
                                    rotate_left
                                    · simp only [Act.put, List.setIfInBounds_toArray, List.set_cons_zero, List.set_cons_succ, i64_w, i32_w]
                                      rfl
                                    refine pure_ (i := 10) (N := some 123) (v := ?_) (a' := ?_) #[true, true, false, true, false, false, false, true, false, true, true, false, false, false] rfl rfl (any_of HT_.out (by kernel_rfl)) (fun _ _ _ h => h) (Or.inl ⟨by rfl, ?_⟩) ?_ ?_
                                    rotate_left
                                    · intro w'
                                      go_simp
                                      with_reducible rfl
                                    rotate_left
                                    · simp only [Act.put, List.setIfInBounds_toArray, List.set_cons_zero, List.set_cons_succ, i64_w, i32_w]
                                      rfl
                                    refine pure_ (i := 11) (N := some 124) (v := ?_) (a' := ?_) #[true, true, false, true, false, false, false, true, false, true, true, true, false, false] rfl rfl (any_of HT_.out (by kernel_rfl)) (fun _ _ _ h => h) (Or.inl ⟨by rfl, ?_⟩) ?_ ?_
                                    rotate_left
                                    · intro w'
                                      go_simp
                                      with_reducible rfl
                                    rotate_left
                                    · simp only [Act.put, List.setIfInBounds_toArray, List.set_cons_zero, List.set_cons_succ, i64_w, i32_w]
                                      rfl
                                    refine take_ (i := 2) (N := some 115) (v := ?_) (a' := ?_) #[true, true, true, true, false, false, false, true, false, true, true, true, false, false] rfl rfl (take_ofW HT_.out HW_.out (by kernel_rfl)) (fun _ _ _ h => h) (Or.inl ⟨by rfl, ?_⟩) hHeld ?_ ?_
                                    rotate_left
                                    · rintro w' ⟨s0, s1, s2⟩
                                      go_simp
                                      with_reducible rfl
                                    rotate_left
                                    · simp only [Act.put, List.setIfInBounds_toArray, List.set_cons_zero, List.set_cons_succ, i64_w, i32_w]
                                      rfl
                                    refine take_ (i := 4) (N := some 117) (v := ?_) (a' := ?_) #[true, true, true, true, true, false, false, true, false, true, true, true, false, false] rfl rfl (take_ofW HT_.out HW_.out (by kernel_rfl)) (fun _ _ _ h => h) (Or.inl ⟨by rfl, ?_⟩) hHeld ?_ ?_
                                    rotate_left
                                    · rintro w' ⟨s0, s1, s2⟩
                                      go_simp
                                      with_reducible rfl
                                    rotate_left
                                    · simp only [Act.put, List.setIfInBounds_toArray, List.set_cons_zero, List.set_cons_succ, i64_w, i32_w]
                                      rfl
                                    refine pure_ (i := 5) (N := some 118) (v := ?_) (a' := ?_) #[true, true, true, true, true, true, false, true, false, true, true, true, false, false] rfl rfl (any_of HT_.out (by kernel_rfl)) (fun _ _ _ h => h) (Or.inl ⟨by rfl, ?_⟩) ?_ ?_
                                    rotate_left
                                    · intro w'
                                      go_simp
                                      with_reducible rfl
                                    rotate_left
                                    · simp only [Act.put, List.setIfInBounds_toArray, List.set_cons_zero, List.set_cons_succ, i64_w, i32_w]
                                      rfl
                                    refine pure_ (i := 6) (N := some 119) (v := ?_) (a' := ?_) #[true, true, true, true, true, true, true, true, false, true, true, true, false, false] rfl rfl (any_of HT_.out (by kernel_rfl)) (fun _ _ _ h => h) (Or.inl ⟨by rfl, ?_⟩) ?_ ?_
                                    rotate_left
                                    · intro w'
                                      go_simp
                                      with_reducible rfl
                                    rotate_left
                                    · simp only [Act.put, List.setIfInBounds_toArray, List.set_cons_zero, List.set_cons_succ, i64_w, i32_w]
                                      rfl
                                    refine pure_ (i := 8) (N := some 121) (v := ?_) (a' := ?_) #[true, true, true, true, true, true, true, true, true, true, true, true, false, false] rfl rfl (any_of HT_.out (by kernel_rfl)) (fun _ _ _ h => h) (Or.inl ⟨by rfl, ?_⟩) ?_ ?_
                                    rotate_left
                                    · intro w'
                                      go_simp
                                      with_reducible rfl
                                    rotate_left
                                    · simp only [Act.put, List.setIfInBounds_toArray, List.set_cons_zero, List.set_cons_succ, i64_w, i32_w]
                                      rfl
                                    refine pure_ (i := 12) (N := some 125) (v := ?_) (a' := ?_) #[true, true, true, true, true, true, true, true, true, true, true, true, true, false] rfl rfl (any_of HT_.out (by kernel_rfl)) (fun _ _ _ h => h) (Or.inl ⟨by rfl, ?_⟩) ?_ ?_
                                    rotate_left
                                    · intro w'
                                      go_simp
                                      with_reducible rfl
                                    rotate_left
                                    · simp only [Act.put, List.setIfInBounds_toArray, List.set_cons_zero, List.set_cons_succ, i64_w, i32_w]
                                      rfl
                                    refine one_ (i := 13) (N := none) #[true, true, true, true, true, true, true, true, true, true, true, true, true, true] rfl rfl (one_of HT_.out (by kernel_rfl)) (by decide) (fun K hK => ?_)
                                    have hs93 : w92.cell? ⟨gb134, 0, none⟩ = some (.int .i64 0) := (blk_cell BK134.out 0).trans rfl
                                    have hfs93 := blk_frozen BK134.out 0
                                    have hns93_1 := NB138_134.out
                                    have hms93_1 := NB134_138.out
                                    have hs94 : w92.cell? ⟨gb134, 1, none⟩ = some (.int .i64 0) := (blk_cell BK134.out 1).trans rfl
                                    have hfs94 := blk_frozen BK134.out 1
                                    have hns94_1 := NB138_134.out
                                    have hms94_1 := NB134_138.out
                                    have hs95 : w92.cell? ⟨gb134, 2, none⟩ = some (.int .i64 0) := (blk_cell BK134.out 2).trans rfl
                                    have hfs95 := blk_frozen BK134.out 2
                                    have hns95_1 := NB138_134.out
                                    have hms95_1 := NB134_138.out
                                    have hs96 : w92.cell? ⟨gb134, 3, none⟩ = some (.int .u64 0) := (blk_cell BK134.out 3).trans rfl
                                    have hfs96 := blk_frozen BK134.out 3
                                    have hns96_1 := NB138_134.out
                                    have hms96_1 := NB134_138.out
                                    refine skip_ (w1 := ?_) (by rfl) rfl ?_ ?_
                                    rotate_left
                                    · go_simp
                                      rfl
                                    refine hK.out _ _ ⟨((cell_far (p := ⟨gb134, _, none⟩) NB138_134.out _).trans (((cell_far (p := ⟨gb134, _, none⟩) NB138_134.out _).trans (((cell_far (p := ⟨gb134, _, none⟩) NB138_134.out _).trans (((cell_far (p := ⟨gb134, _, none⟩) NB138_134.out _).trans (hHeld.1)))))))), ((cell_far (p := ⟨gb134, _, none⟩) NB138_134.out _).trans (((cell_far (p := ⟨gb134, _, none⟩) NB138_134.out _).trans (((cell_far (p := ⟨gb134, _, none⟩) NB138_134.out _).trans (((cell_far (p := ⟨gb134, _, none⟩) NB138_134.out _).trans (hHeld.2.1)))))))), ((cell_far (p := ⟨gb134, _, none⟩) NB138_134.out _).trans (((cell_far (p := ⟨gb134, _, none⟩) NB138_134.out _).trans (((cell_far (p := ⟨gb134, _, none⟩) NB138_134.out _).trans (((cell_far (p := ⟨gb134, _, none⟩) NB138_134.out _).trans (hHeld.2.2))))))))⟩ (fun hHeld => ?_)
                                    clear hK K
                                    refine done_ (done_of HT_.out (by kernel_rfl)) ?_
                                    try go_wp2
                                    refine bodyPost_ret (results_cell_row rfl _ _ gb134 24 #[.int .i64 1, .int .i64 (wrap64 (ji22)), .int .i64 (wrap64 ((wrap64 ((wrap64 (t136 - t135)) + 1)) - (ji87))), .int .u64 ji89] (0, 0) _ rfl (by (with_reducible repeat (first | refine blk_drewN ?_ _ | refine blk_drew ?_ | refine blk_alloc ?_ _)); refine blk_put (cs := #[.int .i64 1, .int .i64 (wrap64 (ji22)), .int .i64 (wrap64 ((wrap64 ((wrap64 (t136 - t135)) + 1)) - (ji87))), .int .u64 0]) ?_ 3 _ rfl; (with_reducible repeat (first | refine blk_drewN ?_ _ | refine blk_drew ?_ | refine blk_alloc ?_ _)); refine blk_put (cs := #[.int .i64 1, .int .i64 (wrap64 (ji22)), .int .i64 0, .int .u64 0]) ?_ 2 _ rfl; (with_reducible repeat (first | refine blk_drewN ?_ _ | refine blk_drew ?_ | refine blk_alloc ?_ _)); refine blk_put (cs := #[.int .i64 1, .int .i64 0, .int .i64 0, .int .u64 0]) ?_ 1 _ rfl; (with_reducible repeat (first | refine blk_drewN ?_ _ | refine blk_drew ?_ | refine blk_alloc ?_ _)); refine blk_put (cs := #[.int .i64 0, .int .i64 0, .int .i64 0, .int .u64 0]) ?_ 0 _ rfl; (with_reducible repeat (first | refine blk_drewN ?_ _ | refine blk_drew ?_ | refine blk_alloc ?_ _)); exact BK134.out) Tryd.underlying24 rfl (by kernel_rfl)) rfl ?_
                                    exact ⟨by first | rfl | (simp [errW_none, errW_some] <;> rfl) | (simp only [← hji20, ← hji22, ← hji23, ← hji25, ← hji28, ← hji87, ← hji89]; first | rfl | (simp [errW_none, errW_some] <;> rfl)) | (simp [*, errW_none, errW_some] <;> rfl), zb⟩
                                  · rw [if_neg c88] at H
                                    exact absurd H (by simp)
          · rw [if_neg c24] at H
            exact absurd H (by simp)
        · rw [if_neg c21] at H
          exact absurd H (by simp)

end Go.Proofs.YtokbmgneigdofaaDoor.PA
