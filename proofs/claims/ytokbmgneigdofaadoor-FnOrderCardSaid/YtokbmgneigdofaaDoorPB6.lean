-- Written by gprint.py (this session's program) through the kit's print.py. Lean checks it.
import Derived.Test.YtokbmgneigdofaaDoorPB0
import Derived.Test.YtokbmgneigdofaaDoorPB5
namespace Go.Proofs.YtokbmgneigdofaaDoor.PB
open Go.Proofs.YtokbmgneigdofaaDoorW.Z
open Go.Proofs.YtokbmgneigdofaaDoor.Given
open Go.Proofs.YtokbmgneigdofaaDoor.PA
open Go.RowKit Go.Proofs.YtokbmgneigdofaaDoorW.PrintWords Go.Proofs.YtokbmgneigdofaaDoorW.PrintLast
set_option linter.unusedVariables false
set_option linter.unusedSimpArgs false

/-! ### spec_DrawCompare: function 21 -/
def spec_DrawCompare.f (k : Nat) (l0 : List Int) : Option (Int × Int × Int × Bool) := (spec_l3DrawTwo.f k l0 0).bind fun bt229 => (some (bt229.1, bt229.2.2.1, bt229.2.2.2.1, ((Int.tmod bt229.2.1 2) == 0)))
theorem spec_DrawCompare.mono : ∀ a0 k, LeO (spec_DrawCompare.f k a0) (spec_DrawCompare.f (k + 1) a0) := by
  intro a0 k
  unfold spec_DrawCompare.f
  repeat' first
      | (with_reducible exact spec_l3DrawTwo.mono _ _ _)
      | (with_reducible exact LeO.refl _)
      | (with_reducible exact LeO.none _)
      | (with_reducible refine LeO.ite ?_ ?_)
      | (with_reducible refine LeO.bind ?_ (fun _ => ?_))
      | exact spec_l3DrawTwo.mono _ _ _
      | exact LeO.none _
      | refine LeO.ite ?_ ?_
      | refine LeO.bind ?_ (fun _ => ?_)
set_option maxHeartbeats 8000000 in
set_option maxRecDepth 100000 in
theorem spec_DrawCompare.calls (k : Nat) (A0 : Option Addr) (c0 : Nat) (l0 : List Int) (r1 : Int) (r2 : Int) (r3 : Int) (r4 : Bool) (w : World) (hr0 : Kd.C (Kd.int .u8) w A0 l0.length l0) (hc0 : l0.length ≤ c0) (h : spec_DrawCompare.f k l0 = some (r1, r2, r3, r4)) :
    Calls Tryd.prog 21 #[.slice A0 l0.length c0] w fun e w' => e = .returned (.tuple #[.int .i64 r1, .int .u64 r2, .int .u64 r3, .bool r4]) ∧ Drawn0 w w' := by
  have HR0 := Aside0.mk hr0
  have HC0 := Aside0.mk hc0
  clear hr0 hc0
  have H : ((spec_l3DrawTwo.f k l0 0).bind fun bt229 => (some (bt229.1, bt229.2.2.1, bt229.2.2.2.1, ((Int.tmod bt229.2.1 2) == 0)))) = some (r1, r2, r3, r4) := h
  clear h
  replace H := Option.bind_eq_some_iff.mp H
  obtain ⟨⟨t229, t230, t231, t232, t233⟩, A20, H⟩ := H
  replace H : (some (t229, t231, t232, ((Int.tmod t230 2) == 0))) = some (r1, r2, r3, r4) := H
  have A2 := Aside0.mk A20
  clear A20
  simp only [Option.some.injEq, Prod.mk.injEq] at H
  obtain ⟨rfl, rfl, rfl, rfl⟩ := H
  go_enter Tryd.func21, Tryd.ntmps21
  go_wp2_with (first | ((with_reducible refine gate_callee (f := 44) rfl ?_); refine goesL_ (some 13) rfl rfl Tryd.func44 (by kernel_rfl) rfl #[.slice A0 l0.length c0, .int .i64 0] rfl (by (try simp only [List.map_toArray, List.map_cons, List.map_nil]); first | done | rfl | (simp only [List.length_drop, List.length_take]; rfl)) ?_; (with_reducible refine (spec_l3DrawTwo.calls k _ _ l0 0 t229 t230 t231 t232 t233 _ ?side1 ?side2 A2.out).mono ?_); (case side1 => repeat (first | exact HR0.out | (with_reducible refine Kd.C_alloc ?_ _) | (with_reducible refine Kd.C_drewN ?_ _) | (with_reducible refine Kd.C_drew ?_))); (case side2 => exact HC0.out); rintro e w' ⟨rfl, ⟨nd, rfl⟩⟩; refine ⟨_, rfl, ?_⟩))
  refine bodyPost_ret (results_list (rs := [.tmp 2, .tmp 3, .tmp 4, .tmp 5]) rfl (by simp) (.tmp (.tmp (.tmp (.tmp .nil))))) rfl ?_
  exact ⟨by first | rfl | (simp; done) | (simp [*]; done), by repeat (first | exact Drawn0.refl _ | apply Drawn0.step)⟩

/-! ### laws_wClass: function 22 -/
def laws_wClass.f (k : Nat) (a0 : Int) (a1 : Int) : Option (Int) := (spec_Unpack.f k a0 a1).bind fun bt234 => (some bt234.1)
theorem laws_wClass.mono : ∀ a0 a1 k, LeO (laws_wClass.f k a0 a1) (laws_wClass.f (k + 1) a0 a1) := by
  intro a0 a1 k
  unfold laws_wClass.f
  repeat' first
      | (with_reducible exact spec_Unpack.mono _ _ _)
      | (with_reducible exact LeO.refl _)
      | (with_reducible exact LeO.none _)
      | (with_reducible refine LeO.ite ?_ ?_)
      | (with_reducible refine LeO.bind ?_ (fun _ => ?_))
      | exact spec_Unpack.mono _ _ _
      | exact LeO.none _
      | refine LeO.ite ?_ ?_
      | refine LeO.bind ?_ (fun _ => ?_)
set_option maxHeartbeats 8000000 in
set_option maxRecDepth 100000 in
theorem laws_wClass.calls (k : Nat) (a0 : Int) (a1 : Int) (r : Int) (w : World) (h : laws_wClass.f k a0 a1 = some r) :
    Calls Tryd.prog 22 #[.int .i64 a0, .int .u64 a1] w fun e w' => e = .returned (.int .i64 r) ∧ Below w.heap.size w w' := by
  have HB := Aside0.mk (Below.refl w.heap.size w)
  have H : ((spec_Unpack.f k a0 a1).bind fun bt234 => (some bt234.1)) = some r := h
  clear h
  replace H := Option.bind_eq_some_iff.mp H
  obtain ⟨⟨t234, t235, t236, t237⟩, A30, H⟩ := H
  replace H : (some t234) = some r := H
  have A3 := Aside0.mk A30
  clear A30
  obtain rfl := Option.some.inj H
  have hfd_ : ∀ w : World, (Instr.field 24 (.agg #[.int .i64 t234, .int .i64 t235, .int .i64 t236, .int .u64 t237]) 0).run Tryd.prog w = .ok (.int .i64 t234) w := fun _ => by kernel_rfl
  go_enter Tryd.func22, Tryd.ntmps22
  go_wp2_with (first | ((with_reducible refine gate_callee (f := 9) rfl ?_); refine goesL_ (some 7) rfl rfl Tryd.func9 (by kernel_rfl) rfl #[.int .i64 a0, .int .u64 a1] rfl (by (try simp only [List.map_toArray, List.map_cons, List.map_nil]); first | done | rfl | (simp only [List.length_drop, List.length_take]; rfl)) ?_; (with_reducible refine (spec_Unpack.calls k a0 a1 t234 t235 t236 t237 _ A3.out).mono ?_); rintro e w4 ⟨rfl, hb⟩; refine ⟨_, rfl, ?_⟩; have n0_ := Aside0.mk (below_step zb hb); clear HB; have HB := n0_; clear n0_; (try clear hb); (try clear hb2); (try clear hk); (try clear hi)))
  go_ret
  exact ⟨by first | rfl | (simp [errW_none, errW_some] <;> rfl) | (simp [*, errW_none, errW_some] <;> rfl), zb⟩

end Go.Proofs.YtokbmgneigdofaaDoor.PB
