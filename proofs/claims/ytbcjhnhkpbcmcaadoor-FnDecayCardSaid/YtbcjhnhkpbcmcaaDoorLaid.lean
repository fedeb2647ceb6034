/- The listed variables impl.shares and impl.decays of a row that lists both. -/
import Derived.Test.YtbcjhnhkpbcmcaaDoorGiven
import Derived.OpenShut
namespace Go.Proofs.YtbcjhnhkpbcmcaaDoor.Given
open Go.RowKit Go.ChangeShapes
set_option linter.unusedVariables false
abbrev both : List (String × DataW Unit) := [("loop.example/s01330/impl.shares", Rows.laid_loop_example_s01330_impl_shares), ("loop.example/s01330/impl.decays", Rows.laid_loop_example_s01330_impl_decays)]
theorem Gshares.of_laid_shares_decays {W : World} (h : laidMet Tryd.prog both W) : Gshares W := Gshares.of_head h
theorem Gdecays.of_laid_shares_decays {W : World} (h : laidMet Tryd.prog both W) : Gdecays W := by
  obtain ⟨ps, ⟨g', t', cs, fuel, p, q, _, _, _, _, ⟨g2, t2, cs2, fuel2, p2, q2, hg2, ht2, hvar2, hd2, _, _⟩, _⟩, _⟩ := h
  obtain rfl := Option.some.inj (Gdecays.named.symm.trans hg2)
  obtain rfl := Option.some.inj (Gdecays.typed.symm.trans ht2)
  unfold Gdecays Lib.TabIs
  rw [hvar2, ← Lib.cells_of_tab Tryd.underlying36 Tryd.underlying22 (by kernel_rfl) (by kernel_rfl) hd2]
theorem vars_two {H : Type} {enc : TypeId × Value → H} {w : World} {spare : Nat → Bool} {gs : List (DataW H)} {ps : List MemPlace} (h : DataW.TrodVars enc Tryd.prog w spare ["loop.example/s01330/impl.shares", "loop.example/s01330/impl.decays"] gs ps) :
    ∃ g0 g1 t0 t1 cs0 cs1 f0 f1 d0 d1 p0 p1, gs = [d0, d1] ∧ Tryd.prog.globalNamed "loop.example/s01330/impl.shares" = some g0 ∧ Tryd.prog.globalNamed "loop.example/s01330/impl.decays" = some g1 ∧ (Tryd.prog.globals[g0]?).map (·.type) = some t0 ∧ (Tryd.prog.globals[g1]?).map (·.type) = some t1 ∧
      w.var? Tryd.prog "loop.example/s01330/impl.shares" = some cs0 ∧ w.var? Tryd.prog "loop.example/s01330/impl.decays" = some cs1 ∧ DataW.trod enc Tryd.prog w 0 spare true f0 t0 cs0.toList = some (d0, p0) ∧ DataW.trod enc Tryd.prog w 0 spare true f1 t1 cs1.toList = some (d1, p1) ∧
      ps = MemPlace.row ⟨g0, 0, none⟩ cs0.size ++ p0 ++ (MemPlace.row ⟨g1, 0, none⟩ cs1.size ++ p1) := by
  obtain ⟨g0, t0, cs0, f0, d0, p0, g1, t1, cs1, f1, d1, p1, a, b, c, d, e, f, g, i, j, k⟩ := trodVars_two h
  exact ⟨g0, g1, t0, t1, cs0, cs1, f0, f1, d0, d1, p0, p1, a, b, f, c, g, d, i, e, j, k⟩
theorem vars_two_mk {H : Type} (enc : TypeId × Value → H) (W : World) (sp : Nat → Bool) (h : Gshares W) (h' : Gdecays W) :
    DataW.TrodVars enc Tryd.prog W sp ["loop.example/s01330/impl.shares", "loop.example/s01330/impl.decays"] [Rows.laid_loop_example_s01330_impl_shares, Rows.laid_loop_example_s01330_impl_decays]
      (MemPlace.row ⟨0, 0, none⟩ Gshares.cells.size ++ [] ++ (MemPlace.row ⟨1, 0, none⟩ Gdecays.cells.size ++ [])) :=
  ⟨_, _, _, 8, [], _, Gshares.named, Gshares.typed, h, Gshares.trod enc W sp, trodVars_mk1 Gdecays.named Gdecays.typed h' (Gdecays.trod enc W sp), rfl⟩
end Go.Proofs.YtbcjhnhkpbcmcaaDoor.Given
