/- The listed variable impl.formats of a row: what its reading says of the world, and its reading back. -/
import Derived.Test.YtokbmgneigdofaaDoorGiven
import Derived.ChangeSame
namespace Go.Proofs.YtokbmgneigdofaaDoor.Given
open Go.RowKit Go.ChangeShapes Go.Deep
set_option linter.unusedVariables false

theorem ints3 {H : Type} {enc : TypeId × Value → H} {w : World} {sp : Nat → Bool} {held : Bool} {fuel : Nat} {c0 c1 c2 : Value} {a b c : Int} {y : DataW H × List MemPlace} (h : DataW.trod enc Tryd.prog w 0 sp held fuel 45 [c0, c1, c2] = some y)
    (hy : y.1 = .agg [.lit (.int .i64 a), .lit (.int .i64 b), .lit (.int .i64 c)]) : c0 = .int .i64 a ∧ c1 = .int .i64 b ∧ c2 = .int .i64 c := by
  obtain ⟨y0, y1, y2, n, rfl, _, h0, h1, h2⟩ := trod_struct3 Tryd.underlying45 h
  have ce : Tryd.prog.cellsOf 3 = 1 := by kernel_rfl
  simp only [ce, List.drop_zero, List.take_succ_cons, List.take_zero, List.drop_succ_cons] at h0 h1 h2
  obtain ⟨n0, e0, rfl, _⟩ := DataW.trod_int Tryd.underlying3 h0
  obtain ⟨n1, e1, rfl, _⟩ := DataW.trod_int Tryd.underlying3 h1
  obtain ⟨n2, e2, rfl, _⟩ := DataW.trod_int Tryd.underlying3 h2
  simp only [DataW.agg.injEq, List.cons.injEq, DataW.lit.injEq, Lit.int.injEq, true_and, and_true] at hy
  simp only [List.cons.injEq, and_true] at e0 e1 e2
  obtain ⟨rfl, rfl, rfl⟩ := hy
  exact ⟨e0, e1, e2⟩

theorem Gformats.of_laid {W : World} (h : laidMet Tryd.prog [("loop.example/s01330/impl.formats", Rows.laid_loop_example_s01330_impl_formats)] W) : Gformats W := by
  obtain ⟨ps, ⟨g', t', cs, fuel, p, q, hg', ht', hvar, hd, _, _⟩, _⟩ := h
  obtain rfl := Option.some.inj (Gformats.named.symm.trans hg')
  obtain rfl := Option.some.inj (Gformats.typed.symm.trans ht')
  obtain ⟨xs, m, rfl, hx, hlen, hxl, hall⟩ := DataW.trod_array Tryd.underlying60 hd
  have ce : Tryd.prog.cellsOf 45 = 3 := by kernel_rfl
  have ca : Tryd.prog.cellsOf 60 = 6 := by kernel_rfl
  rw [ca] at hlen
  have h0 := hall 0 (by omega)
  have h1 := hall 1 (by omega)
  simp only [ce] at h0 h1
  match cs, hlen, xs, hxl with
  | ⟨[c0, c1, c2, c3, c4, c5]⟩, _, [y0, y1], _ =>
    simp only [List.map_cons, List.map_nil, Rows.laid_loop_example_s01330_impl_formats, Prod.mk.injEq, DataW.agg.injEq, List.cons.injEq, and_true] at hx
    obtain ⟨⟨hx0, hx1⟩, _⟩ := hx
    obtain ⟨rfl, rfl, rfl⟩ := ints3 (c0 := c0) (c1 := c1) (c2 := c2) (y := y0) h0 hx0.symm
    obtain ⟨rfl, rfl, rfl⟩ := ints3 (c0 := c3) (c1 := c4) (c2 := c5) (y := y1) h1 hx1.symm
    exact hvar

theorem Gformats.reads {W : World} (h : Gformats W) {gn : Nat} {gt : TypeId} {cs : Array Value} (hg : Tryd.prog.globalNamed "loop.example/s01330/impl.formats" = some gn) (ht : (Tryd.prog.globals[gn]?).map (·.type) = some gt) (hvar : W.var? Tryd.prog "loop.example/s01330/impl.formats" = some cs) :
    gn = 0 ∧ gt = 60 ∧ cs = Gformats.cells := by
  obtain rfl := Option.some.inj (Gformats.named.symm.trans hg)
  obtain rfl := Option.some.inj (Gformats.typed.symm.trans ht)
  exact ⟨rfl, rfl, Option.some.inj (hvar.symm.trans h)⟩

theorem Gformats.vars {H : Type} (enc : TypeId × Value → H) (W : World) (sp : Nat → Bool) (h : Gformats W) :
    DataW.TrodVars enc Tryd.prog W sp ["loop.example/s01330/impl.formats"] [Rows.laid_loop_example_s01330_impl_formats] (MemPlace.row ⟨0, 0, none⟩ Gformats.cells.size ++ []) :=
  trodVars_mk1 Gformats.named Gformats.typed h (Gformats.trod enc W sp)

end Go.Proofs.YtokbmgneigdofaaDoor.Given
