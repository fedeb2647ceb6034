/-
  DERIVED. GIVEN WITH THE SEED: THE PROGRAM's TIES (one call each: nine closed facts by the kernel) AND EACH ROW's TIE, after the 31st guide's Derived/Test/Toyas{Tie, Card}.lean. No idea stands in it: it is a product of the set-up. Laid BY PROGRAM, IN A SANDBOX (cutbox-door.mjs). By AI agents, Wed Nov 11 2026. No macro, syntax, notation, axiom, sorry.
-/
import Derived.Test.YtbcjhnhkpbcmcaaDoorRows
import Derived.LaidByTextLater
import Derived.SevenTiedAt
import Derived.LaidSub
import Derived.LaidOnce
namespace Go.Proofs.YtbcjhnhkpbcmcaaDoor
open Go
set_option maxRecDepth 100000
theorem seatTie1 : Tryd.prog.laidByTextLater [("loop.example/s01330/impl.shares", Rows.laid_loop_example_s01330_impl_shares), ("loop.example/s01330/impl.decays", Rows.laid_loop_example_s01330_impl_decays)] [.data, .data] true :=
  Program.laidByTextLater_by_one 19 8 39 (by kernel_rfl) (by kernel_rfl) (by kernel_rfl) (by kernel_rfl) (by kernel_rfl) (by kernel_rfl) (fun _ _ => by kernel_rfl)
theorem noOwnUnsafe : Tryd.pinned.checked.prog.headLifts.contains "ownunsafe" = false := by kernel_rfl
theorem tie : Tryd.prog.laidByTextLater [("loop.example/s01330/impl.shares", Rows.laid_loop_example_s01330_impl_shares)] [.data] true :=
  Program.laidByTextLater.sub seatTie1 ["loop.example/s01330/impl.shares"] (by kernel_rfl) (by kernel_rfl)
theorem fnExactBase_row_tie : Rows.fnExactBaseRow.laidByTextAt .later Tryd.pinned [.data] true :=
  OpenClaim.laidByTextAt_later rfl rfl tie noOwnUnsafe
theorem tie2 : Tryd.prog.laidByTextLater [("loop.example/s01330/impl.decays", Rows.laid_loop_example_s01330_impl_decays)] [.data] true :=
  Program.laidByTextLater.sub seatTie1 ["loop.example/s01330/impl.decays"] (by kernel_rfl) (by kernel_rfl)
theorem fnExactDecay_row_tie : Rows.fnExactDecayRow.laidByTextAt .later Tryd.pinned [.data] true :=
  OpenClaim.laidByTextAt_later rfl rfl tie2 noOwnUnsafe
theorem tie3 : Tryd.prog.laidByTextLater [("loop.example/s01330/impl.shares", Rows.laid_loop_example_s01330_impl_shares), ("loop.example/s01330/impl.decays", Rows.laid_loop_example_s01330_impl_decays)] [.data, .data] true :=
  Program.laidByTextLater.sub seatTie1 ["loop.example/s01330/impl.shares", "loop.example/s01330/impl.decays"] (by kernel_rfl) (by kernel_rfl)
theorem fnDecay_row_tie : Rows.fnDecayRow.laidByTextAt .later Tryd.pinned [.data, .data] true :=
  OpenClaim.laidByTextAt_later rfl rfl tie3 noOwnUnsafe
theorem fnExactBaseUpto_row_tie : Rows.fnExactBaseUptoRow.laidByTextAt .later Tryd.pinned [.data] true :=
  OpenClaim.laidByTextAt_later rfl rfl tie noOwnUnsafe
theorem fnExactDecayUpto_row_tie : Rows.fnExactDecayUptoRow.laidByTextAt .later Tryd.pinned [.data] true :=
  OpenClaim.laidByTextAt_later rfl rfl tie2 noOwnUnsafe
theorem fnDecayUpto_row_tie : Rows.fnDecayUptoRow.laidByTextAt .later Tryd.pinned [.data, .data] true :=
  OpenClaim.laidByTextAt_later rfl rfl tie3 noOwnUnsafe
end Go.Proofs.YtbcjhnhkpbcmcaaDoor
