/- Contracts of impl.formatOf (over the listed variable impl.formats) and bits.LeadingZeros64 (the library's contract), in the form in which the printed texts take them. -/
import Derived.Test.YtokbmgneigdofaaDoorProg
import Derived.Test.YtokbmgneigdofaaDoorRows
import Derived.Test.YtokbmgneigdofaaDoorShelf
import Derived.Shelf.Small.Bits
import Derived.WalkKit
import Derived.WalkSpells
import Derived.WalkSmall
import Derived.Below
import Derived.Deep.Draws
import Derived.Test.YtokbmgneigdofaaDoorWWords
import Derived.Test.YtokbmgneigdofaaDoorWZ
import Derived.Test.YtokbmgneigdofaaDoorNum
import Derived.RegionTactic
import Derived.ChangeAlike
import Derived.WalkLawsBesides
import Derived.OpenShut
import Derived.Deep.Strs
import Derived.Lib.LaidTab
import Derived.LaidMore
namespace Go.Proofs.YtokbmgneigdofaaDoor.Given
open Go.RowKit Go.Shelf Go.Proofs.YtokbmgneigdofaaDoorW.PrintWords Go.Proofs.YtokbmgneigdofaaDoorW.Z Go.Proofs.YtokbmgneigdofaaDoor.Num
set_option linter.unusedVariables false

/-! ### the listed variable impl.formats -/
def Gformats.cells : Array Value := #[.int .i64 24, .int .i64 (-126), .int .i64 127, .int .i64 53, .int .i64 (-1022), .int .i64 1023]
def Gformats (w : World) : Prop := w.var? Tryd.prog "loop.example/s01330/impl.formats" = some Gformats.cells
theorem Gformats.named : Tryd.prog.globalNamed "loop.example/s01330/impl.formats" = some 0 := by kernel_rfl
theorem Gformats.typed : (Tryd.prog.globals[0]?).map (·.type) = some 60 := by kernel_rfl
theorem Gformats.cell {w : World} (h : Gformats w) (i : Nat) : w.cell? ⟨0, i, none⟩ = Gformats.cells[i]? := World.var?_cell Gformats.named h i
theorem Gformats.lt {w : World} (h : Gformats w) : 0 < w.heap.size := World.block_lt_of_cell? w ⟨0, 0, none⟩ (h.cell 0)
theorem Gformats.below {w w' : World} (h : Gformats w) (hb : Below w.heap.size w w') : Gformats w' := var?_below hb Gformats.named h.lt h
theorem Gformats.trod {H : Type} (enc : TypeId × Value → H) (W : World) (sp : Nat → Bool) : DataW.trod enc Tryd.prog W 0 sp true 8 60 Gformats.cells.toList = some (Rows.laid_loop_example_s01330_impl_formats, []) := by kernel_rfl

/-- What the format of a number f holds: precision, least and greatest exponent. -/
def impl_formatOf.f (f : Int) : Option (Int × Int × Int) := some (if f = 0 then (24, -126, 127) else (53, -1022, 1023))

theorem impl_formatOf.calls (f : Int) (r1 r2 r3 : Int) (w : World) (hGformats : Gformats w) (h : impl_formatOf.f f = some (r1, r2, r3)) :
    Calls Tryd.prog 30 #[.int .i64 f] w fun e w' => e = .returned (.agg #[.int .i64 r1, .int .i64 r2, .int .i64 r3]) ∧ Below w.heap.size w w' := by
  have hq := Option.some.inj h
  clear h
  have c0 : w.cell? ⟨0, 0, none⟩ = some (.int .i64 24) := hGformats.cell 0
  have c1 : w.cell? ⟨0, 1, none⟩ = some (.int .i64 (-126)) := hGformats.cell 1
  have c2 : w.cell? ⟨0, 2, none⟩ = some (.int .i64 127) := hGformats.cell 2
  have c3 : w.cell? ⟨0, 3, none⟩ = some (.int .i64 53) := hGformats.cell 3
  have c4 : w.cell? ⟨0, 4, none⟩ = some (.int .i64 (-1022)) := hGformats.cell 4
  have c5 : w.cell? ⟨0, 5, none⟩ = some (.int .i64 1023) := hGformats.cell 5
  have hl := hGformats.lt
  clear hGformats
  by_cases h0 : f = 0
  · rw [if_pos h0] at hq
    simp only [Prod.mk.injEq] at hq
    obtain ⟨rfl, rfl, rfl⟩ := hq
    subst h0
    go_enter Tryd.func30, Tryd.ntmps30
    go_wp2
    refine bodyPost_ret (v := .agg #[.int .i64 (24), .int .i64 (-126), .int .i64 (127)]) (by simp [results, Tryd.results30, go_sem]) rfl ⟨rfl, ?_⟩
    repeat (first | exact Below.refl _ _ | refine Below.setCell ?_ (by simp) _ | refine pw_below_drewN ?_ _ | refine Below.drew ?_ | refine Below.alloc ?_ (by first | (simp; done) | (simp; omega)) _)
  rw [if_neg h0] at hq
  by_cases h1 : f = 1
  · subst h1
    simp only [Prod.mk.injEq] at hq
    obtain ⟨rfl, rfl, rfl⟩ := hq
    go_enter Tryd.func30, Tryd.ntmps30
    go_wp2
    refine bodyPost_ret (v := .agg #[.int .i64 (53), .int .i64 (-1022), .int .i64 (1023)]) (by simp [results, Tryd.results30, go_sem]) rfl ⟨rfl, ?_⟩
    repeat (first | exact Below.refl _ _ | refine Below.setCell ?_ (by simp) _ | refine pw_below_drewN ?_ _ | refine Below.drew ?_ | refine Below.alloc ?_ (by first | (simp; done) | (simp; omega)) _)
  · have g0 : (f == 0) = false := by simpa using h0
    have g1 : (f == 1) = false := by simpa using h1
    clear h0 h1
    simp only [Prod.mk.injEq] at hq
    obtain ⟨rfl, rfl, rfl⟩ := hq
    go_enter Tryd.func30, Tryd.ntmps30
    go_wp2
    refine bodyPost_ret (v := .agg #[.int .i64 (53), .int .i64 (-1022), .int .i64 (1023)]) (by simp [results, Tryd.results30, go_sem]) rfl ⟨rfl, ?_⟩
    repeat (first | exact Below.refl _ _ | refine Below.setCell ?_ (by simp) _ | refine pw_below_drewN ?_ _ | refine Below.drew ?_ | refine Below.alloc ?_ (by first | (simp; done) | (simp; omega)) _)

/-- How many of the 64 bits from the highest on are 0. -/
def bits_LeadingZeros64.f (a : Int) : Option Int := if Word a then some (64 - (Lib.bitLen a.toNat : Int)) else none

theorem bits_LeadingZeros64.calls (a r : Int) (w : World) (h : bits_LeadingZeros64.f a = some r) :
    Calls Tryd.prog 47 #[.int .u64 a] w fun e w' => e = .returned (.int .i64 r) ∧ Drawn0 w w' := by
  unfold bits_LeadingZeros64.f at h
  split at h
  case isFalse => cases h
  rename_i hr
  obtain rfl := Option.some.inj h
  unfold Word at hr
  refine (Tryd.bits_LeadingZeros64 a w hr.1 (by omega)).mono ?_
  rintro e w' ⟨rfl, rfl⟩
  exact ⟨rfl, 0, rfl⟩

end Go.Proofs.YtokbmgneigdofaaDoor.Given
