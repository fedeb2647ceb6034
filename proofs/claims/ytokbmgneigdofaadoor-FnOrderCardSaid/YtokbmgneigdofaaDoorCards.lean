/-
  DERIVED. GIVEN WITH THE SEED: THE CARDS: each row of YtokbmgneigdofaaDoorRows.lean that lists a variable, with what it lists TIED to the program's text (the seventh form; the later family's looks); each row that meets fmt, with fmt's text TOLD by the authors' own Lean function (tested against real Go, not proved from fmt's source: count such statements apart). THE CARD IS WHAT COUNTS. Prove the row's statement (the work); the ties are given (YtokbmgneigdofaaDoorTie.lean); close each card by the builder's one call (the guide's Derived/Test/ToyasCard.lean, 'card_holds'). Laid BY PROGRAM, IN A SANDBOX (cutbox-door.mjs). By AI agents, Wed Nov 11 2026. No macro, syntax, notation, axiom, sorry.
-/
import Derived.Test.YtokbmgneigdofaaDoorRows
import GoSem.ClaimSeven
namespace Go.Proofs.YtokbmgneigdofaaDoor
namespace Rows

/-- THE TIED CARD OF 'laws.FnExactUnpack'. -/
def fnExactUnpackCard : Claim7 := { stood := { row := fnExactUnpackRow, standIns := [], harness := (true, "ac357302de94bfa005238e930a6e162ea183a9cc2d230b4984f5195d6ba24ff3"), looks := false }, kinds := [], alts := [], laidByText := true, laidKinds := [.data], laidTests := true, laidLooks := .later }
def FnExactUnpackCardSaid : Prop := Claim7.holds Tryd.pinned (.plain (OpenSpec.ofChange fnExactUnpackSpec)) fnExactUnpackCard

/-- THE TIED CARD OF 'laws.FnExactNextUp'. -/
def fnExactNextUpCard : Claim7 := { stood := { row := fnExactNextUpRow, standIns := [], harness := (true, "ac357302de94bfa005238e930a6e162ea183a9cc2d230b4984f5195d6ba24ff3"), looks := false }, kinds := [], alts := [], laidByText := true, laidKinds := [.data], laidTests := true, laidLooks := .later }
def FnExactNextUpCardSaid : Prop := Claim7.holds Tryd.pinned (.plain (OpenSpec.ofChange fnExactNextUpSpec)) fnExactNextUpCard

/-- THE TIED CARD OF 'laws.FnExactCompare'. -/
def fnExactCompareCard : Claim7 := { stood := { row := fnExactCompareRow, standIns := [], harness := (true, "ac357302de94bfa005238e930a6e162ea183a9cc2d230b4984f5195d6ba24ff3"), looks := false }, kinds := [], alts := [], laidByText := true, laidKinds := [.data], laidTests := true, laidLooks := .later }
def FnExactCompareCardSaid : Prop := Claim7.holds Tryd.pinned (.plain (OpenSpec.ofChange fnExactCompareSpec)) fnExactCompareCard

/-- THE TIED CARD OF 'laws.FnExactMaximum'. -/
def fnExactMaximumCard : Claim7 := { stood := { row := fnExactMaximumRow, standIns := [], harness := (true, "ac357302de94bfa005238e930a6e162ea183a9cc2d230b4984f5195d6ba24ff3"), looks := false }, kinds := [], alts := [], laidByText := true, laidKinds := [.data], laidTests := true, laidLooks := .later }
def FnExactMaximumCardSaid : Prop := Claim7.holds Tryd.pinned (.plain (OpenSpec.ofChange fnExactMaximumSpec)) fnExactMaximumCard

/-- THE TIED CARD OF 'laws.FnExactMinimum'. -/
def fnExactMinimumCard : Claim7 := { stood := { row := fnExactMinimumRow, standIns := [], harness := (true, "ac357302de94bfa005238e930a6e162ea183a9cc2d230b4984f5195d6ba24ff3"), looks := false }, kinds := [], alts := [], laidByText := true, laidKinds := [.data], laidTests := true, laidLooks := .later }
def FnExactMinimumCardSaid : Prop := Claim7.holds Tryd.pinned (.plain (OpenSpec.ofChange fnExactMinimumSpec)) fnExactMinimumCard

/-- THE TIED CARD OF 'laws.FnOrder'. -/
def fnOrderCard : Claim7 := { stood := { row := fnOrderRow, standIns := [], harness := (true, "ac357302de94bfa005238e930a6e162ea183a9cc2d230b4984f5195d6ba24ff3"), looks := false }, kinds := [], alts := [], laidByText := true, laidKinds := [.data], laidTests := true, laidLooks := .later }
def FnOrderCardSaid : Prop := Claim7.holds Tryd.pinned (.plain (OpenSpec.ofChange fnOrderSpec)) fnOrderCard

/-- THE SECOND FORM's CARD OF 'laws.FnExactUnpack'. -/
def fnExactUnpackUptoCard : Claim7 := { stood := { row := fnExactUnpackUptoRow, standIns := [], harness := (true, "ac357302de94bfa005238e930a6e162ea183a9cc2d230b4984f5195d6ba24ff3"), looks := false }, kinds := [], alts := [], laidByText := true, laidKinds := [.data], laidTests := true, laidLooks := .later }
def FnExactUnpackUptoCardSaid : Prop := Claim7.holds Tryd.pinned (.plain (OpenSpec.upto fnExactUnpackSpec)) fnExactUnpackUptoCard

/-- THE SECOND FORM's CARD OF 'laws.FnExactNextUp'. -/
def fnExactNextUpUptoCard : Claim7 := { stood := { row := fnExactNextUpUptoRow, standIns := [], harness := (true, "ac357302de94bfa005238e930a6e162ea183a9cc2d230b4984f5195d6ba24ff3"), looks := false }, kinds := [], alts := [], laidByText := true, laidKinds := [.data], laidTests := true, laidLooks := .later }
def FnExactNextUpUptoCardSaid : Prop := Claim7.holds Tryd.pinned (.plain (OpenSpec.upto fnExactNextUpSpec)) fnExactNextUpUptoCard

/-- THE SECOND FORM's CARD OF 'laws.FnExactCompare'. -/
def fnExactCompareUptoCard : Claim7 := { stood := { row := fnExactCompareUptoRow, standIns := [], harness := (true, "ac357302de94bfa005238e930a6e162ea183a9cc2d230b4984f5195d6ba24ff3"), looks := false }, kinds := [], alts := [], laidByText := true, laidKinds := [.data], laidTests := true, laidLooks := .later }
def FnExactCompareUptoCardSaid : Prop := Claim7.holds Tryd.pinned (.plain (OpenSpec.upto fnExactCompareSpec)) fnExactCompareUptoCard

/-- THE SECOND FORM's CARD OF 'laws.FnExactMaximum'. -/
def fnExactMaximumUptoCard : Claim7 := { stood := { row := fnExactMaximumUptoRow, standIns := [], harness := (true, "ac357302de94bfa005238e930a6e162ea183a9cc2d230b4984f5195d6ba24ff3"), looks := false }, kinds := [], alts := [], laidByText := true, laidKinds := [.data], laidTests := true, laidLooks := .later }
def FnExactMaximumUptoCardSaid : Prop := Claim7.holds Tryd.pinned (.plain (OpenSpec.upto fnExactMaximumSpec)) fnExactMaximumUptoCard

/-- THE SECOND FORM's CARD OF 'laws.FnExactMinimum'. -/
def fnExactMinimumUptoCard : Claim7 := { stood := { row := fnExactMinimumUptoRow, standIns := [], harness := (true, "ac357302de94bfa005238e930a6e162ea183a9cc2d230b4984f5195d6ba24ff3"), looks := false }, kinds := [], alts := [], laidByText := true, laidKinds := [.data], laidTests := true, laidLooks := .later }
def FnExactMinimumUptoCardSaid : Prop := Claim7.holds Tryd.pinned (.plain (OpenSpec.upto fnExactMinimumSpec)) fnExactMinimumUptoCard

/-- THE SECOND FORM's CARD OF 'laws.FnOrder'. -/
def fnOrderUptoCard : Claim7 := { stood := { row := fnOrderUptoRow, standIns := [], harness := (true, "ac357302de94bfa005238e930a6e162ea183a9cc2d230b4984f5195d6ba24ff3"), looks := false }, kinds := [], alts := [], laidByText := true, laidKinds := [.data], laidTests := true, laidLooks := .later }
def FnOrderUptoCardSaid : Prop := Claim7.holds Tryd.pinned (.plain (OpenSpec.upto fnOrderSpec)) fnOrderUptoCard
end Rows
end Go.Proofs.YtokbmgneigdofaaDoor
