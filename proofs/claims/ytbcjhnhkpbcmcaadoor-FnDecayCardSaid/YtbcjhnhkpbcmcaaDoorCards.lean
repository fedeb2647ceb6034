/-
  DERIVED. GIVEN WITH THE SEED: THE CARDS: each row of YtbcjhnhkpbcmcaaDoorRows.lean that lists a variable, with what it lists TIED to the program's text (the seventh form; the later family's looks); each row that meets fmt, with fmt's text TOLD by the authors' own Lean function (tested against real Go, not proved from fmt's source: count such statements apart). THE CARD IS WHAT COUNTS. Prove the row's statement (the work); the ties are given (YtbcjhnhkpbcmcaaDoorTie.lean); close each card by the builder's one call (the guide's Derived/Test/ToyasCard.lean, 'card_holds'). Laid BY PROGRAM, IN A SANDBOX (cutbox-door.mjs). By AI agents, Wed Nov 11 2026. No macro, syntax, notation, axiom, sorry.
-/
import Derived.Test.YtbcjhnhkpbcmcaaDoorRows
import GoSem.ClaimSeven
namespace Go.Proofs.YtbcjhnhkpbcmcaaDoor
namespace Rows

/-- THE TIED CARD OF 'laws.FnExactBase'. -/
def fnExactBaseCard : Claim7 := { stood := { row := fnExactBaseRow, standIns := [], harness := (true, "4cdb676ebbd38de5a24044eb8bdd7ee5b24f9cdef6e8b092783701295af17ed0"), looks := false }, kinds := [], alts := [], laidByText := true, laidKinds := [.data], laidTests := true, laidLooks := .later }
def FnExactBaseCardSaid : Prop := Claim7.holds Tryd.pinned (.plain (OpenSpec.ofChange fnExactBaseSpec)) fnExactBaseCard

/-- THE TIED CARD OF 'laws.FnExactDecay'. -/
def fnExactDecayCard : Claim7 := { stood := { row := fnExactDecayRow, standIns := [], harness := (true, "4cdb676ebbd38de5a24044eb8bdd7ee5b24f9cdef6e8b092783701295af17ed0"), looks := false }, kinds := [], alts := [], laidByText := true, laidKinds := [.data], laidTests := true, laidLooks := .later }
def FnExactDecayCardSaid : Prop := Claim7.holds Tryd.pinned (.plain (OpenSpec.ofChange fnExactDecaySpec)) fnExactDecayCard

/-- THE TIED CARD OF 'laws.FnDecay'. -/
def fnDecayCard : Claim7 := { stood := { row := fnDecayRow, standIns := [], harness := (true, "4cdb676ebbd38de5a24044eb8bdd7ee5b24f9cdef6e8b092783701295af17ed0"), looks := false }, kinds := [], alts := [], laidByText := true, laidKinds := [.data, .data], laidTests := true, laidLooks := .later }
def FnDecayCardSaid : Prop := Claim7.holds Tryd.pinned (.plain (OpenSpec.ofChange fnDecaySpec)) fnDecayCard

/-- THE SECOND FORM's CARD OF 'laws.FnExactBase'. -/
def fnExactBaseUptoCard : Claim7 := { stood := { row := fnExactBaseUptoRow, standIns := [], harness := (true, "4cdb676ebbd38de5a24044eb8bdd7ee5b24f9cdef6e8b092783701295af17ed0"), looks := false }, kinds := [], alts := [], laidByText := true, laidKinds := [.data], laidTests := true, laidLooks := .later }
def FnExactBaseUptoCardSaid : Prop := Claim7.holds Tryd.pinned (.plain (OpenSpec.upto fnExactBaseSpec)) fnExactBaseUptoCard

/-- THE SECOND FORM's CARD OF 'laws.FnExactDecay'. -/
def fnExactDecayUptoCard : Claim7 := { stood := { row := fnExactDecayUptoRow, standIns := [], harness := (true, "4cdb676ebbd38de5a24044eb8bdd7ee5b24f9cdef6e8b092783701295af17ed0"), looks := false }, kinds := [], alts := [], laidByText := true, laidKinds := [.data], laidTests := true, laidLooks := .later }
def FnExactDecayUptoCardSaid : Prop := Claim7.holds Tryd.pinned (.plain (OpenSpec.upto fnExactDecaySpec)) fnExactDecayUptoCard

/-- THE SECOND FORM's CARD OF 'laws.FnDecay'. -/
def fnDecayUptoCard : Claim7 := { stood := { row := fnDecayUptoRow, standIns := [], harness := (true, "4cdb676ebbd38de5a24044eb8bdd7ee5b24f9cdef6e8b092783701295af17ed0"), looks := false }, kinds := [], alts := [], laidByText := true, laidKinds := [.data, .data], laidTests := true, laidLooks := .later }
def FnDecayUptoCardSaid : Prop := Claim7.holds Tryd.pinned (.plain (OpenSpec.upto fnDecaySpec)) fnDecayUptoCard
end Rows
end Go.Proofs.YtbcjhnhkpbcmcaaDoor
