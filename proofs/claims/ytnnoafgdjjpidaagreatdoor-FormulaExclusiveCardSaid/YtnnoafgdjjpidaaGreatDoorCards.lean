/-
  DERIVED. GIVEN WITH THE SEED: THE CARDS: each row of YtnnoafgdjjpidaaGreatDoorRows.lean that lists a variable, with what it lists TIED to the program's text (the seventh form; the later family's looks); each row that meets fmt, with fmt's text TOLD by the authors' own Lean function (tested against real Go, not proved from fmt's source: count such statements apart). THE CARD IS WHAT COUNTS. Prove the row's statement (the work); the ties are given (YtnnoafgdjjpidaaGreatDoorTie.lean); close each card by the builder's one call (the guide's Derived/Test/ToyasCard.lean, 'card_holds'). Laid BY PROGRAM, IN A SANDBOX (cutbox-door.mjs). By AI agents, Wed Nov 11 2026. No macro, syntax, notation, axiom, sorry.
-/
import Derived.Test.YtnnoafgdjjpidaaGreatDoorRows
import GoSem.ClaimSeven
namespace Go.Proofs.YtnnoafgdjjpidaaGreatDoor
namespace Rows

/-- THE TIED CARD OF 'disjointlaw16.FormulaResults'. -/
def formulaResultsCard : Claim7 := { stood := { row := formulaResultsRow, standIns := [], harness := (true, "960e3ade2bf5877723d88dac58fdb3dde851f07bf1980b459785ae596c9d2cfa"), looks := false }, kinds := [], alts := [], laidByText := true, laidKinds := [.data, .data, .data, .data, .pinned], laidTests := true, laidLooks := .later }
def FormulaResultsCardSaid : Prop := Claim7.holds Tryz.pinned (.plain (OpenSpec.ofChange formulaResultsSpec)) formulaResultsCard

/-- THE TIED CARD OF 'disjointlaw16.FormulaExclusive'. -/
def formulaExclusiveCard : Claim7 := { stood := { row := formulaExclusiveRow, standIns := [], harness := (true, "960e3ade2bf5877723d88dac58fdb3dde851f07bf1980b459785ae596c9d2cfa"), looks := false }, kinds := [], alts := [], laidByText := true, laidKinds := [.data, .data, .data, .data, .pinned], laidTests := true, laidLooks := .later }
def FormulaExclusiveCardSaid : Prop := Claim7.holds Tryz.pinned (.plain (OpenSpec.ofChange formulaExclusiveSpec)) formulaExclusiveCard

/-- THE SECOND FORM's CARD OF 'disjointlaw16.FormulaResults'. -/
def formulaResultsUptoCard : Claim7 := { stood := { row := formulaResultsUptoRow, standIns := [], harness := (true, "960e3ade2bf5877723d88dac58fdb3dde851f07bf1980b459785ae596c9d2cfa"), looks := false }, kinds := [], alts := [], laidByText := true, laidKinds := [.data, .data, .data, .data, .pinned], laidTests := true, laidLooks := .later }
def FormulaResultsUptoCardSaid : Prop := Claim7.holds Tryz.pinned (.plain (OpenSpec.upto formulaResultsSpec)) formulaResultsUptoCard

/-- THE SECOND FORM's CARD OF 'disjointlaw16.FormulaExclusive'. -/
def formulaExclusiveUptoCard : Claim7 := { stood := { row := formulaExclusiveUptoRow, standIns := [], harness := (true, "960e3ade2bf5877723d88dac58fdb3dde851f07bf1980b459785ae596c9d2cfa"), looks := false }, kinds := [], alts := [], laidByText := true, laidKinds := [.data, .data, .data, .data, .pinned], laidTests := true, laidLooks := .later }
def FormulaExclusiveUptoCardSaid : Prop := Claim7.holds Tryz.pinned (.plain (OpenSpec.upto formulaExclusiveSpec)) formulaExclusiveUptoCard
end Rows
end Go.Proofs.YtnnoafgdjjpidaaGreatDoor
