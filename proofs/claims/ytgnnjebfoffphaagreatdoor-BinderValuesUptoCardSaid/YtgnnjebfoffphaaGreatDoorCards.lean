/-
  DERIVED. GIVEN WITH THE SEED: THE CARDS: each row of YtgnnjebfoffphaaGreatDoorRows.lean that lists a variable, with what it lists TIED to the program's text (the seventh form; the later family's looks); each row that meets fmt, with fmt's text TOLD by the authors' own Lean function (tested against real Go, not proved from fmt's source: count such statements apart). THE CARD IS WHAT COUNTS. Prove the row's statement (the work); the ties are given (YtgnnjebfoffphaaGreatDoorTie.lean); close each card by the builder's one call (the guide's Derived/Test/ToyasCard.lean, 'card_holds'). Laid BY PROGRAM, IN A SANDBOX (cutbox-door.mjs). By AI agents, Wed Nov 11 2026. No macro, syntax, notation, axiom, sorry.
-/
import Derived.Test.YtgnnjebfoffphaaGreatDoorRows
import GoSem.ClaimSeven
namespace Go.Proofs.YtgnnjebfoffphaaGreatDoor
namespace Rows

/-- THE TIED CARD OF 'disjointlaw15.BinderHeader'. -/
def binderHeaderCard : Claim7 := { stood := { row := binderHeaderRow, standIns := [], harness := (true, "7ca27a635f2ac6180dafeb94c819819a52376532178e01c70af4c0cf7c3a2268"), looks := false }, kinds := [], alts := [], laidByText := true, laidKinds := [.data, .data, .data, .data, .pinned], laidTests := true, laidLooks := .later }
def BinderHeaderCardSaid : Prop := Claim7.holds Tryz.pinned (.plain (OpenSpec.ofChange binderHeaderSpec)) binderHeaderCard

/-- THE TIED CARD OF 'disjointlaw15.BinderAgain'. -/
def binderAgainCard : Claim7 := { stood := { row := binderAgainRow, standIns := [], harness := (true, "7ca27a635f2ac6180dafeb94c819819a52376532178e01c70af4c0cf7c3a2268"), looks := false }, kinds := [], alts := [], laidByText := true, laidKinds := [.data, .data, .data, .data, .pinned], laidTests := true, laidLooks := .later }
def BinderAgainCardSaid : Prop := Claim7.holds Tryz.pinned (.plain (OpenSpec.ofChange binderAgainSpec)) binderAgainCard

/-- THE TIED CARD OF 'disjointlaw15.BinderValues'. -/
def binderValuesCard : Claim7 := { stood := { row := binderValuesRow, standIns := [], harness := (true, "7ca27a635f2ac6180dafeb94c819819a52376532178e01c70af4c0cf7c3a2268"), looks := false }, kinds := [], alts := [], laidByText := true, laidKinds := [.data, .data, .data, .data, .pinned], laidTests := true, laidLooks := .later }
def BinderValuesCardSaid : Prop := Claim7.holds Tryz.pinned (.plain (OpenSpec.ofChange binderValuesSpec)) binderValuesCard

/-- THE SECOND FORM's CARD OF 'disjointlaw15.BinderHeader'. -/
def binderHeaderUptoCard : Claim7 := { stood := { row := binderHeaderUptoRow, standIns := [], harness := (true, "7ca27a635f2ac6180dafeb94c819819a52376532178e01c70af4c0cf7c3a2268"), looks := false }, kinds := [], alts := [], laidByText := true, laidKinds := [.data, .data, .data, .data, .pinned], laidTests := true, laidLooks := .later }
def BinderHeaderUptoCardSaid : Prop := Claim7.holds Tryz.pinned (.plain (OpenSpec.upto binderHeaderSpec)) binderHeaderUptoCard

/-- THE SECOND FORM's CARD OF 'disjointlaw15.BinderAgain'. -/
def binderAgainUptoCard : Claim7 := { stood := { row := binderAgainUptoRow, standIns := [], harness := (true, "7ca27a635f2ac6180dafeb94c819819a52376532178e01c70af4c0cf7c3a2268"), looks := false }, kinds := [], alts := [], laidByText := true, laidKinds := [.data, .data, .data, .data, .pinned], laidTests := true, laidLooks := .later }
def BinderAgainUptoCardSaid : Prop := Claim7.holds Tryz.pinned (.plain (OpenSpec.upto binderAgainSpec)) binderAgainUptoCard

/-- THE SECOND FORM's CARD OF 'disjointlaw15.BinderValues'. -/
def binderValuesUptoCard : Claim7 := { stood := { row := binderValuesUptoRow, standIns := [], harness := (true, "7ca27a635f2ac6180dafeb94c819819a52376532178e01c70af4c0cf7c3a2268"), looks := false }, kinds := [], alts := [], laidByText := true, laidKinds := [.data, .data, .data, .data, .pinned], laidTests := true, laidLooks := .later }
def BinderValuesUptoCardSaid : Prop := Claim7.holds Tryz.pinned (.plain (OpenSpec.upto binderValuesSpec)) binderValuesUptoCard
end Rows
end Go.Proofs.YtgnnjebfoffphaaGreatDoor
