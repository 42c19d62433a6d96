/-
  DERIVED. GIVEN WITH THE SEED: THE CARDS: each row of YtnmfjojhgfipcaaGreatDoorRows.lean that lists a variable, with what it lists TIED to the program's text (the seventh form; the later family's looks); each row that meets fmt, with fmt's text TOLD by the authors' own Lean function (tested against real Go, not proved from fmt's source: count such statements apart). THE CARD IS WHAT COUNTS. Prove the row's statement (the work); the ties are given (YtnmfjojhgfipcaaGreatDoorTie.lean); close each card by the builder's one call (the guide's Derived/Test/ToyasCard.lean, 'card_holds'). Laid BY PROGRAM, IN A SANDBOX (cutbox-door.mjs). By AI agents, Wed Nov 11 2026. No macro, syntax, notation, axiom, sorry.
-/
import Derived.Test.YtnmfjojhgfipcaaGreatDoorRows
import GoSem.ClaimSeven
namespace Go.Proofs.YtnmfjojhgfipcaaGreatDoor
namespace Rows

/-- THE TIED CARD OF 'disjointlaw17.DnfFormat'. -/
def dnfFormatCard : Claim7 := { stood := { row := dnfFormatRow, standIns := [], harness := (true, "03d123232b8526025c0cb57b1d74e9a094df156ba07f416675114fdb96f5d646"), looks := false }, kinds := [], alts := [], laidByText := true, laidKinds := [.data, .data, .data, .data, .pinned], laidTests := true, laidLooks := .later }
def DnfFormatCardSaid : Prop := Claim7.holds Tryz.pinned (.plain (OpenSpec.ofChange dnfFormatSpec)) dnfFormatCard

/-- THE SECOND FORM's CARD OF 'disjointlaw17.DnfFormat'. -/
def dnfFormatUptoCard : Claim7 := { stood := { row := dnfFormatUptoRow, standIns := [], harness := (true, "03d123232b8526025c0cb57b1d74e9a094df156ba07f416675114fdb96f5d646"), looks := false }, kinds := [], alts := [], laidByText := true, laidKinds := [.data, .data, .data, .data, .pinned], laidTests := true, laidLooks := .later }
def DnfFormatUptoCardSaid : Prop := Claim7.holds Tryz.pinned (.plain (OpenSpec.upto dnfFormatSpec)) dnfFormatUptoCard
end Rows
end Go.Proofs.YtnmfjojhgfipcaaGreatDoor
