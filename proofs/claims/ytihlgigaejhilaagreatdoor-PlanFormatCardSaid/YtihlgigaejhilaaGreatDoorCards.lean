/-
  DERIVED. GIVEN WITH THE SEED: THE CARDS: each row of YtihlgigaejhilaaGreatDoorRows.lean that lists a variable, with what it lists TIED to the program's text (the seventh form; the later family's looks); each row that meets fmt, with fmt's text TOLD by the authors' own Lean function (tested against real Go, not proved from fmt's source: count such statements apart). THE CARD IS WHAT COUNTS. Prove the row's statement (the work); the ties are given (YtihlgigaejhilaaGreatDoorTie.lean); close each card by the builder's one call (the guide's Derived/Test/ToyasCard.lean, 'card_holds'). Laid BY PROGRAM, IN A SANDBOX (cutbox-door.mjs). By AI agents, Wed Nov 11 2026. No macro, syntax, notation, axiom, sorry.
-/
import Derived.Test.YtihlgigaejhilaaGreatDoorRows
import GoSem.ClaimSeven
namespace Go.Proofs.YtihlgigaejhilaaGreatDoor
namespace Rows

/-- THE TIED CARD OF 'disjointlaw44.PlanFormat'. -/
def planFormatCard : Claim7 := { stood := { row := planFormatRow, standIns := [], harness := (true, "161c365d2e02408c6144acb337e5c12faa1c6b523919c6f7bd4125b3a3e1bc19"), looks := false }, kinds := [], alts := [], laidByText := true, laidKinds := [.data, .data, .data, .data, .pinned], laidTests := true, laidLooks := .later }
def PlanFormatCardSaid : Prop := Claim7.holds Tryz.pinned (.plain (OpenSpec.ofChange planFormatSpec)) planFormatCard

/-- THE SECOND FORM's CARD OF 'disjointlaw44.PlanFormat'. -/
def planFormatUptoCard : Claim7 := { stood := { row := planFormatUptoRow, standIns := [], harness := (true, "161c365d2e02408c6144acb337e5c12faa1c6b523919c6f7bd4125b3a3e1bc19"), looks := false }, kinds := [], alts := [], laidByText := true, laidKinds := [.data, .data, .data, .data, .pinned], laidTests := true, laidLooks := .later }
def PlanFormatUptoCardSaid : Prop := Claim7.holds Tryz.pinned (.plain (OpenSpec.upto planFormatSpec)) planFormatUptoCard
end Rows
end Go.Proofs.YtihlgigaejhilaaGreatDoor
