/-
  DERIVED. GIVEN WITH THE SEED: THE CARDS: each row of YtfbdokfcebpkaaaDoorRows.lean that lists a variable, with what it lists TIED to the program's text (the seventh form; the later family's looks); each row that meets fmt, with fmt's text TOLD by the authors' own Lean function (tested against real Go, not proved from fmt's source: count such statements apart). THE CARD IS WHAT COUNTS. Prove the row's statement (the work); the ties are given (YtfbdokfcebpkaaaDoorTie.lean); close each card by the builder's one call (the guide's Derived/Test/ToyasCard.lean, 'card_holds'). Laid BY PROGRAM, IN A SANDBOX (cutbox-door.mjs). By AI agents, Wed Nov 11 2026. No macro, syntax, notation, axiom, sorry.
-/
import Derived.Test.YtfbdokfcebpkaaaDoorRows
import GoSem.ClaimSeven
namespace Go.Proofs.YtfbdokfcebpkaaaDoor
namespace Rows

/-- THE TIED CARD OF 'disjointlaw13.LinearCompare'. -/
def linearCompareCard : Claim7 := { stood := { row := linearCompareRow, standIns := [], harness := (true, "09d4dd7687e66cf6e07ed1a2f879e0a21f042a3aae0b516583d896b6563929a3"), looks := false }, kinds := [], alts := [], laidByText := true, laidKinds := [.data, .data, .data], laidTests := true, laidLooks := .later }
def LinearCompareCardSaid : Prop := Claim7.holds Tryd.pinned (.plain (OpenSpec.ofChange linearCompareSpec)) linearCompareCard

/-- THE TIED CARD OF 'disjointlaw13.LinearFormat'. -/
def linearFormatCard : Claim7 := { stood := { row := linearFormatRow, standIns := [], harness := (true, "09d4dd7687e66cf6e07ed1a2f879e0a21f042a3aae0b516583d896b6563929a3"), looks := false }, kinds := [], alts := [], laidByText := true, laidKinds := [.data, .data, .data], laidTests := true, laidLooks := .later }
def LinearFormatCardSaid : Prop := Claim7.holds Tryd.pinned (.plain (OpenSpec.ofChange linearFormatSpec)) linearFormatCard

/-- THE TIED CARD OF 'disjointlaw13.LinearValid'. -/
def linearValidCard : Claim7 := { stood := { row := linearValidRow, standIns := [], harness := (true, "09d4dd7687e66cf6e07ed1a2f879e0a21f042a3aae0b516583d896b6563929a3"), looks := false }, kinds := [], alts := [], laidByText := true, laidKinds := [.data, .data, .data], laidTests := true, laidLooks := .later }
def LinearValidCardSaid : Prop := Claim7.holds Tryd.pinned (.plain (OpenSpec.ofChange linearValidSpec)) linearValidCard

/-- THE TIED CARD OF 'disjointlaw13.LinearMeaning'. -/
def linearMeaningCard : Claim7 := { stood := { row := linearMeaningRow, standIns := [], harness := (true, "09d4dd7687e66cf6e07ed1a2f879e0a21f042a3aae0b516583d896b6563929a3"), looks := false }, kinds := [], alts := [], laidByText := true, laidKinds := [.data, .data, .data], laidTests := true, laidLooks := .later }
def LinearMeaningCardSaid : Prop := Claim7.holds Tryd.pinned (.plain (OpenSpec.ofChange linearMeaningSpec)) linearMeaningCard

/-- THE TIED CARD OF 'disjointlaw13.LinearValue'. -/
def linearValueCard : Claim7 := { stood := { row := linearValueRow, standIns := [], harness := (true, "09d4dd7687e66cf6e07ed1a2f879e0a21f042a3aae0b516583d896b6563929a3"), looks := false }, kinds := [], alts := [], laidByText := true, laidKinds := [.data, .data, .data], laidTests := true, laidLooks := .later }
def LinearValueCardSaid : Prop := Claim7.holds Tryd.pinned (.plain (OpenSpec.ofChange linearValueSpec)) linearValueCard

/-- THE TIED CARD OF 'disjointlaw13.LinearAdd'. -/
def linearAddCard : Claim7 := { stood := { row := linearAddRow, standIns := [], harness := (true, "09d4dd7687e66cf6e07ed1a2f879e0a21f042a3aae0b516583d896b6563929a3"), looks := false }, kinds := [], alts := [], laidByText := true, laidKinds := [.data, .data, .data], laidTests := true, laidLooks := .later }
def LinearAddCardSaid : Prop := Claim7.holds Tryd.pinned (.plain (OpenSpec.ofChange linearAddSpec)) linearAddCard

/-- THE TIED CARD OF 'disjointlaw13.LinearScale'. -/
def linearScaleCard : Claim7 := { stood := { row := linearScaleRow, standIns := [], harness := (true, "09d4dd7687e66cf6e07ed1a2f879e0a21f042a3aae0b516583d896b6563929a3"), looks := false }, kinds := [], alts := [], laidByText := true, laidKinds := [.data, .data, .data], laidTests := true, laidLooks := .later }
def LinearScaleCardSaid : Prop := Claim7.holds Tryd.pinned (.plain (OpenSpec.ofChange linearScaleSpec)) linearScaleCard

/-- THE TIED CARD OF 'disjointlaw13.LinearDiv'. -/
def linearDivCard : Claim7 := { stood := { row := linearDivRow, standIns := [], harness := (true, "09d4dd7687e66cf6e07ed1a2f879e0a21f042a3aae0b516583d896b6563929a3"), looks := false }, kinds := [], alts := [], laidByText := true, laidKinds := [.data, .data, .data], laidTests := true, laidLooks := .later }
def LinearDivCardSaid : Prop := Claim7.holds Tryd.pinned (.plain (OpenSpec.ofChange linearDivSpec)) linearDivCard

/-- THE TIED CARD OF 'disjointlaw13.LinearVariables'. -/
def linearVariablesCard : Claim7 := { stood := { row := linearVariablesRow, standIns := [], harness := (true, "09d4dd7687e66cf6e07ed1a2f879e0a21f042a3aae0b516583d896b6563929a3"), looks := false }, kinds := [], alts := [], laidByText := true, laidKinds := [.data, .data, .data], laidTests := true, laidLooks := .later }
def LinearVariablesCardSaid : Prop := Claim7.holds Tryd.pinned (.plain (OpenSpec.ofChange linearVariablesSpec)) linearVariablesCard

/-- THE SECOND FORM's CARD OF 'disjointlaw13.LinearCompare'. -/
def linearCompareUptoCard : Claim7 := { stood := { row := linearCompareUptoRow, standIns := [], harness := (true, "09d4dd7687e66cf6e07ed1a2f879e0a21f042a3aae0b516583d896b6563929a3"), looks := false }, kinds := [], alts := [], laidByText := true, laidKinds := [.data, .data, .data], laidTests := true, laidLooks := .later }
def LinearCompareUptoCardSaid : Prop := Claim7.holds Tryd.pinned (.plain (OpenSpec.upto linearCompareSpec)) linearCompareUptoCard

/-- THE SECOND FORM's CARD OF 'disjointlaw13.LinearFormat'. -/
def linearFormatUptoCard : Claim7 := { stood := { row := linearFormatUptoRow, standIns := [], harness := (true, "09d4dd7687e66cf6e07ed1a2f879e0a21f042a3aae0b516583d896b6563929a3"), looks := false }, kinds := [], alts := [], laidByText := true, laidKinds := [.data, .data, .data], laidTests := true, laidLooks := .later }
def LinearFormatUptoCardSaid : Prop := Claim7.holds Tryd.pinned (.plain (OpenSpec.upto linearFormatSpec)) linearFormatUptoCard

/-- THE SECOND FORM's CARD OF 'disjointlaw13.LinearValid'. -/
def linearValidUptoCard : Claim7 := { stood := { row := linearValidUptoRow, standIns := [], harness := (true, "09d4dd7687e66cf6e07ed1a2f879e0a21f042a3aae0b516583d896b6563929a3"), looks := false }, kinds := [], alts := [], laidByText := true, laidKinds := [.data, .data, .data], laidTests := true, laidLooks := .later }
def LinearValidUptoCardSaid : Prop := Claim7.holds Tryd.pinned (.plain (OpenSpec.upto linearValidSpec)) linearValidUptoCard

/-- THE SECOND FORM's CARD OF 'disjointlaw13.LinearMeaning'. -/
def linearMeaningUptoCard : Claim7 := { stood := { row := linearMeaningUptoRow, standIns := [], harness := (true, "09d4dd7687e66cf6e07ed1a2f879e0a21f042a3aae0b516583d896b6563929a3"), looks := false }, kinds := [], alts := [], laidByText := true, laidKinds := [.data, .data, .data], laidTests := true, laidLooks := .later }
def LinearMeaningUptoCardSaid : Prop := Claim7.holds Tryd.pinned (.plain (OpenSpec.upto linearMeaningSpec)) linearMeaningUptoCard

/-- THE SECOND FORM's CARD OF 'disjointlaw13.LinearValue'. -/
def linearValueUptoCard : Claim7 := { stood := { row := linearValueUptoRow, standIns := [], harness := (true, "09d4dd7687e66cf6e07ed1a2f879e0a21f042a3aae0b516583d896b6563929a3"), looks := false }, kinds := [], alts := [], laidByText := true, laidKinds := [.data, .data, .data], laidTests := true, laidLooks := .later }
def LinearValueUptoCardSaid : Prop := Claim7.holds Tryd.pinned (.plain (OpenSpec.upto linearValueSpec)) linearValueUptoCard

/-- THE SECOND FORM's CARD OF 'disjointlaw13.LinearAdd'. -/
def linearAddUptoCard : Claim7 := { stood := { row := linearAddUptoRow, standIns := [], harness := (true, "09d4dd7687e66cf6e07ed1a2f879e0a21f042a3aae0b516583d896b6563929a3"), looks := false }, kinds := [], alts := [], laidByText := true, laidKinds := [.data, .data, .data], laidTests := true, laidLooks := .later }
def LinearAddUptoCardSaid : Prop := Claim7.holds Tryd.pinned (.plain (OpenSpec.upto linearAddSpec)) linearAddUptoCard

/-- THE SECOND FORM's CARD OF 'disjointlaw13.LinearScale'. -/
def linearScaleUptoCard : Claim7 := { stood := { row := linearScaleUptoRow, standIns := [], harness := (true, "09d4dd7687e66cf6e07ed1a2f879e0a21f042a3aae0b516583d896b6563929a3"), looks := false }, kinds := [], alts := [], laidByText := true, laidKinds := [.data, .data, .data], laidTests := true, laidLooks := .later }
def LinearScaleUptoCardSaid : Prop := Claim7.holds Tryd.pinned (.plain (OpenSpec.upto linearScaleSpec)) linearScaleUptoCard

/-- THE SECOND FORM's CARD OF 'disjointlaw13.LinearDiv'. -/
def linearDivUptoCard : Claim7 := { stood := { row := linearDivUptoRow, standIns := [], harness := (true, "09d4dd7687e66cf6e07ed1a2f879e0a21f042a3aae0b516583d896b6563929a3"), looks := false }, kinds := [], alts := [], laidByText := true, laidKinds := [.data, .data, .data], laidTests := true, laidLooks := .later }
def LinearDivUptoCardSaid : Prop := Claim7.holds Tryd.pinned (.plain (OpenSpec.upto linearDivSpec)) linearDivUptoCard

/-- THE SECOND FORM's CARD OF 'disjointlaw13.LinearVariables'. -/
def linearVariablesUptoCard : Claim7 := { stood := { row := linearVariablesUptoRow, standIns := [], harness := (true, "09d4dd7687e66cf6e07ed1a2f879e0a21f042a3aae0b516583d896b6563929a3"), looks := false }, kinds := [], alts := [], laidByText := true, laidKinds := [.data, .data, .data], laidTests := true, laidLooks := .later }
def LinearVariablesUptoCardSaid : Prop := Claim7.holds Tryd.pinned (.plain (OpenSpec.upto linearVariablesSpec)) linearVariablesUptoCard
end Rows
end Go.Proofs.YtfbdokfcebpkaaaDoor
