/-
  NARROWER THAN 'FOR EVERY INPUT', by the rows' own cells (each row's printed sentence says how): LinearCompare: loops, laid · LinearFormat: loops, laid · LinearValid: loops, laid · LinearMeaning: loops, laid · LinearValue: loops, laid · LinearAdd: loops, laid · LinearScale: loops, laid · LinearDiv: loops, laid · LinearVariables: loops, laid.
  DERIVED. THE GIVEN ROWS OF THIS SEAT. 9 by the template 'for every input the law returns true; each argument reads behind the call as it read before'; 0 by the template 'total and deterministic' (their statements: YtfbdokfcebpkaaaDoorTotals.lean).
  GIVEN WITH THE SEED: the statements are not yours to turn. If you find one false, say at which input.
  Laid BY PROGRAM, IN A SANDBOX (cutbox-rows.mjs): the forced cells as the released guide's own fill.sh prints them over the translation c1062a39f6d9c58b… (all of the seat's roots in one cut). By AI agents, Wed Nov 11 2026. No macro, syntax, notation, axiom, sorry.
-/
import Derived.Test.YtfbdokfcebpkaaaDoorChecked
import GoSem.Claim
import GoSem.ClaimJoined
import GoSem.ClaimMapViews
import Derived.JoinedTies
import Derived.KernelRfl
namespace Go.Proofs.YtfbdokfcebpkaaaDoor
/- THE CELL 'sum', in the pinned program and in every row, IS THE sha256 OF THE DUMP (.gsa) THAT YtfbdokfcebpkaaaDoorProg.lean LOADS. Nothing in Lean hashes anything: it is a label: what it is worth is what the hold of that sum in a sandbox is worth. -/
noncomputable def Tryd.pinned : Pinned := { name := "ytfbdokfcebpkaaadoor", sum := "c1062a39f6d9c58bfd6ac1d13ac14315f60fd15f45b6ac0f8eaeaa9d4230a262", checked := Tryd.checked }
namespace Rows
def none {H : Type} : Left H := { results := [], args := [] }

/- WHAT THE LISTED PACKAGE-LEVEL VARIABLES READ AS WHEN THE CALL BEGINS. Each datum BY PROGRAM (the guide's laid-datum.mjs) off the statement by which the dump's own 'gosem.cut.vars' lays the variable. In a bare row this is a premise. The card (YtfbdokfcebpkaaaDoorCards.lean) ties it to the program's text. -/
def laid_math_bits_deBruijn32tab {H : Type} : DataW H := .agg [.lit (.int .u8 0), .lit (.int .u8 1), .lit (.int .u8 28), .lit (.int .u8 2), .lit (.int .u8 29), .lit (.int .u8 14), .lit (.int .u8 24), .lit (.int .u8 3), .lit (.int .u8 30), .lit (.int .u8 22), .lit (.int .u8 20), .lit (.int .u8 15), .lit (.int .u8 25), .lit (.int .u8 17), .lit (.int .u8 4), .lit (.int .u8 8), .lit (.int .u8 31), .lit (.int .u8 27), .lit (.int .u8 13), .lit (.int .u8 23), .lit (.int .u8 21), .lit (.int .u8 19), .lit (.int .u8 16), .lit (.int .u8 7), .lit (.int .u8 26), .lit (.int .u8 12), .lit (.int .u8 18), .lit (.int .u8 6), .lit (.int .u8 11), .lit (.int .u8 5), .lit (.int .u8 10), .lit (.int .u8 9)]
def laid_math_bits_deBruijn64tab {H : Type} : DataW H := .agg [.lit (.int .u8 0), .lit (.int .u8 1), .lit (.int .u8 56), .lit (.int .u8 2), .lit (.int .u8 57), .lit (.int .u8 49), .lit (.int .u8 28), .lit (.int .u8 3), .lit (.int .u8 61), .lit (.int .u8 58), .lit (.int .u8 42), .lit (.int .u8 50), .lit (.int .u8 38), .lit (.int .u8 29), .lit (.int .u8 17), .lit (.int .u8 4), .lit (.int .u8 62), .lit (.int .u8 47), .lit (.int .u8 59), .lit (.int .u8 36), .lit (.int .u8 45), .lit (.int .u8 43), .lit (.int .u8 51), .lit (.int .u8 22), .lit (.int .u8 53), .lit (.int .u8 39), .lit (.int .u8 33), .lit (.int .u8 30), .lit (.int .u8 24), .lit (.int .u8 18), .lit (.int .u8 12), .lit (.int .u8 5), .lit (.int .u8 63), .lit (.int .u8 55), .lit (.int .u8 48), .lit (.int .u8 27), .lit (.int .u8 60), .lit (.int .u8 41), .lit (.int .u8 37), .lit (.int .u8 16), .lit (.int .u8 46), .lit (.int .u8 35), .lit (.int .u8 44), .lit (.int .u8 21), .lit (.int .u8 52), .lit (.int .u8 32), .lit (.int .u8 23), .lit (.int .u8 11), .lit (.int .u8 54), .lit (.int .u8 26), .lit (.int .u8 40), .lit (.int .u8 15), .lit (.int .u8 34), .lit (.int .u8 20), .lit (.int .u8 31), .lit (.int .u8 10), .lit (.int .u8 25), .lit (.int .u8 14), .lit (.int .u8 19), .lit (.int .u8 9), .lit (.int .u8 13), .lit (.int .u8 8), .lit (.int .u8 7), .lit (.int .u8 6)]
def laid_internal_strconv_uint64pow10 {H : Type} : DataW H := .agg [.lit (.int .u64 1), .lit (.int .u64 10), .lit (.int .u64 100), .lit (.int .u64 1000), .lit (.int .u64 10000), .lit (.int .u64 100000), .lit (.int .u64 1000000), .lit (.int .u64 10000000), .lit (.int .u64 100000000), .lit (.int .u64 1000000000), .lit (.int .u64 10000000000), .lit (.int .u64 100000000000), .lit (.int .u64 1000000000000), .lit (.int .u64 10000000000000), .lit (.int .u64 100000000000000), .lit (.int .u64 1000000000000000), .lit (.int .u64 10000000000000000), .lit (.int .u64 100000000000000000), .lit (.int .u64 1000000000000000000), .lit (.int .u64 10000000000000000000)]

/-- 'disjointlaw13.LinearCompare': WHATEVER THE INPUT: true; the input reads as it did. -/
def linearCompareSpec : ChangeSpec := { name := "linearCompare", fn := fun _ => fun
  | [d1, d2, d3] => { results := [.lit (.bool true)], args := [d1, d2, d3] }
  | _ => none }
def linearCompareRow : OpenClaim := { program := "ytfbdokfcebpkaaadoor", sum := "c1062a39f6d9c58bfd6ac1d13ac14315f60fd15f45b6ac0f8eaeaa9d4230a262", func := "disjoint/disjointlaw13.LinearCompare", spec := "linearCompare", inPlace := ["math/bits.Add64", "internal/abi.NoEscape"], unfollowed := true, recurses := true, named := ["internal/strconv.uint64pow10", "math/bits.deBruijn32tab", "math/bits.deBruijn64tab"], loops := true, apart := false, laid := [("math/bits.deBruijn32tab", laid_math_bits_deBruijn32tab), ("math/bits.deBruijn64tab", laid_math_bits_deBruijn64tab), ("internal/strconv.uint64pow10", laid_internal_strconv_uint64pow10)] }
def LinearCompareSaid : Prop := linearCompareRow.holds Tryd.pinned (OpenSpec.ofChange linearCompareSpec)

/-- ITS FALSE NEIGHBOUR: 'it returns false'. Refute it at one input. -/
def linearCompareWrong : ChangeSpec := { name := "linearCompare", fn := fun _ => fun
  | [d1, d2, d3] => { results := [.lit (.bool false)], args := [d1, d2, d3] }
  | _ => none }
def LinearCompareWrongFalsely : Prop := linearCompareRow.holds Tryd.pinned (OpenSpec.ofChange linearCompareWrong)

/-- 'disjointlaw13.LinearFormat': WHATEVER THE INPUT: true; the input reads as it did. -/
def linearFormatSpec : ChangeSpec := { name := "linearFormat", fn := fun _ => fun
  | [d1, d2] => { results := [.lit (.bool true)], args := [d1, d2] }
  | _ => none }
def linearFormatRow : OpenClaim := { program := "ytfbdokfcebpkaaadoor", sum := "c1062a39f6d9c58bfd6ac1d13ac14315f60fd15f45b6ac0f8eaeaa9d4230a262", func := "disjoint/disjointlaw13.LinearFormat", spec := "linearFormat", inPlace := ["math/bits.Add64", "internal/abi.NoEscape"], unfollowed := true, recurses := true, named := ["internal/strconv.uint64pow10", "math/bits.deBruijn32tab", "math/bits.deBruijn64tab"], loops := true, apart := false, laid := [("math/bits.deBruijn32tab", laid_math_bits_deBruijn32tab), ("math/bits.deBruijn64tab", laid_math_bits_deBruijn64tab), ("internal/strconv.uint64pow10", laid_internal_strconv_uint64pow10)] }
def LinearFormatSaid : Prop := linearFormatRow.holds Tryd.pinned (OpenSpec.ofChange linearFormatSpec)

/-- ITS FALSE NEIGHBOUR: 'it returns false'. Refute it at one input. -/
def linearFormatWrong : ChangeSpec := { name := "linearFormat", fn := fun _ => fun
  | [d1, d2] => { results := [.lit (.bool false)], args := [d1, d2] }
  | _ => none }
def LinearFormatWrongFalsely : Prop := linearFormatRow.holds Tryd.pinned (OpenSpec.ofChange linearFormatWrong)

/-- 'disjointlaw13.LinearValid': WHATEVER THE INPUT: true; the input reads as it did. -/
def linearValidSpec : ChangeSpec := { name := "linearValid", fn := fun _ => fun
  | [d] => { results := [.lit (.bool true)], args := [d] }
  | _ => none }
def linearValidRow : OpenClaim := { program := "ytfbdokfcebpkaaadoor", sum := "c1062a39f6d9c58bfd6ac1d13ac14315f60fd15f45b6ac0f8eaeaa9d4230a262", func := "disjoint/disjointlaw13.LinearValid", spec := "linearValid", inPlace := ["math/bits.Add64", "internal/abi.NoEscape"], unfollowed := true, recurses := true, named := ["internal/strconv.uint64pow10", "math/bits.deBruijn32tab", "math/bits.deBruijn64tab"], loops := true, apart := false, laid := [("math/bits.deBruijn32tab", laid_math_bits_deBruijn32tab), ("math/bits.deBruijn64tab", laid_math_bits_deBruijn64tab), ("internal/strconv.uint64pow10", laid_internal_strconv_uint64pow10)] }
def LinearValidSaid : Prop := linearValidRow.holds Tryd.pinned (OpenSpec.ofChange linearValidSpec)

/-- ITS FALSE NEIGHBOUR: 'it returns false'. Refute it at one input. -/
def linearValidWrong : ChangeSpec := { name := "linearValid", fn := fun _ => fun
  | [d] => { results := [.lit (.bool false)], args := [d] }
  | _ => none }
def LinearValidWrongFalsely : Prop := linearValidRow.holds Tryd.pinned (OpenSpec.ofChange linearValidWrong)

/-- 'disjointlaw13.LinearMeaning': WHATEVER THE INPUT: true; the input reads as it did. -/
def linearMeaningSpec : ChangeSpec := { name := "linearMeaning", fn := fun _ => fun
  | [d1, d2] => { results := [.lit (.bool true)], args := [d1, d2] }
  | _ => none }
def linearMeaningRow : OpenClaim := { program := "ytfbdokfcebpkaaadoor", sum := "c1062a39f6d9c58bfd6ac1d13ac14315f60fd15f45b6ac0f8eaeaa9d4230a262", func := "disjoint/disjointlaw13.LinearMeaning", spec := "linearMeaning", inPlace := ["math/bits.Add64", "internal/abi.NoEscape"], unfollowed := true, recurses := true, named := ["internal/strconv.uint64pow10", "math/bits.deBruijn32tab", "math/bits.deBruijn64tab"], loops := true, apart := false, laid := [("math/bits.deBruijn32tab", laid_math_bits_deBruijn32tab), ("math/bits.deBruijn64tab", laid_math_bits_deBruijn64tab), ("internal/strconv.uint64pow10", laid_internal_strconv_uint64pow10)] }
def LinearMeaningSaid : Prop := linearMeaningRow.holds Tryd.pinned (OpenSpec.ofChange linearMeaningSpec)

/-- ITS FALSE NEIGHBOUR: 'it returns false'. Refute it at one input. -/
def linearMeaningWrong : ChangeSpec := { name := "linearMeaning", fn := fun _ => fun
  | [d1, d2] => { results := [.lit (.bool false)], args := [d1, d2] }
  | _ => none }
def LinearMeaningWrongFalsely : Prop := linearMeaningRow.holds Tryd.pinned (OpenSpec.ofChange linearMeaningWrong)

/-- 'disjointlaw13.LinearValue': WHATEVER THE INPUT: true; the input reads as it did. -/
def linearValueSpec : ChangeSpec := { name := "linearValue", fn := fun _ => fun
  | [d1, d2] => { results := [.lit (.bool true)], args := [d1, d2] }
  | _ => none }
def linearValueRow : OpenClaim := { program := "ytfbdokfcebpkaaadoor", sum := "c1062a39f6d9c58bfd6ac1d13ac14315f60fd15f45b6ac0f8eaeaa9d4230a262", func := "disjoint/disjointlaw13.LinearValue", spec := "linearValue", inPlace := ["math/bits.Add64", "internal/abi.NoEscape"], unfollowed := true, recurses := true, named := ["internal/strconv.uint64pow10", "math/bits.deBruijn32tab", "math/bits.deBruijn64tab"], loops := true, apart := false, laid := [("math/bits.deBruijn32tab", laid_math_bits_deBruijn32tab), ("math/bits.deBruijn64tab", laid_math_bits_deBruijn64tab), ("internal/strconv.uint64pow10", laid_internal_strconv_uint64pow10)] }
def LinearValueSaid : Prop := linearValueRow.holds Tryd.pinned (OpenSpec.ofChange linearValueSpec)

/-- ITS FALSE NEIGHBOUR: 'it returns false'. Refute it at one input. -/
def linearValueWrong : ChangeSpec := { name := "linearValue", fn := fun _ => fun
  | [d1, d2] => { results := [.lit (.bool false)], args := [d1, d2] }
  | _ => none }
def LinearValueWrongFalsely : Prop := linearValueRow.holds Tryd.pinned (OpenSpec.ofChange linearValueWrong)

/-- 'disjointlaw13.LinearAdd': WHATEVER THE INPUT: true; the input reads as it did. -/
def linearAddSpec : ChangeSpec := { name := "linearAdd", fn := fun _ => fun
  | [d1, d2, d3] => { results := [.lit (.bool true)], args := [d1, d2, d3] }
  | _ => none }
def linearAddRow : OpenClaim := { program := "ytfbdokfcebpkaaadoor", sum := "c1062a39f6d9c58bfd6ac1d13ac14315f60fd15f45b6ac0f8eaeaa9d4230a262", func := "disjoint/disjointlaw13.LinearAdd", spec := "linearAdd", inPlace := ["math/bits.Add64", "internal/abi.NoEscape"], unfollowed := true, recurses := true, named := ["internal/strconv.uint64pow10", "math/bits.deBruijn32tab", "math/bits.deBruijn64tab"], loops := true, apart := false, laid := [("math/bits.deBruijn32tab", laid_math_bits_deBruijn32tab), ("math/bits.deBruijn64tab", laid_math_bits_deBruijn64tab), ("internal/strconv.uint64pow10", laid_internal_strconv_uint64pow10)] }
def LinearAddSaid : Prop := linearAddRow.holds Tryd.pinned (OpenSpec.ofChange linearAddSpec)

/-- ITS FALSE NEIGHBOUR: 'it returns false'. Refute it at one input. -/
def linearAddWrong : ChangeSpec := { name := "linearAdd", fn := fun _ => fun
  | [d1, d2, d3] => { results := [.lit (.bool false)], args := [d1, d2, d3] }
  | _ => none }
def LinearAddWrongFalsely : Prop := linearAddRow.holds Tryd.pinned (OpenSpec.ofChange linearAddWrong)

/-- 'disjointlaw13.LinearScale': WHATEVER THE INPUT: true; the input reads as it did. -/
def linearScaleSpec : ChangeSpec := { name := "linearScale", fn := fun _ => fun
  | [d1, d2, d3] => { results := [.lit (.bool true)], args := [d1, d2, d3] }
  | _ => none }
def linearScaleRow : OpenClaim := { program := "ytfbdokfcebpkaaadoor", sum := "c1062a39f6d9c58bfd6ac1d13ac14315f60fd15f45b6ac0f8eaeaa9d4230a262", func := "disjoint/disjointlaw13.LinearScale", spec := "linearScale", inPlace := ["math/bits.Add64", "internal/abi.NoEscape"], unfollowed := true, recurses := true, named := ["internal/strconv.uint64pow10", "math/bits.deBruijn32tab", "math/bits.deBruijn64tab"], loops := true, apart := false, laid := [("math/bits.deBruijn32tab", laid_math_bits_deBruijn32tab), ("math/bits.deBruijn64tab", laid_math_bits_deBruijn64tab), ("internal/strconv.uint64pow10", laid_internal_strconv_uint64pow10)] }
def LinearScaleSaid : Prop := linearScaleRow.holds Tryd.pinned (OpenSpec.ofChange linearScaleSpec)

/-- ITS FALSE NEIGHBOUR: 'it returns false'. Refute it at one input. -/
def linearScaleWrong : ChangeSpec := { name := "linearScale", fn := fun _ => fun
  | [d1, d2, d3] => { results := [.lit (.bool false)], args := [d1, d2, d3] }
  | _ => none }
def LinearScaleWrongFalsely : Prop := linearScaleRow.holds Tryd.pinned (OpenSpec.ofChange linearScaleWrong)

/-- 'disjointlaw13.LinearDiv': WHATEVER THE INPUT: true; the input reads as it did. -/
def linearDivSpec : ChangeSpec := { name := "linearDiv", fn := fun _ => fun
  | [d1, d2, d3] => { results := [.lit (.bool true)], args := [d1, d2, d3] }
  | _ => none }
def linearDivRow : OpenClaim := { program := "ytfbdokfcebpkaaadoor", sum := "c1062a39f6d9c58bfd6ac1d13ac14315f60fd15f45b6ac0f8eaeaa9d4230a262", func := "disjoint/disjointlaw13.LinearDiv", spec := "linearDiv", inPlace := ["math/bits.Add64", "internal/abi.NoEscape"], unfollowed := true, recurses := true, named := ["internal/strconv.uint64pow10", "math/bits.deBruijn32tab", "math/bits.deBruijn64tab"], loops := true, apart := false, laid := [("math/bits.deBruijn32tab", laid_math_bits_deBruijn32tab), ("math/bits.deBruijn64tab", laid_math_bits_deBruijn64tab), ("internal/strconv.uint64pow10", laid_internal_strconv_uint64pow10)] }
def LinearDivSaid : Prop := linearDivRow.holds Tryd.pinned (OpenSpec.ofChange linearDivSpec)

/-- ITS FALSE NEIGHBOUR: 'it returns false'. Refute it at one input. -/
def linearDivWrong : ChangeSpec := { name := "linearDiv", fn := fun _ => fun
  | [d1, d2, d3] => { results := [.lit (.bool false)], args := [d1, d2, d3] }
  | _ => none }
def LinearDivWrongFalsely : Prop := linearDivRow.holds Tryd.pinned (OpenSpec.ofChange linearDivWrong)

/-- 'disjointlaw13.LinearVariables': WHATEVER THE INPUT: true; the input reads as it did. -/
def linearVariablesSpec : ChangeSpec := { name := "linearVariables", fn := fun _ => fun
  | [d1, d2, d3] => { results := [.lit (.bool true)], args := [d1, d2, d3] }
  | _ => none }
def linearVariablesRow : OpenClaim := { program := "ytfbdokfcebpkaaadoor", sum := "c1062a39f6d9c58bfd6ac1d13ac14315f60fd15f45b6ac0f8eaeaa9d4230a262", func := "disjoint/disjointlaw13.LinearVariables", spec := "linearVariables", inPlace := ["math/bits.Add64", "internal/abi.NoEscape"], unfollowed := true, recurses := true, named := ["internal/strconv.uint64pow10", "math/bits.deBruijn32tab", "math/bits.deBruijn64tab"], loops := true, apart := false, laid := [("math/bits.deBruijn32tab", laid_math_bits_deBruijn32tab), ("math/bits.deBruijn64tab", laid_math_bits_deBruijn64tab), ("internal/strconv.uint64pow10", laid_internal_strconv_uint64pow10)] }
def LinearVariablesSaid : Prop := linearVariablesRow.holds Tryd.pinned (OpenSpec.ofChange linearVariablesSpec)

/-- ITS FALSE NEIGHBOUR: 'it returns false'. Refute it at one input. -/
def linearVariablesWrong : ChangeSpec := { name := "linearVariables", fn := fun _ => fun
  | [d1, d2, d3] => { results := [.lit (.bool false)], args := [d1, d2, d3] }
  | _ => none }
def LinearVariablesWrongFalsely : Prop := linearVariablesRow.holds Tryd.pinned (OpenSpec.ofChange linearVariablesWrong)

/- THE SECOND FORM. 'bulk': how many values and letters a reading holds, each counted each time it is reached (what is shared counts as often as it is met; a slice's spare places count too). A statement '..UptoSaid' is the law's where the arguments, and the package variables that the reading takes, are together of bulk at most 1048576: NARROWER than '..Said'. Prove '..Said' where nothing that the law and all that it calls make is longer than what came in: it says more and counts as full. Else prove '..UptoSaid'. A law counts once. -/
mutual
def uptoBulk {H : Type} : DataW H → Nat
  | .lit (.string bytes) => bytes.length + 1
  | .lit _ => 1
  | .nil => 1
  | .ptr d => uptoBulk d + 1
  | .slice elems spare => uptoBulkAll elems + uptoBulkAll spare + 1
  | .agg parts => uptoBulkAll parts + 1
  | .iface _ d => uptoBulk d + 1
  | .map entries => uptoBulkEntries entries + 1
  | .held _ => 1
def uptoBulkAll {H : Type} : List (DataW H) → Nat
  | [] => 0
  | d :: r => uptoBulk d + uptoBulkAll r
def uptoBulkEntries {H : Type} : List (Lit × DataW H) → Nat
  | [] => 0
  | x :: r => uptoBulkEntry x + uptoBulkEntries r
def uptoBulkEntry {H : Type} : Lit × DataW H → Nat
  | (.string bytes, d) => bytes.length + uptoBulk d + 1
  | (_, d) => uptoBulk d + 1
 end
def uptoSmall : (H : Type) → List (DataW H) → Bool := fun _ ds => decide (uptoBulkAll ds ≤ 1048576)
def OpenSpec.upto (s : _root_.Go.ChangeSpec) : _root_.Go.OpenSpec := { _root_.Go.OpenSpec.ofChange s with cond := some uptoSmall }

/-- 'disjointlaw13.LinearCompare', WHERE WHAT IT READS IS OF BULK AT MOST 1048576: true; the input reads as it did. -/
def linearCompareUptoRow : OpenClaim := { program := "ytfbdokfcebpkaaadoor", sum := "c1062a39f6d9c58bfd6ac1d13ac14315f60fd15f45b6ac0f8eaeaa9d4230a262", func := "disjoint/disjointlaw13.LinearCompare", spec := "linearCompare", inPlace := ["math/bits.Add64", "internal/abi.NoEscape"], unfollowed := true, recurses := true, named := ["internal/strconv.uint64pow10", "math/bits.deBruijn32tab", "math/bits.deBruijn64tab"], loops := true, apart := false, laid := [("math/bits.deBruijn32tab", laid_math_bits_deBruijn32tab), ("math/bits.deBruijn64tab", laid_math_bits_deBruijn64tab), ("internal/strconv.uint64pow10", laid_internal_strconv_uint64pow10)], narrowed := true }
def LinearCompareUptoSaid : Prop := linearCompareUptoRow.holds Tryd.pinned (OpenSpec.upto linearCompareSpec)

/-- 'disjointlaw13.LinearFormat', WHERE WHAT IT READS IS OF BULK AT MOST 1048576: true; the input reads as it did. -/
def linearFormatUptoRow : OpenClaim := { program := "ytfbdokfcebpkaaadoor", sum := "c1062a39f6d9c58bfd6ac1d13ac14315f60fd15f45b6ac0f8eaeaa9d4230a262", func := "disjoint/disjointlaw13.LinearFormat", spec := "linearFormat", inPlace := ["math/bits.Add64", "internal/abi.NoEscape"], unfollowed := true, recurses := true, named := ["internal/strconv.uint64pow10", "math/bits.deBruijn32tab", "math/bits.deBruijn64tab"], loops := true, apart := false, laid := [("math/bits.deBruijn32tab", laid_math_bits_deBruijn32tab), ("math/bits.deBruijn64tab", laid_math_bits_deBruijn64tab), ("internal/strconv.uint64pow10", laid_internal_strconv_uint64pow10)], narrowed := true }
def LinearFormatUptoSaid : Prop := linearFormatUptoRow.holds Tryd.pinned (OpenSpec.upto linearFormatSpec)

/-- 'disjointlaw13.LinearValid', WHERE WHAT IT READS IS OF BULK AT MOST 1048576: true; the input reads as it did. -/
def linearValidUptoRow : OpenClaim := { program := "ytfbdokfcebpkaaadoor", sum := "c1062a39f6d9c58bfd6ac1d13ac14315f60fd15f45b6ac0f8eaeaa9d4230a262", func := "disjoint/disjointlaw13.LinearValid", spec := "linearValid", inPlace := ["math/bits.Add64", "internal/abi.NoEscape"], unfollowed := true, recurses := true, named := ["internal/strconv.uint64pow10", "math/bits.deBruijn32tab", "math/bits.deBruijn64tab"], loops := true, apart := false, laid := [("math/bits.deBruijn32tab", laid_math_bits_deBruijn32tab), ("math/bits.deBruijn64tab", laid_math_bits_deBruijn64tab), ("internal/strconv.uint64pow10", laid_internal_strconv_uint64pow10)], narrowed := true }
def LinearValidUptoSaid : Prop := linearValidUptoRow.holds Tryd.pinned (OpenSpec.upto linearValidSpec)

/-- 'disjointlaw13.LinearMeaning', WHERE WHAT IT READS IS OF BULK AT MOST 1048576: true; the input reads as it did. -/
def linearMeaningUptoRow : OpenClaim := { program := "ytfbdokfcebpkaaadoor", sum := "c1062a39f6d9c58bfd6ac1d13ac14315f60fd15f45b6ac0f8eaeaa9d4230a262", func := "disjoint/disjointlaw13.LinearMeaning", spec := "linearMeaning", inPlace := ["math/bits.Add64", "internal/abi.NoEscape"], unfollowed := true, recurses := true, named := ["internal/strconv.uint64pow10", "math/bits.deBruijn32tab", "math/bits.deBruijn64tab"], loops := true, apart := false, laid := [("math/bits.deBruijn32tab", laid_math_bits_deBruijn32tab), ("math/bits.deBruijn64tab", laid_math_bits_deBruijn64tab), ("internal/strconv.uint64pow10", laid_internal_strconv_uint64pow10)], narrowed := true }
def LinearMeaningUptoSaid : Prop := linearMeaningUptoRow.holds Tryd.pinned (OpenSpec.upto linearMeaningSpec)

/-- 'disjointlaw13.LinearValue', WHERE WHAT IT READS IS OF BULK AT MOST 1048576: true; the input reads as it did. -/
def linearValueUptoRow : OpenClaim := { program := "ytfbdokfcebpkaaadoor", sum := "c1062a39f6d9c58bfd6ac1d13ac14315f60fd15f45b6ac0f8eaeaa9d4230a262", func := "disjoint/disjointlaw13.LinearValue", spec := "linearValue", inPlace := ["math/bits.Add64", "internal/abi.NoEscape"], unfollowed := true, recurses := true, named := ["internal/strconv.uint64pow10", "math/bits.deBruijn32tab", "math/bits.deBruijn64tab"], loops := true, apart := false, laid := [("math/bits.deBruijn32tab", laid_math_bits_deBruijn32tab), ("math/bits.deBruijn64tab", laid_math_bits_deBruijn64tab), ("internal/strconv.uint64pow10", laid_internal_strconv_uint64pow10)], narrowed := true }
def LinearValueUptoSaid : Prop := linearValueUptoRow.holds Tryd.pinned (OpenSpec.upto linearValueSpec)

/-- 'disjointlaw13.LinearAdd', WHERE WHAT IT READS IS OF BULK AT MOST 1048576: true; the input reads as it did. -/
def linearAddUptoRow : OpenClaim := { program := "ytfbdokfcebpkaaadoor", sum := "c1062a39f6d9c58bfd6ac1d13ac14315f60fd15f45b6ac0f8eaeaa9d4230a262", func := "disjoint/disjointlaw13.LinearAdd", spec := "linearAdd", inPlace := ["math/bits.Add64", "internal/abi.NoEscape"], unfollowed := true, recurses := true, named := ["internal/strconv.uint64pow10", "math/bits.deBruijn32tab", "math/bits.deBruijn64tab"], loops := true, apart := false, laid := [("math/bits.deBruijn32tab", laid_math_bits_deBruijn32tab), ("math/bits.deBruijn64tab", laid_math_bits_deBruijn64tab), ("internal/strconv.uint64pow10", laid_internal_strconv_uint64pow10)], narrowed := true }
def LinearAddUptoSaid : Prop := linearAddUptoRow.holds Tryd.pinned (OpenSpec.upto linearAddSpec)

/-- 'disjointlaw13.LinearScale', WHERE WHAT IT READS IS OF BULK AT MOST 1048576: true; the input reads as it did. -/
def linearScaleUptoRow : OpenClaim := { program := "ytfbdokfcebpkaaadoor", sum := "c1062a39f6d9c58bfd6ac1d13ac14315f60fd15f45b6ac0f8eaeaa9d4230a262", func := "disjoint/disjointlaw13.LinearScale", spec := "linearScale", inPlace := ["math/bits.Add64", "internal/abi.NoEscape"], unfollowed := true, recurses := true, named := ["internal/strconv.uint64pow10", "math/bits.deBruijn32tab", "math/bits.deBruijn64tab"], loops := true, apart := false, laid := [("math/bits.deBruijn32tab", laid_math_bits_deBruijn32tab), ("math/bits.deBruijn64tab", laid_math_bits_deBruijn64tab), ("internal/strconv.uint64pow10", laid_internal_strconv_uint64pow10)], narrowed := true }
def LinearScaleUptoSaid : Prop := linearScaleUptoRow.holds Tryd.pinned (OpenSpec.upto linearScaleSpec)

/-- 'disjointlaw13.LinearDiv', WHERE WHAT IT READS IS OF BULK AT MOST 1048576: true; the input reads as it did. -/
def linearDivUptoRow : OpenClaim := { program := "ytfbdokfcebpkaaadoor", sum := "c1062a39f6d9c58bfd6ac1d13ac14315f60fd15f45b6ac0f8eaeaa9d4230a262", func := "disjoint/disjointlaw13.LinearDiv", spec := "linearDiv", inPlace := ["math/bits.Add64", "internal/abi.NoEscape"], unfollowed := true, recurses := true, named := ["internal/strconv.uint64pow10", "math/bits.deBruijn32tab", "math/bits.deBruijn64tab"], loops := true, apart := false, laid := [("math/bits.deBruijn32tab", laid_math_bits_deBruijn32tab), ("math/bits.deBruijn64tab", laid_math_bits_deBruijn64tab), ("internal/strconv.uint64pow10", laid_internal_strconv_uint64pow10)], narrowed := true }
def LinearDivUptoSaid : Prop := linearDivUptoRow.holds Tryd.pinned (OpenSpec.upto linearDivSpec)

/-- 'disjointlaw13.LinearVariables', WHERE WHAT IT READS IS OF BULK AT MOST 1048576: true; the input reads as it did. -/
def linearVariablesUptoRow : OpenClaim := { program := "ytfbdokfcebpkaaadoor", sum := "c1062a39f6d9c58bfd6ac1d13ac14315f60fd15f45b6ac0f8eaeaa9d4230a262", func := "disjoint/disjointlaw13.LinearVariables", spec := "linearVariables", inPlace := ["math/bits.Add64", "internal/abi.NoEscape"], unfollowed := true, recurses := true, named := ["internal/strconv.uint64pow10", "math/bits.deBruijn32tab", "math/bits.deBruijn64tab"], loops := true, apart := false, laid := [("math/bits.deBruijn32tab", laid_math_bits_deBruijn32tab), ("math/bits.deBruijn64tab", laid_math_bits_deBruijn64tab), ("internal/strconv.uint64pow10", laid_internal_strconv_uint64pow10)], narrowed := true }
def LinearVariablesUptoSaid : Prop := linearVariablesUptoRow.holds Tryd.pinned (OpenSpec.upto linearVariablesSpec)

end Rows
end Go.Proofs.YtfbdokfcebpkaaaDoor
