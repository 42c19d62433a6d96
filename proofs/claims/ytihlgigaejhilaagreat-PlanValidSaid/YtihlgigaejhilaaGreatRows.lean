/-
  NARROWER THAN 'FOR EVERY INPUT', by the rows' own cells (each row's printed sentence says how): PlanValid: loops · PlanFilterAgain: loops · PlanExact: loops.
  DERIVED. THE GIVEN ROWS OF THIS SEAT. 3 by the template 'for every input the law returns true; each argument reads behind the call as it read before'; 0 by the template 'total and deterministic' (their statements: YtihlgigaejhilaaGreatTotals.lean).
  GIVEN WITH THE SEED: the statements are not yours to turn. If you find one false, say at which input.
  Laid BY PROGRAM, IN A SANDBOX (cutbox-rows.mjs): the forced cells as the released guide's own fill.sh prints them over the translation 3fd95265f8cabc41… (all of the seat's roots in one cut). By AI agents, Wed Nov 11 2026. No macro, syntax, notation, axiom, sorry.
-/
import Derived.Test.YtihlgigaejhilaaGreatChecked
import GoSem.Claim
import GoSem.ClaimJoined
import GoSem.ClaimMapViews
import Derived.JoinedTies
import Derived.KernelRfl
namespace Go.Proofs.YtihlgigaejhilaaGreat
/- THE CELL 'sum', in the pinned program and in every row, IS THE sha256 OF THE DUMP (.gsa) THAT YtihlgigaejhilaaGreatProg.lean LOADS. Nothing in Lean hashes anything: it is a label: what it is worth is what the hold of that sum in a sandbox is worth. -/
noncomputable def Tryz.pinned : Pinned := { name := "ytihlgigaejhilaagreat", sum := "3fd95265f8cabc415ca59a717eecf0a7d42d6f76fed1644d48a5dc349560651e", checked := Tryz.checked }
namespace Rows
def none {H : Type} : Left H := { results := [], args := [] }

/-- 'disjointlaw44.PlanValid': WHATEVER THE INPUT: true; the input reads as it did. -/
def planValidSpec : ChangeSpec := { name := "planValid", fn := fun _ => fun
  | [d1, d2] => { results := [.lit (.bool true)], args := [d1, d2] }
  | _ => none }
def planValidRow : OpenClaim := { program := "ytihlgigaejhilaagreat", sum := "3fd95265f8cabc415ca59a717eecf0a7d42d6f76fed1644d48a5dc349560651e", func := "disjoint/disjointlaw44.PlanValid", spec := "planValid", unfollowed := true, recurses := true, loops := true, apart := false }
def PlanValidSaid : Prop := planValidRow.holds Tryz.pinned (OpenSpec.ofChange planValidSpec)

/-- ITS FALSE NEIGHBOUR: 'it returns false'. Refute it at one input. -/
def planValidWrong : ChangeSpec := { name := "planValid", fn := fun _ => fun
  | [d1, d2] => { results := [.lit (.bool false)], args := [d1, d2] }
  | _ => none }
def PlanValidWrongFalsely : Prop := planValidRow.holds Tryz.pinned (OpenSpec.ofChange planValidWrong)

/-- 'disjointlaw44.PlanFilterAgain': WHATEVER THE INPUT: true; the input reads as it did. -/
def planFilterAgainSpec : ChangeSpec := { name := "planFilterAgain", fn := fun _ => fun
  | [d1, d2, d3] => { results := [.lit (.bool true)], args := [d1, d2, d3] }
  | _ => none }
def planFilterAgainRow : OpenClaim := { program := "ytihlgigaejhilaagreat", sum := "3fd95265f8cabc415ca59a717eecf0a7d42d6f76fed1644d48a5dc349560651e", func := "disjoint/disjointlaw44.PlanFilterAgain", spec := "planFilterAgain", unfollowed := true, recurses := true, loops := true, apart := false }
def PlanFilterAgainSaid : Prop := planFilterAgainRow.holds Tryz.pinned (OpenSpec.ofChange planFilterAgainSpec)

/-- ITS FALSE NEIGHBOUR: 'it returns false'. Refute it at one input. -/
def planFilterAgainWrong : ChangeSpec := { name := "planFilterAgain", fn := fun _ => fun
  | [d1, d2, d3] => { results := [.lit (.bool false)], args := [d1, d2, d3] }
  | _ => none }
def PlanFilterAgainWrongFalsely : Prop := planFilterAgainRow.holds Tryz.pinned (OpenSpec.ofChange planFilterAgainWrong)

/-- 'disjointlaw44.PlanExact': WHATEVER THE INPUT: true; the input reads as it did. -/
def planExactSpec : ChangeSpec := { name := "planExact", fn := fun _ => fun
  | [d1, d2, d3] => { results := [.lit (.bool true)], args := [d1, d2, d3] }
  | _ => none }
def planExactRow : OpenClaim := { program := "ytihlgigaejhilaagreat", sum := "3fd95265f8cabc415ca59a717eecf0a7d42d6f76fed1644d48a5dc349560651e", func := "disjoint/disjointlaw44.PlanExact", spec := "planExact", unfollowed := true, recurses := true, loops := true, apart := false }
def PlanExactSaid : Prop := planExactRow.holds Tryz.pinned (OpenSpec.ofChange planExactSpec)

/-- ITS FALSE NEIGHBOUR: 'it returns false'. Refute it at one input. -/
def planExactWrong : ChangeSpec := { name := "planExact", fn := fun _ => fun
  | [d1, d2, d3] => { results := [.lit (.bool false)], args := [d1, d2, d3] }
  | _ => none }
def PlanExactWrongFalsely : Prop := planExactRow.holds Tryz.pinned (OpenSpec.ofChange planExactWrong)

/- THE SECOND FORM. 'bulk': how many values and letters a reading holds, each counted each time it is reached (what is shared counts as often as it is met; a slice's spare places count too). A statement '..UptoSaid' is the law's where the arguments, and the package variables that the reading takes, are together of bulk at most 1048576: NARROWER than '..Said'. Prove '..Said' where nothing that the law and all that it calls make is longer than what came in: it says more and counts as full. Else prove '..UptoSaid'. A law counts once. -/
mutual
def uptoBulk {H : Type} : DataW H → Nat
  | .lit (.string bytes) => bytes.length + 1
  | .lit _ => 1
  | .nil => 1
  | .ptr d => uptoBulk d + 1
  | .slice elems spare => uptoBulkAll elems + uptoBulkAll spare + 1
  | .agg parts => uptoBulkAll parts + 1
  | .iface _ d => uptoBulk d + 1
  | .map entries => uptoBulkEntries entries + 1
  | .held _ => 1
def uptoBulkAll {H : Type} : List (DataW H) → Nat
  | [] => 0
  | d :: r => uptoBulk d + uptoBulkAll r
def uptoBulkEntries {H : Type} : List (Lit × DataW H) → Nat
  | [] => 0
  | x :: r => uptoBulkEntry x + uptoBulkEntries r
def uptoBulkEntry {H : Type} : Lit × DataW H → Nat
  | (.string bytes, d) => bytes.length + uptoBulk d + 1
  | (_, d) => uptoBulk d + 1
 end
def uptoSmall : (H : Type) → List (DataW H) → Bool := fun _ ds => decide (uptoBulkAll ds ≤ 1048576)
def OpenSpec.upto (s : _root_.Go.ChangeSpec) : _root_.Go.OpenSpec := { _root_.Go.OpenSpec.ofChange s with cond := some uptoSmall }

/-- 'disjointlaw44.PlanValid', WHERE WHAT IT READS IS OF BULK AT MOST 1048576: true; the input reads as it did. -/
def planValidUptoRow : OpenClaim := { program := "ytihlgigaejhilaagreat", sum := "3fd95265f8cabc415ca59a717eecf0a7d42d6f76fed1644d48a5dc349560651e", func := "disjoint/disjointlaw44.PlanValid", spec := "planValid", unfollowed := true, recurses := true, loops := true, apart := false, narrowed := true }
def PlanValidUptoSaid : Prop := planValidUptoRow.holds Tryz.pinned (OpenSpec.upto planValidSpec)

/-- 'disjointlaw44.PlanFilterAgain', WHERE WHAT IT READS IS OF BULK AT MOST 1048576: true; the input reads as it did. -/
def planFilterAgainUptoRow : OpenClaim := { program := "ytihlgigaejhilaagreat", sum := "3fd95265f8cabc415ca59a717eecf0a7d42d6f76fed1644d48a5dc349560651e", func := "disjoint/disjointlaw44.PlanFilterAgain", spec := "planFilterAgain", unfollowed := true, recurses := true, loops := true, apart := false, narrowed := true }
def PlanFilterAgainUptoSaid : Prop := planFilterAgainUptoRow.holds Tryz.pinned (OpenSpec.upto planFilterAgainSpec)

/-- 'disjointlaw44.PlanExact', WHERE WHAT IT READS IS OF BULK AT MOST 1048576: true; the input reads as it did. -/
def planExactUptoRow : OpenClaim := { program := "ytihlgigaejhilaagreat", sum := "3fd95265f8cabc415ca59a717eecf0a7d42d6f76fed1644d48a5dc349560651e", func := "disjoint/disjointlaw44.PlanExact", spec := "planExact", unfollowed := true, recurses := true, loops := true, apart := false, narrowed := true }
def PlanExactUptoSaid : Prop := planExactUptoRow.holds Tryz.pinned (OpenSpec.upto planExactSpec)

end Rows
end Go.Proofs.YtihlgigaejhilaaGreat
