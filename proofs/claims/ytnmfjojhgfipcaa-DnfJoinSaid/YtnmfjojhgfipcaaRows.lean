/-
  No cell of these rows narrows 'for every input' (looked for: loops, veiled, ifaces, maps, wideKeys, modest, calm, conditions, laid).
  DERIVED. THE GIVEN ROWS OF THIS SEAT. 5 by the template 'for every input the law returns true; each argument reads behind the call as it read before'; 0 by the template 'total and deterministic' (their statements: YtnmfjojhgfipcaaTotals.lean).
  GIVEN WITH THE SEED: the statements are not yours to turn. If you find one false, say at which input.
  Laid BY PROGRAM, IN A SANDBOX (cutbox-rows.mjs): the forced cells as the released guide's own fill.sh prints them over the translation 2dc64b92679c3014… (all of the seat's roots in one cut). By AI agents, Wed Nov 11 2026. No macro, syntax, notation, axiom, sorry.
-/
import Derived.Test.YtnmfjojhgfipcaaChecked
import GoSem.Claim
import GoSem.ClaimJoined
import GoSem.ClaimMapViews
import Derived.JoinedTies
import Derived.KernelRfl
namespace Go.Proofs.Ytnmfjojhgfipcaa
/- THE CELL 'sum', in the pinned program and in every row, IS THE sha256 OF THE DUMP (.gsa) THAT YtnmfjojhgfipcaaProg.lean LOADS. Nothing in Lean hashes anything: it is a label: what it is worth is what the hold of that sum in a sandbox is worth. -/
noncomputable def Try.pinned : Pinned := { name := "ytnmfjojhgfipcaa", sum := "2dc64b92679c301477b8e7f2691510e2e17b4258a68c3016e59841b3f7560d90", checked := Try.checked }
namespace Rows
def none {H : Type} : Left H := { results := [], args := [] }

/-- 'disjointlaw17.DnfHolds': WHATEVER THE INPUT: true; the input reads as it did. -/
def dnfHoldsSpec : ChangeSpec := { name := "dnfHolds", fn := fun _ => fun
  | [d1, d2, d3] => { results := [.lit (.bool true)], args := [d1, d2, d3] }
  | _ => none }
def dnfHoldsRow : OpenClaim := { program := "ytnmfjojhgfipcaa", sum := "2dc64b92679c301477b8e7f2691510e2e17b4258a68c3016e59841b3f7560d90", func := "disjoint/disjointlaw17.DnfHolds", spec := "dnfHolds", unfollowed := true, recurses := true, apart := false }
def DnfHoldsSaid : Prop := dnfHoldsRow.holds Try.pinned (OpenSpec.ofChange dnfHoldsSpec)

/-- ITS FALSE NEIGHBOUR: 'it returns false'. Refute it at one input. -/
def dnfHoldsWrong : ChangeSpec := { name := "dnfHolds", fn := fun _ => fun
  | [d1, d2, d3] => { results := [.lit (.bool false)], args := [d1, d2, d3] }
  | _ => none }
def DnfHoldsWrongFalsely : Prop := dnfHoldsRow.holds Try.pinned (OpenSpec.ofChange dnfHoldsWrong)

/-- 'disjointlaw17.DnfAuxiliary': WHATEVER THE INPUT: true; the input reads as it did. -/
def dnfAuxiliarySpec : ChangeSpec := { name := "dnfAuxiliary", fn := fun _ => fun
  | [d1, d2, d3] => { results := [.lit (.bool true)], args := [d1, d2, d3] }
  | _ => none }
def dnfAuxiliaryRow : OpenClaim := { program := "ytnmfjojhgfipcaa", sum := "2dc64b92679c301477b8e7f2691510e2e17b4258a68c3016e59841b3f7560d90", func := "disjoint/disjointlaw17.DnfAuxiliary", spec := "dnfAuxiliary", unfollowed := true, recurses := true, apart := false }
def DnfAuxiliarySaid : Prop := dnfAuxiliaryRow.holds Try.pinned (OpenSpec.ofChange dnfAuxiliarySpec)

/-- ITS FALSE NEIGHBOUR: 'it returns false'. Refute it at one input. -/
def dnfAuxiliaryWrong : ChangeSpec := { name := "dnfAuxiliary", fn := fun _ => fun
  | [d1, d2, d3] => { results := [.lit (.bool false)], args := [d1, d2, d3] }
  | _ => none }
def DnfAuxiliaryWrongFalsely : Prop := dnfAuxiliaryRow.holds Try.pinned (OpenSpec.ofChange dnfAuxiliaryWrong)

/-- 'disjointlaw17.DnfRename': WHATEVER THE INPUT: true; the input reads as it did. -/
def dnfRenameSpec : ChangeSpec := { name := "dnfRename", fn := fun _ => fun
  | [d] => { results := [.lit (.bool true)], args := [d] }
  | _ => none }
def dnfRenameRow : OpenClaim := { program := "ytnmfjojhgfipcaa", sum := "2dc64b92679c301477b8e7f2691510e2e17b4258a68c3016e59841b3f7560d90", func := "disjoint/disjointlaw17.DnfRename", spec := "dnfRename", unfollowed := true, recurses := true, apart := false }
def DnfRenameSaid : Prop := dnfRenameRow.holds Try.pinned (OpenSpec.ofChange dnfRenameSpec)

/-- ITS FALSE NEIGHBOUR: 'it returns false'. Refute it at one input. -/
def dnfRenameWrong : ChangeSpec := { name := "dnfRename", fn := fun _ => fun
  | [d] => { results := [.lit (.bool false)], args := [d] }
  | _ => none }
def DnfRenameWrongFalsely : Prop := dnfRenameRow.holds Try.pinned (OpenSpec.ofChange dnfRenameWrong)

/-- 'disjointlaw17.DnfJoin': WHATEVER THE INPUT: true; the input reads as it did. -/
def dnfJoinSpec : ChangeSpec := { name := "dnfJoin", fn := fun _ => fun
  | [d] => { results := [.lit (.bool true)], args := [d] }
  | _ => none }
def dnfJoinRow : OpenClaim := { program := "ytnmfjojhgfipcaa", sum := "2dc64b92679c301477b8e7f2691510e2e17b4258a68c3016e59841b3f7560d90", func := "disjoint/disjointlaw17.DnfJoin", spec := "dnfJoin", unfollowed := true, recurses := true, apart := false }
def DnfJoinSaid : Prop := dnfJoinRow.holds Try.pinned (OpenSpec.ofChange dnfJoinSpec)

/-- ITS FALSE NEIGHBOUR: 'it returns false'. Refute it at one input. -/
def dnfJoinWrong : ChangeSpec := { name := "dnfJoin", fn := fun _ => fun
  | [d] => { results := [.lit (.bool false)], args := [d] }
  | _ => none }
def DnfJoinWrongFalsely : Prop := dnfJoinRow.holds Try.pinned (OpenSpec.ofChange dnfJoinWrong)

/-- 'disjointlaw17.DnfValid': WHATEVER THE INPUT: true; the input reads as it did. -/
def dnfValidSpec : ChangeSpec := { name := "dnfValid", fn := fun _ => fun
  | [d1, d2] => { results := [.lit (.bool true)], args := [d1, d2] }
  | _ => none }
def dnfValidRow : OpenClaim := { program := "ytnmfjojhgfipcaa", sum := "2dc64b92679c301477b8e7f2691510e2e17b4258a68c3016e59841b3f7560d90", func := "disjoint/disjointlaw17.DnfValid", spec := "dnfValid", unfollowed := true, recurses := true, apart := false }
def DnfValidSaid : Prop := dnfValidRow.holds Try.pinned (OpenSpec.ofChange dnfValidSpec)

/-- ITS FALSE NEIGHBOUR: 'it returns false'. Refute it at one input. -/
def dnfValidWrong : ChangeSpec := { name := "dnfValid", fn := fun _ => fun
  | [d1, d2] => { results := [.lit (.bool false)], args := [d1, d2] }
  | _ => none }
def DnfValidWrongFalsely : Prop := dnfValidRow.holds Try.pinned (OpenSpec.ofChange dnfValidWrong)

/- THE SECOND FORM. 'bulk': how many values and letters a reading holds, each counted each time it is reached (what is shared counts as often as it is met; a slice's spare places count too). A statement '..UptoSaid' is the law's where the arguments, and the package variables that the reading takes, are together of bulk at most 1048576: NARROWER than '..Said'. Prove '..Said' where nothing that the law and all that it calls make is longer than what came in: it says more and counts as full. Else prove '..UptoSaid'. A law counts once. -/
mutual
def uptoBulk {H : Type} : DataW H → Nat
  | .lit (.string bytes) => bytes.length + 1
  | .lit _ => 1
  | .nil => 1
  | .ptr d => uptoBulk d + 1
  | .slice elems spare => uptoBulkAll elems + uptoBulkAll spare + 1
  | .agg parts => uptoBulkAll parts + 1
  | .iface _ d => uptoBulk d + 1
  | .map entries => uptoBulkEntries entries + 1
  | .held _ => 1
def uptoBulkAll {H : Type} : List (DataW H) → Nat
  | [] => 0
  | d :: r => uptoBulk d + uptoBulkAll r
def uptoBulkEntries {H : Type} : List (Lit × DataW H) → Nat
  | [] => 0
  | x :: r => uptoBulkEntry x + uptoBulkEntries r
def uptoBulkEntry {H : Type} : Lit × DataW H → Nat
  | (.string bytes, d) => bytes.length + uptoBulk d + 1
  | (_, d) => uptoBulk d + 1
 end
def uptoSmall : (H : Type) → List (DataW H) → Bool := fun _ ds => decide (uptoBulkAll ds ≤ 1048576)
def OpenSpec.upto (s : _root_.Go.ChangeSpec) : _root_.Go.OpenSpec := { _root_.Go.OpenSpec.ofChange s with cond := some uptoSmall }

/-- 'disjointlaw17.DnfHolds', WHERE WHAT IT READS IS OF BULK AT MOST 1048576: true; the input reads as it did. -/
def dnfHoldsUptoRow : OpenClaim := { program := "ytnmfjojhgfipcaa", sum := "2dc64b92679c301477b8e7f2691510e2e17b4258a68c3016e59841b3f7560d90", func := "disjoint/disjointlaw17.DnfHolds", spec := "dnfHolds", unfollowed := true, recurses := true, apart := false, narrowed := true }
def DnfHoldsUptoSaid : Prop := dnfHoldsUptoRow.holds Try.pinned (OpenSpec.upto dnfHoldsSpec)

/-- 'disjointlaw17.DnfAuxiliary', WHERE WHAT IT READS IS OF BULK AT MOST 1048576: true; the input reads as it did. -/
def dnfAuxiliaryUptoRow : OpenClaim := { program := "ytnmfjojhgfipcaa", sum := "2dc64b92679c301477b8e7f2691510e2e17b4258a68c3016e59841b3f7560d90", func := "disjoint/disjointlaw17.DnfAuxiliary", spec := "dnfAuxiliary", unfollowed := true, recurses := true, apart := false, narrowed := true }
def DnfAuxiliaryUptoSaid : Prop := dnfAuxiliaryUptoRow.holds Try.pinned (OpenSpec.upto dnfAuxiliarySpec)

/-- 'disjointlaw17.DnfRename', WHERE WHAT IT READS IS OF BULK AT MOST 1048576: true; the input reads as it did. -/
def dnfRenameUptoRow : OpenClaim := { program := "ytnmfjojhgfipcaa", sum := "2dc64b92679c301477b8e7f2691510e2e17b4258a68c3016e59841b3f7560d90", func := "disjoint/disjointlaw17.DnfRename", spec := "dnfRename", unfollowed := true, recurses := true, apart := false, narrowed := true }
def DnfRenameUptoSaid : Prop := dnfRenameUptoRow.holds Try.pinned (OpenSpec.upto dnfRenameSpec)

/-- 'disjointlaw17.DnfJoin', WHERE WHAT IT READS IS OF BULK AT MOST 1048576: true; the input reads as it did. -/
def dnfJoinUptoRow : OpenClaim := { program := "ytnmfjojhgfipcaa", sum := "2dc64b92679c301477b8e7f2691510e2e17b4258a68c3016e59841b3f7560d90", func := "disjoint/disjointlaw17.DnfJoin", spec := "dnfJoin", unfollowed := true, recurses := true, apart := false, narrowed := true }
def DnfJoinUptoSaid : Prop := dnfJoinUptoRow.holds Try.pinned (OpenSpec.upto dnfJoinSpec)

/-- 'disjointlaw17.DnfValid', WHERE WHAT IT READS IS OF BULK AT MOST 1048576: true; the input reads as it did. -/
def dnfValidUptoRow : OpenClaim := { program := "ytnmfjojhgfipcaa", sum := "2dc64b92679c301477b8e7f2691510e2e17b4258a68c3016e59841b3f7560d90", func := "disjoint/disjointlaw17.DnfValid", spec := "dnfValid", unfollowed := true, recurses := true, apart := false, narrowed := true }
def DnfValidUptoSaid : Prop := dnfValidUptoRow.holds Try.pinned (OpenSpec.upto dnfValidSpec)

end Rows
end Go.Proofs.Ytnmfjojhgfipcaa
