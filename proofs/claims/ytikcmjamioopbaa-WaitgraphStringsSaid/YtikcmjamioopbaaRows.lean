/-
  No cell of these rows narrows 'for every input' (looked for: loops, veiled, ifaces, maps, wideKeys, modest, calm, conditions, laid).
  DERIVED. THE GIVEN ROWS OF THIS SEAT. 8 by the template 'for every input the law returns true; each argument reads behind the call as it read before'; 0 by the template 'total and deterministic' (their statements: YtikcmjamioopbaaTotals.lean).
  GIVEN WITH THE SEED: the statements are not yours to turn. If you find one false, say at which input.
  Laid BY PROGRAM, IN A SANDBOX (cutbox-rows.mjs): the forced cells as the released guide's own fill.sh prints them over the translation 5385ba410a4f8bf4… (all of the seat's roots in one cut). By AI agents, Wed Nov 11 2026. No macro, syntax, notation, axiom, sorry.
-/
import Derived.Test.YtikcmjamioopbaaChecked
import GoSem.Claim
import GoSem.ClaimJoined
import GoSem.ClaimMapViews
import Derived.JoinedTies
import Derived.KernelRfl
namespace Go.Proofs.Ytikcmjamioopbaa
/- THE CELL 'sum', in the pinned program and in every row, IS THE sha256 OF THE DUMP (.gsa) THAT YtikcmjamioopbaaProg.lean LOADS. Nothing in Lean hashes anything: it is a label: what it is worth is what the hold of that sum in a sandbox is worth. -/
noncomputable def Try.pinned : Pinned := { name := "ytikcmjamioopbaa", sum := "5385ba410a4f8bf4cc394843d3e5de010e9c6b7338b5037f890ee65b37776713", checked := Try.checked }
namespace Rows
def none {H : Type} : Left H := { results := [], args := [] }

/-- 'disjointlaw34.WaitgraphEdges': WHATEVER THE INPUT: true; the input reads as it did. -/
def waitgraphEdgesSpec : ChangeSpec := { name := "waitgraphEdges", fn := fun _ => fun
  | [d] => { results := [.lit (.bool true)], args := [d] }
  | _ => none }
def waitgraphEdgesRow : OpenClaim := { program := "ytikcmjamioopbaa", sum := "5385ba410a4f8bf4cc394843d3e5de010e9c6b7338b5037f890ee65b37776713", func := "disjoint/disjointlaw34.WaitgraphEdges", spec := "waitgraphEdges", unfollowed := true, recurses := true, apart := false }
def WaitgraphEdgesSaid : Prop := waitgraphEdgesRow.holds Try.pinned (OpenSpec.ofChange waitgraphEdgesSpec)

/-- ITS FALSE NEIGHBOUR: 'it returns false'. Refute it at one input. -/
def waitgraphEdgesWrong : ChangeSpec := { name := "waitgraphEdges", fn := fun _ => fun
  | [d] => { results := [.lit (.bool false)], args := [d] }
  | _ => none }
def WaitgraphEdgesWrongFalsely : Prop := waitgraphEdgesRow.holds Try.pinned (OpenSpec.ofChange waitgraphEdgesWrong)

/-- 'disjointlaw34.WaitgraphSuccessors': WHATEVER THE INPUT: true; the input reads as it did. -/
def waitgraphSuccessorsSpec : ChangeSpec := { name := "waitgraphSuccessors", fn := fun _ => fun
  | [d1, d2, d3] => { results := [.lit (.bool true)], args := [d1, d2, d3] }
  | _ => none }
def waitgraphSuccessorsRow : OpenClaim := { program := "ytikcmjamioopbaa", sum := "5385ba410a4f8bf4cc394843d3e5de010e9c6b7338b5037f890ee65b37776713", func := "disjoint/disjointlaw34.WaitgraphSuccessors", spec := "waitgraphSuccessors", unfollowed := true, recurses := true, apart := false }
def WaitgraphSuccessorsSaid : Prop := waitgraphSuccessorsRow.holds Try.pinned (OpenSpec.ofChange waitgraphSuccessorsSpec)

/-- ITS FALSE NEIGHBOUR: 'it returns false'. Refute it at one input. -/
def waitgraphSuccessorsWrong : ChangeSpec := { name := "waitgraphSuccessors", fn := fun _ => fun
  | [d1, d2, d3] => { results := [.lit (.bool false)], args := [d1, d2, d3] }
  | _ => none }
def WaitgraphSuccessorsWrongFalsely : Prop := waitgraphSuccessorsRow.holds Try.pinned (OpenSpec.ofChange waitgraphSuccessorsWrong)

/-- 'disjointlaw34.WaitgraphReaches': WHATEVER THE INPUT: true; the input reads as it did. -/
def waitgraphReachesSpec : ChangeSpec := { name := "waitgraphReaches", fn := fun _ => fun
  | [d1, d2] => { results := [.lit (.bool true)], args := [d1, d2] }
  | _ => none }
def waitgraphReachesRow : OpenClaim := { program := "ytikcmjamioopbaa", sum := "5385ba410a4f8bf4cc394843d3e5de010e9c6b7338b5037f890ee65b37776713", func := "disjoint/disjointlaw34.WaitgraphReaches", spec := "waitgraphReaches", unfollowed := true, recurses := true, apart := false }
def WaitgraphReachesSaid : Prop := waitgraphReachesRow.holds Try.pinned (OpenSpec.ofChange waitgraphReachesSpec)

/-- ITS FALSE NEIGHBOUR: 'it returns false'. Refute it at one input. -/
def waitgraphReachesWrong : ChangeSpec := { name := "waitgraphReaches", fn := fun _ => fun
  | [d1, d2] => { results := [.lit (.bool false)], args := [d1, d2] }
  | _ => none }
def WaitgraphReachesWrongFalsely : Prop := waitgraphReachesRow.holds Try.pinned (OpenSpec.ofChange waitgraphReachesWrong)

/-- 'disjointlaw34.WaitgraphCycle': WHATEVER THE INPUT: true; the input reads as it did. -/
def waitgraphCycleSpec : ChangeSpec := { name := "waitgraphCycle", fn := fun _ => fun
  | [d1, d2] => { results := [.lit (.bool true)], args := [d1, d2] }
  | _ => none }
def waitgraphCycleRow : OpenClaim := { program := "ytikcmjamioopbaa", sum := "5385ba410a4f8bf4cc394843d3e5de010e9c6b7338b5037f890ee65b37776713", func := "disjoint/disjointlaw34.WaitgraphCycle", spec := "waitgraphCycle", unfollowed := true, recurses := true, apart := false }
def WaitgraphCycleSaid : Prop := waitgraphCycleRow.holds Try.pinned (OpenSpec.ofChange waitgraphCycleSpec)

/-- ITS FALSE NEIGHBOUR: 'it returns false'. Refute it at one input. -/
def waitgraphCycleWrong : ChangeSpec := { name := "waitgraphCycle", fn := fun _ => fun
  | [d1, d2] => { results := [.lit (.bool false)], args := [d1, d2] }
  | _ => none }
def WaitgraphCycleWrongFalsely : Prop := waitgraphCycleRow.holds Try.pinned (OpenSpec.ofChange waitgraphCycleWrong)

/-- 'disjointlaw34.WaitgraphCyclic': WHATEVER THE INPUT: true; the input reads as it did. -/
def waitgraphCyclicSpec : ChangeSpec := { name := "waitgraphCyclic", fn := fun _ => fun
  | [d1, d2] => { results := [.lit (.bool true)], args := [d1, d2] }
  | _ => none }
def waitgraphCyclicRow : OpenClaim := { program := "ytikcmjamioopbaa", sum := "5385ba410a4f8bf4cc394843d3e5de010e9c6b7338b5037f890ee65b37776713", func := "disjoint/disjointlaw34.WaitgraphCyclic", spec := "waitgraphCyclic", unfollowed := true, recurses := true, apart := false }
def WaitgraphCyclicSaid : Prop := waitgraphCyclicRow.holds Try.pinned (OpenSpec.ofChange waitgraphCyclicSpec)

/-- ITS FALSE NEIGHBOUR: 'it returns false'. Refute it at one input. -/
def waitgraphCyclicWrong : ChangeSpec := { name := "waitgraphCyclic", fn := fun _ => fun
  | [d1, d2] => { results := [.lit (.bool false)], args := [d1, d2] }
  | _ => none }
def WaitgraphCyclicWrongFalsely : Prop := waitgraphCyclicRow.holds Try.pinned (OpenSpec.ofChange waitgraphCyclicWrong)

/-- 'disjointlaw34.WaitgraphVictims': WHATEVER THE INPUT: true; the input reads as it did. -/
def waitgraphVictimsSpec : ChangeSpec := { name := "waitgraphVictims", fn := fun _ => fun
  | [d] => { results := [.lit (.bool true)], args := [d] }
  | _ => none }
def waitgraphVictimsRow : OpenClaim := { program := "ytikcmjamioopbaa", sum := "5385ba410a4f8bf4cc394843d3e5de010e9c6b7338b5037f890ee65b37776713", func := "disjoint/disjointlaw34.WaitgraphVictims", spec := "waitgraphVictims", unfollowed := true, recurses := true, apart := false }
def WaitgraphVictimsSaid : Prop := waitgraphVictimsRow.holds Try.pinned (OpenSpec.ofChange waitgraphVictimsSpec)

/-- ITS FALSE NEIGHBOUR: 'it returns false'. Refute it at one input. -/
def waitgraphVictimsWrong : ChangeSpec := { name := "waitgraphVictims", fn := fun _ => fun
  | [d] => { results := [.lit (.bool false)], args := [d] }
  | _ => none }
def WaitgraphVictimsWrongFalsely : Prop := waitgraphVictimsRow.holds Try.pinned (OpenSpec.ofChange waitgraphVictimsWrong)

/-- 'disjointlaw34.WaitgraphRemove': WHATEVER THE INPUT: true; the input reads as it did. -/
def waitgraphRemoveSpec : ChangeSpec := { name := "waitgraphRemove", fn := fun _ => fun
  | [d1, d2, d3] => { results := [.lit (.bool true)], args := [d1, d2, d3] }
  | _ => none }
def waitgraphRemoveRow : OpenClaim := { program := "ytikcmjamioopbaa", sum := "5385ba410a4f8bf4cc394843d3e5de010e9c6b7338b5037f890ee65b37776713", func := "disjoint/disjointlaw34.WaitgraphRemove", spec := "waitgraphRemove", unfollowed := true, recurses := true, apart := false }
def WaitgraphRemoveSaid : Prop := waitgraphRemoveRow.holds Try.pinned (OpenSpec.ofChange waitgraphRemoveSpec)

/-- ITS FALSE NEIGHBOUR: 'it returns false'. Refute it at one input. -/
def waitgraphRemoveWrong : ChangeSpec := { name := "waitgraphRemove", fn := fun _ => fun
  | [d1, d2, d3] => { results := [.lit (.bool false)], args := [d1, d2, d3] }
  | _ => none }
def WaitgraphRemoveWrongFalsely : Prop := waitgraphRemoveRow.holds Try.pinned (OpenSpec.ofChange waitgraphRemoveWrong)

/-- 'disjointlaw34.WaitgraphStrings': WHATEVER THE INPUT: true; the input reads as it did. -/
def waitgraphStringsSpec : ChangeSpec := { name := "waitgraphStrings", fn := fun _ => fun
  | [d1, d2] => { results := [.lit (.bool true)], args := [d1, d2] }
  | _ => none }
def waitgraphStringsRow : OpenClaim := { program := "ytikcmjamioopbaa", sum := "5385ba410a4f8bf4cc394843d3e5de010e9c6b7338b5037f890ee65b37776713", func := "disjoint/disjointlaw34.WaitgraphStrings", spec := "waitgraphStrings", unfollowed := true, recurses := true, apart := false }
def WaitgraphStringsSaid : Prop := waitgraphStringsRow.holds Try.pinned (OpenSpec.ofChange waitgraphStringsSpec)

/-- ITS FALSE NEIGHBOUR: 'it returns false'. Refute it at one input. -/
def waitgraphStringsWrong : ChangeSpec := { name := "waitgraphStrings", fn := fun _ => fun
  | [d1, d2] => { results := [.lit (.bool false)], args := [d1, d2] }
  | _ => none }
def WaitgraphStringsWrongFalsely : Prop := waitgraphStringsRow.holds Try.pinned (OpenSpec.ofChange waitgraphStringsWrong)

/- THE SECOND FORM. 'bulk': how many values and letters a reading holds, each counted each time it is reached (what is shared counts as often as it is met; a slice's spare places count too). A statement '..UptoSaid' is the law's where the arguments, and the package variables that the reading takes, are together of bulk at most 1048576: NARROWER than '..Said'. Prove '..Said' where nothing that the law and all that it calls make is longer than what came in: it says more and counts as full. Else prove '..UptoSaid'. A law counts once. -/
mutual
def uptoBulk {H : Type} : DataW H → Nat
  | .lit (.string bytes) => bytes.length + 1
  | .lit _ => 1
  | .nil => 1
  | .ptr d => uptoBulk d + 1
  | .slice elems spare => uptoBulkAll elems + uptoBulkAll spare + 1
  | .agg parts => uptoBulkAll parts + 1
  | .iface _ d => uptoBulk d + 1
  | .map entries => uptoBulkEntries entries + 1
  | .held _ => 1
def uptoBulkAll {H : Type} : List (DataW H) → Nat
  | [] => 0
  | d :: r => uptoBulk d + uptoBulkAll r
def uptoBulkEntries {H : Type} : List (Lit × DataW H) → Nat
  | [] => 0
  | x :: r => uptoBulkEntry x + uptoBulkEntries r
def uptoBulkEntry {H : Type} : Lit × DataW H → Nat
  | (.string bytes, d) => bytes.length + uptoBulk d + 1
  | (_, d) => uptoBulk d + 1
 end
def uptoSmall : (H : Type) → List (DataW H) → Bool := fun _ ds => decide (uptoBulkAll ds ≤ 1048576)
def OpenSpec.upto (s : _root_.Go.ChangeSpec) : _root_.Go.OpenSpec := { _root_.Go.OpenSpec.ofChange s with cond := some uptoSmall }

/-- 'disjointlaw34.WaitgraphEdges', WHERE WHAT IT READS IS OF BULK AT MOST 1048576: true; the input reads as it did. -/
def waitgraphEdgesUptoRow : OpenClaim := { program := "ytikcmjamioopbaa", sum := "5385ba410a4f8bf4cc394843d3e5de010e9c6b7338b5037f890ee65b37776713", func := "disjoint/disjointlaw34.WaitgraphEdges", spec := "waitgraphEdges", unfollowed := true, recurses := true, apart := false, narrowed := true }
def WaitgraphEdgesUptoSaid : Prop := waitgraphEdgesUptoRow.holds Try.pinned (OpenSpec.upto waitgraphEdgesSpec)

/-- 'disjointlaw34.WaitgraphSuccessors', WHERE WHAT IT READS IS OF BULK AT MOST 1048576: true; the input reads as it did. -/
def waitgraphSuccessorsUptoRow : OpenClaim := { program := "ytikcmjamioopbaa", sum := "5385ba410a4f8bf4cc394843d3e5de010e9c6b7338b5037f890ee65b37776713", func := "disjoint/disjointlaw34.WaitgraphSuccessors", spec := "waitgraphSuccessors", unfollowed := true, recurses := true, apart := false, narrowed := true }
def WaitgraphSuccessorsUptoSaid : Prop := waitgraphSuccessorsUptoRow.holds Try.pinned (OpenSpec.upto waitgraphSuccessorsSpec)

/-- 'disjointlaw34.WaitgraphReaches', WHERE WHAT IT READS IS OF BULK AT MOST 1048576: true; the input reads as it did. -/
def waitgraphReachesUptoRow : OpenClaim := { program := "ytikcmjamioopbaa", sum := "5385ba410a4f8bf4cc394843d3e5de010e9c6b7338b5037f890ee65b37776713", func := "disjoint/disjointlaw34.WaitgraphReaches", spec := "waitgraphReaches", unfollowed := true, recurses := true, apart := false, narrowed := true }
def WaitgraphReachesUptoSaid : Prop := waitgraphReachesUptoRow.holds Try.pinned (OpenSpec.upto waitgraphReachesSpec)

/-- 'disjointlaw34.WaitgraphCycle', WHERE WHAT IT READS IS OF BULK AT MOST 1048576: true; the input reads as it did. -/
def waitgraphCycleUptoRow : OpenClaim := { program := "ytikcmjamioopbaa", sum := "5385ba410a4f8bf4cc394843d3e5de010e9c6b7338b5037f890ee65b37776713", func := "disjoint/disjointlaw34.WaitgraphCycle", spec := "waitgraphCycle", unfollowed := true, recurses := true, apart := false, narrowed := true }
def WaitgraphCycleUptoSaid : Prop := waitgraphCycleUptoRow.holds Try.pinned (OpenSpec.upto waitgraphCycleSpec)

/-- 'disjointlaw34.WaitgraphCyclic', WHERE WHAT IT READS IS OF BULK AT MOST 1048576: true; the input reads as it did. -/
def waitgraphCyclicUptoRow : OpenClaim := { program := "ytikcmjamioopbaa", sum := "5385ba410a4f8bf4cc394843d3e5de010e9c6b7338b5037f890ee65b37776713", func := "disjoint/disjointlaw34.WaitgraphCyclic", spec := "waitgraphCyclic", unfollowed := true, recurses := true, apart := false, narrowed := true }
def WaitgraphCyclicUptoSaid : Prop := waitgraphCyclicUptoRow.holds Try.pinned (OpenSpec.upto waitgraphCyclicSpec)

/-- 'disjointlaw34.WaitgraphVictims', WHERE WHAT IT READS IS OF BULK AT MOST 1048576: true; the input reads as it did. -/
def waitgraphVictimsUptoRow : OpenClaim := { program := "ytikcmjamioopbaa", sum := "5385ba410a4f8bf4cc394843d3e5de010e9c6b7338b5037f890ee65b37776713", func := "disjoint/disjointlaw34.WaitgraphVictims", spec := "waitgraphVictims", unfollowed := true, recurses := true, apart := false, narrowed := true }
def WaitgraphVictimsUptoSaid : Prop := waitgraphVictimsUptoRow.holds Try.pinned (OpenSpec.upto waitgraphVictimsSpec)

/-- 'disjointlaw34.WaitgraphRemove', WHERE WHAT IT READS IS OF BULK AT MOST 1048576: true; the input reads as it did. -/
def waitgraphRemoveUptoRow : OpenClaim := { program := "ytikcmjamioopbaa", sum := "5385ba410a4f8bf4cc394843d3e5de010e9c6b7338b5037f890ee65b37776713", func := "disjoint/disjointlaw34.WaitgraphRemove", spec := "waitgraphRemove", unfollowed := true, recurses := true, apart := false, narrowed := true }
def WaitgraphRemoveUptoSaid : Prop := waitgraphRemoveUptoRow.holds Try.pinned (OpenSpec.upto waitgraphRemoveSpec)

/-- 'disjointlaw34.WaitgraphStrings', WHERE WHAT IT READS IS OF BULK AT MOST 1048576: true; the input reads as it did. -/
def waitgraphStringsUptoRow : OpenClaim := { program := "ytikcmjamioopbaa", sum := "5385ba410a4f8bf4cc394843d3e5de010e9c6b7338b5037f890ee65b37776713", func := "disjoint/disjointlaw34.WaitgraphStrings", spec := "waitgraphStrings", unfollowed := true, recurses := true, apart := false, narrowed := true }
def WaitgraphStringsUptoSaid : Prop := waitgraphStringsUptoRow.holds Try.pinned (OpenSpec.upto waitgraphStringsSpec)

end Rows
end Go.Proofs.Ytikcmjamioopbaa
