/-
  NARROWER THAN 'FOR EVERY INPUT', by the rows' own cells (each row's printed sentence says how): PlanSources: loops · PlanConjuncts: loops · PlanNaive: loops.
  DERIVED. THE GIVEN ROWS OF THIS SEAT. 3 by the template 'for every input the law returns true; each argument reads behind the call as it read before'; 0 by the template 'total and deterministic' (their statements: YtihlgigaejhilaaTotals.lean).
  GIVEN WITH THE SEED: the statements are not yours to turn. If you find one false, say at which input.
  Laid BY PROGRAM, IN A SANDBOX (cutbox-rows.mjs): the forced cells as the released guide's own fill.sh prints them over the translation 4fcbb877c28332d4… (all of the seat's roots in one cut). By AI agents, Wed Nov 11 2026. No macro, syntax, notation, axiom, sorry.
-/
import Derived.Test.YtihlgigaejhilaaChecked
import GoSem.Claim
import GoSem.ClaimJoined
import GoSem.ClaimMapViews
import Derived.JoinedTies
import Derived.KernelRfl
namespace Go.Proofs.Ytihlgigaejhilaa
/- THE CELL 'sum', in the pinned program and in every row, IS THE sha256 OF THE DUMP (.gsa) THAT YtihlgigaejhilaaProg.lean LOADS. Nothing in Lean hashes anything: it is a label: what it is worth is what the hold of that sum in a sandbox is worth. -/
noncomputable def Try.pinned : Pinned := { name := "ytihlgigaejhilaa", sum := "4fcbb877c28332d43d2b84113934a556648f67b8ec62d9e9a62718dd7785f39f", checked := Try.checked }
namespace Rows
def none {H : Type} : Left H := { results := [], args := [] }

/-- 'disjointlaw44.PlanSources': WHATEVER THE INPUT: true; the input reads as it did. -/
def planSourcesSpec : ChangeSpec := { name := "planSources", fn := fun _ => fun
  | [d] => { results := [.lit (.bool true)], args := [d] }
  | _ => none }
def planSourcesRow : OpenClaim := { program := "ytihlgigaejhilaa", sum := "4fcbb877c28332d43d2b84113934a556648f67b8ec62d9e9a62718dd7785f39f", func := "disjoint/disjointlaw44.PlanSources", spec := "planSources", unfollowed := true, recurses := true, loops := true, apart := false }
def PlanSourcesSaid : Prop := planSourcesRow.holds Try.pinned (OpenSpec.ofChange planSourcesSpec)

/-- ITS FALSE NEIGHBOUR: 'it returns false'. Refute it at one input. -/
def planSourcesWrong : ChangeSpec := { name := "planSources", fn := fun _ => fun
  | [d] => { results := [.lit (.bool false)], args := [d] }
  | _ => none }
def PlanSourcesWrongFalsely : Prop := planSourcesRow.holds Try.pinned (OpenSpec.ofChange planSourcesWrong)

/-- 'disjointlaw44.PlanConjuncts': WHATEVER THE INPUT: true; the input reads as it did. -/
def planConjunctsSpec : ChangeSpec := { name := "planConjuncts", fn := fun _ => fun
  | [d] => { results := [.lit (.bool true)], args := [d] }
  | _ => none }
def planConjunctsRow : OpenClaim := { program := "ytihlgigaejhilaa", sum := "4fcbb877c28332d43d2b84113934a556648f67b8ec62d9e9a62718dd7785f39f", func := "disjoint/disjointlaw44.PlanConjuncts", spec := "planConjuncts", unfollowed := true, recurses := true, loops := true, apart := false }
def PlanConjunctsSaid : Prop := planConjunctsRow.holds Try.pinned (OpenSpec.ofChange planConjunctsSpec)

/-- ITS FALSE NEIGHBOUR: 'it returns false'. Refute it at one input. -/
def planConjunctsWrong : ChangeSpec := { name := "planConjuncts", fn := fun _ => fun
  | [d] => { results := [.lit (.bool false)], args := [d] }
  | _ => none }
def PlanConjunctsWrongFalsely : Prop := planConjunctsRow.holds Try.pinned (OpenSpec.ofChange planConjunctsWrong)

/-- 'disjointlaw44.PlanNaive': WHATEVER THE INPUT: true; the input reads as it did. -/
def planNaiveSpec : ChangeSpec := { name := "planNaive", fn := fun _ => fun
  | [d] => { results := [.lit (.bool true)], args := [d] }
  | _ => none }
def planNaiveRow : OpenClaim := { program := "ytihlgigaejhilaa", sum := "4fcbb877c28332d43d2b84113934a556648f67b8ec62d9e9a62718dd7785f39f", func := "disjoint/disjointlaw44.PlanNaive", spec := "planNaive", unfollowed := true, recurses := true, loops := true, apart := false }
def PlanNaiveSaid : Prop := planNaiveRow.holds Try.pinned (OpenSpec.ofChange planNaiveSpec)

/-- ITS FALSE NEIGHBOUR: 'it returns false'. Refute it at one input. -/
def planNaiveWrong : ChangeSpec := { name := "planNaive", fn := fun _ => fun
  | [d] => { results := [.lit (.bool false)], args := [d] }
  | _ => none }
def PlanNaiveWrongFalsely : Prop := planNaiveRow.holds Try.pinned (OpenSpec.ofChange planNaiveWrong)

/- THE SECOND FORM. 'bulk': how many values and letters a reading holds, each counted each time it is reached (what is shared counts as often as it is met; a slice's spare places count too). A statement '..UptoSaid' is the law's where the arguments, and the package variables that the reading takes, are together of bulk at most 1048576: NARROWER than '..Said'. Prove '..Said' where nothing that the law and all that it calls make is longer than what came in: it says more and counts as full. Else prove '..UptoSaid'. A law counts once. -/
mutual
def uptoBulk {H : Type} : DataW H → Nat
  | .lit (.string bytes) => bytes.length + 1
  | .lit _ => 1
  | .nil => 1
  | .ptr d => uptoBulk d + 1
  | .slice elems spare => uptoBulkAll elems + uptoBulkAll spare + 1
  | .agg parts => uptoBulkAll parts + 1
  | .iface _ d => uptoBulk d + 1
  | .map entries => uptoBulkEntries entries + 1
  | .held _ => 1
def uptoBulkAll {H : Type} : List (DataW H) → Nat
  | [] => 0
  | d :: r => uptoBulk d + uptoBulkAll r
def uptoBulkEntries {H : Type} : List (Lit × DataW H) → Nat
  | [] => 0
  | x :: r => uptoBulkEntry x + uptoBulkEntries r
def uptoBulkEntry {H : Type} : Lit × DataW H → Nat
  | (.string bytes, d) => bytes.length + uptoBulk d + 1
  | (_, d) => uptoBulk d + 1
 end
def uptoSmall : (H : Type) → List (DataW H) → Bool := fun _ ds => decide (uptoBulkAll ds ≤ 1048576)
def OpenSpec.upto (s : _root_.Go.ChangeSpec) : _root_.Go.OpenSpec := { _root_.Go.OpenSpec.ofChange s with cond := some uptoSmall }

/-- 'disjointlaw44.PlanSources', WHERE WHAT IT READS IS OF BULK AT MOST 1048576: true; the input reads as it did. -/
def planSourcesUptoRow : OpenClaim := { program := "ytihlgigaejhilaa", sum := "4fcbb877c28332d43d2b84113934a556648f67b8ec62d9e9a62718dd7785f39f", func := "disjoint/disjointlaw44.PlanSources", spec := "planSources", unfollowed := true, recurses := true, loops := true, apart := false, narrowed := true }
def PlanSourcesUptoSaid : Prop := planSourcesUptoRow.holds Try.pinned (OpenSpec.upto planSourcesSpec)

/-- 'disjointlaw44.PlanConjuncts', WHERE WHAT IT READS IS OF BULK AT MOST 1048576: true; the input reads as it did. -/
def planConjunctsUptoRow : OpenClaim := { program := "ytihlgigaejhilaa", sum := "4fcbb877c28332d43d2b84113934a556648f67b8ec62d9e9a62718dd7785f39f", func := "disjoint/disjointlaw44.PlanConjuncts", spec := "planConjuncts", unfollowed := true, recurses := true, loops := true, apart := false, narrowed := true }
def PlanConjunctsUptoSaid : Prop := planConjunctsUptoRow.holds Try.pinned (OpenSpec.upto planConjunctsSpec)

/-- 'disjointlaw44.PlanNaive', WHERE WHAT IT READS IS OF BULK AT MOST 1048576: true; the input reads as it did. -/
def planNaiveUptoRow : OpenClaim := { program := "ytihlgigaejhilaa", sum := "4fcbb877c28332d43d2b84113934a556648f67b8ec62d9e9a62718dd7785f39f", func := "disjoint/disjointlaw44.PlanNaive", spec := "planNaive", unfollowed := true, recurses := true, loops := true, apart := false, narrowed := true }
def PlanNaiveUptoSaid : Prop := planNaiveUptoRow.holds Try.pinned (OpenSpec.upto planNaiveSpec)

end Rows
end Go.Proofs.Ytihlgigaejhilaa
