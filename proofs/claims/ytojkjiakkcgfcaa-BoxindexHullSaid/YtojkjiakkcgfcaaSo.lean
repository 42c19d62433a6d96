/- slices.Sort, in the engine's words. -/
import Derived.Test.YtojkjiakkcgfcaaB2
import Derived.Test.YtojkjiakkcgfcaaE25
import Derived.Test.YtojkjiakkcgfcaaShelf
namespace Go.Proofs.Ytojkjiakkcgfcaa.W
open Go.RowKit E
set_option linter.unusedVariables false
abbrev i64A (n : Int) : A := .t (.v (.int .i64 n))
theorem sort_any (H : Heap) (k : Nat) (l : List Int) (hk : H k = some (.row 2 1 (l.map i64A))) (hl : l.length ≤ 1000000) :
    E.Spec Try.prog 26 [.a (.os k 0 l.length 1)] H fun x H' => x = .tup [] ∧ H' = upd H k (some (.row 2 1 ((l.mergeSort fun x y => decide (x ≤ y)).map i64A))) :=
  E.Spec.sort (Value.int .i64) (fun _ => rfl) (fun l => l.mergeSort fun x y => decide (x ≤ y)) (fun l => List.length_mergeSort l) (fun blk off cap zs w => Try.slices_Sort_int blk off cap zs w) (fun p cap w => Try.slices_Sort_int_none p cap w) H k 2 l hk (by omega)
end Go.Proofs.Ytojkjiakkcgfcaa.W
