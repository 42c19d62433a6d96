/- Parts of the proof, one after the other: E39, E40. No condition. -/
import Derived.Test.YtihlgigaejhilaaGreatM9
import Derived.Laws.BytesString
import Derived.Lib.AppendStr
set_option linter.unusedVariables false
/- A slice of bytes turned to a string. Plain theorems, for any program. -/
namespace Go.Proofs.YtihlgigaejhilaaGreat.E
open Go.RowKit
end Go.Proofs.YtihlgigaejhilaaGreat.E
/- A string's bytes appended to a slice of the call's own. Plain theorems, for any program. -/
namespace Go.Proofs.YtihlgigaejhilaaGreat.E
open Go.RowKit
/-- a string's bytes as elements -/
abbrev bT (s : ByteArray) : List (List T) := s.data.toList.map fun b => [.v (.int .u8 b.toNat)]
theorem bT_length (s : ByteArray) : (bT s).length = s.size := by simp [bT]
theorem bT_reps {μ : Mem} (s : ByteArray) : Reps (RepT μ) (bT s).flatten (Lib.strCells s) := by
  unfold bT Lib.strCells
  induction s.data.toList with
  | nil => exact .nil
  | cons b r ih => simp only [List.map_cons, List.flatten_cons, List.singleton_append]; exact .cons (.v rfl) ih
section
variable {P : Program}
end
section
variable {P : Program} {all : Array Oper} {o : Oper} {s s' : S} {K : S → Prop}
end
end Go.Proofs.YtihlgigaejhilaaGreat.E
