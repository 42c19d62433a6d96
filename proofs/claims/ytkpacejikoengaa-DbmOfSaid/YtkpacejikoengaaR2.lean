/- The readers of the laws' arguments: data to trees. -/
import Derived.Test.YtkpacejikoengaaW18
namespace Go.Proofs.Ytkpacejikoengaa.W
open Go.RowKit E
set_option linter.unusedVariables false
structure Li where
  k : Int
  l : List Cf
structure Cn where
  lin : Li
  eq : Bool
abbrev liT (x : Li) : List T := [.v (.int .i64 x.k), .sl .un 2 (x.l.map cfT)]
abbrev cnT (x : Cn) : List T := [.v (.int .i64 x.lin.k), .sl .un 2 (x.lin.l.map cfT), .v (.bool x.eq)]
abbrev ok82 (s : Cf) : Prop := (fun i : Int => (Lit.int .i64 i).wf = true) s.v ∧ (fun i : Int => (Lit.int .i64 i).wf = true) s.n ∧ True
theorem rd82 (N : Nat) : Reads Try.prog N 82 2 cfT ok82 :=
  (Reads.struct Try.underlying82 (ReadsF.cons rfl (by kernel_rfl) (fun M _ => (Reads.int Try.underlying3)) (ReadsF.cons rfl (by kernel_rfl) (fun M _ => (Reads.int Try.underlying2)) .nil))).conv (fun p => (⟨p.1, p.2.1⟩ : Cf)) (fun _ _ => rfl) (fun _ h => h)
abbrev ok53 (l : List Cf) : Prop := l.length * 16 ≤ 140737488351232 ∧ l.length ≤ maxLen ∧ ∀ x ∈ l, ok82 x
theorem rd53 (N : Nat) : Reads Try.prog N 53 1 (fun x : List Cf => ([.sl .un 2 (x.map cfT)] : List T)) ok53 :=
  (Reads.slice Try.underlying53 (by kernel_rfl) (by decide) (fun M _ => (rd82 M))).conv id (fun _ _ => rfl) (fun _ h => by rw [show Try.prog.bytesOf 82 = 16 from by kernel_rfl] at h; exact h)
abbrev ok55 (s : Li) : Prop := (fun i : Int => (Lit.int .i64 i).wf = true) s.k ∧ ok53 s.l ∧ True
theorem rd55 (N : Nat) : Reads Try.prog N 55 2 liT ok55 :=
  (Reads.struct Try.underlying55 (ReadsF.cons rfl (by kernel_rfl) (fun M _ => (Reads.int Try.underlying2)) (ReadsF.cons rfl (by kernel_rfl) (fun M _ => (rd53 M)) .nil))).conv (fun p => (⟨p.1, p.2.1⟩ : Li)) (fun _ _ => rfl) (fun _ h => h)
abbrev ok57 (s : Cn) : Prop := ok55 s.lin ∧ (fun _ : Bool => True) s.eq ∧ True
theorem rd57 (N : Nat) : Reads Try.prog N 57 3 cnT ok57 :=
  (Reads.struct Try.underlying57 (ReadsF.cons rfl (by kernel_rfl) (fun M _ => (rd55 M)) (ReadsF.cons rfl (by kernel_rfl) (fun M _ => (Reads.bool Try.underlying4)) .nil))).conv (fun p => (⟨p.1, p.2.1⟩ : Cn)) (fun _ _ => rfl) (fun _ h => h)
end Go.Proofs.Ytkpacejikoengaa.W

