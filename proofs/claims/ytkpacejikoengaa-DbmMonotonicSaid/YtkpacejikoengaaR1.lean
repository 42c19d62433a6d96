/- The readers of the laws' arguments: data to trees. -/
import Derived.Test.YtkpacejikoengaaE31
import Derived.Test.YtkpacejikoengaaB1
namespace Go.Proofs.Ytkpacejikoengaa.W
open Go.RowKit E
set_option linter.unusedVariables false
abbrev ok41 (s : M.Bd) : Prop := (fun i : Int => (Lit.int .i64 i).wf = true) s.i ∧ (fun i : Int => (Lit.int .i64 i).wf = true) s.j ∧ (fun i : Int => (Lit.int .i64 i).wf = true) s.c ∧ True
theorem rd41 (N : Nat) : Reads Try.prog N 41 3 bdT ok41 :=
  (Reads.struct Try.underlying41 (ReadsF.cons rfl (by kernel_rfl) (fun M _ => (Reads.int Try.underlying3)) (ReadsF.cons rfl (by kernel_rfl) (fun M _ => (Reads.int Try.underlying3)) (ReadsF.cons rfl (by kernel_rfl) (fun M _ => (Reads.int Try.underlying2)) .nil)))).conv (fun p => (⟨p.1, p.2.1, p.2.2.1⟩ : M.Bd)) (fun _ _ => rfl) (fun _ h => h)
abbrev ok22 (l : List M.Bd) : Prop := l.length * 24 ≤ 140737488351232 ∧ l.length ≤ maxLen ∧ ∀ x ∈ l, ok41 x
theorem rd22 (N : Nat) : Reads Try.prog N 22 1 (fun x : List M.Bd => ([.sl .un 3 (x.map bdT)] : List T)) ok22 :=
  (Reads.slice Try.underlying22 (by kernel_rfl) (by decide) (fun M _ => (rd41 M))).conv id (fun _ _ => rfl) (fun _ h => by rw [show Try.prog.bytesOf 41 = 24 from by kernel_rfl] at h; exact h)
abbrev ok48 (l : List Int) : Prop := l.length * 2 ≤ 140737488351232 ∧ l.length ≤ maxLen ∧ ∀ x ∈ l, (fun i : Int => (Lit.int .i16 i).wf = true) x
theorem rd48 (N : Nat) : Reads Try.prog N 48 1 (fun x : List Int => ([.sl .un 1 (x.map (fun x : Int => ([.v (.int .i16 x)] : List T)))] : List T)) ok48 :=
  (Reads.slice Try.underlying48 (by kernel_rfl) (by decide) (fun M _ => (Reads.int Try.underlying51))).conv id (fun _ _ => rfl) (fun _ h => by rw [show Try.prog.bytesOf 51 = 2 from by kernel_rfl] at h; exact h)
abbrev ok39 (l : List Int) : Prop := l.length = 2 ∧ ∀ x ∈ l, (fun i : Int => (Lit.int .u8 i).wf = true) x
theorem rd39 (N : Nat) : Reads Try.prog N 39 2 (fun x : List Int => ((x.map (fun x : Int => ([.v (.int .u8 x)] : List T))).flatten : List T)) ok39 := Reads.array Try.underlying39 (by kernel_rfl) (fun M _ => (Reads.int Try.underlying5))
theorem i64_b {n : Int} (h : (Lit.int .i64 n).wf = true) : -9223372036854775808 ≤ n ∧ n ≤ 9223372036854775807 := by
  simp only [Lit.wf, Bool.and_eq_true, decide_eq_true_eq] at h; exact h
theorem i16_b {n : Int} (h : (Lit.int .i16 n).wf = true) : -32768 ≤ n ∧ n ≤ 32767 := by
  simp only [Lit.wf, Bool.and_eq_true, decide_eq_true_eq] at h; exact h
theorem u8_b {n : Int} (h : (Lit.int .u8 n).wf = true) : 0 ≤ n ∧ n ≤ 255 := by
  simp only [Lit.wf, Bool.and_eq_true, decide_eq_true_eq] at h; exact h
end Go.Proofs.Ytkpacejikoengaa.W

