/- The readers of the laws' arguments: data to trees. -/
import Derived.Test.YtojkjiakkcgfcaaE26
import Derived.Test.YtojkjiakkcgfcaaB1
namespace Go.Proofs.Ytojkjiakkcgfcaa.W
open Go.RowKit E
set_option linter.unusedVariables false
abbrev bxT (b : Bx) : List T := [.v (.int .i64 b.tb), .sl .un 6 (b.ss.map sdT)]
abbrev ok67 (s : Sd) : Prop := (fun _ : Bool => True) s.nul ∧ (fun _ : Bool => True) s.oth ∧ (fun i : Int => (Lit.int .i64 i).wf = true) s.lo ∧ (fun i : Int => (Lit.int .i64 i).wf = true) s.hi ∧ (fun s : ByteArray => s.size ≤ 140737488351232) s.fr ∧ (fun s : ByteArray => s.size ≤ 140737488351232) s.to ∧ True
theorem rd67 (N : Nat) : Reads Try.prog N 67 6 sdT ok67 :=
  (Reads.struct Try.underlying67 (ReadsF.cons rfl (by kernel_rfl) (fun M _ => (Reads.bool Try.underlying4)) (ReadsF.cons rfl (by kernel_rfl) (fun M _ => (Reads.bool Try.underlying4)) (ReadsF.cons rfl (by kernel_rfl) (fun M _ => (Reads.int Try.underlying2)) (ReadsF.cons rfl (by kernel_rfl) (fun M _ => (Reads.int Try.underlying2)) (ReadsF.cons rfl (by kernel_rfl) (fun M _ => (Reads.string Try.underlying9)) (ReadsF.cons rfl (by kernel_rfl) (fun M _ => (Reads.string Try.underlying9)) .nil))))))).conv (fun p => (⟨p.1, p.2.1, p.2.2.1, p.2.2.2.1, p.2.2.2.2.1, p.2.2.2.2.2.1⟩ : Sd)) (fun _ _ => rfl) (fun _ h => h)
abbrev ok30 (l : List Sd) : Prop := l.length * 56 ≤ 140737488351232 ∧ l.length ≤ maxLen ∧ ∀ x ∈ l, ok67 x
theorem rd30 (N : Nat) : Reads Try.prog N 30 1 (fun x : List Sd => ([.sl .un 6 (x.map sdT)] : List T)) ok30 :=
  (Reads.slice Try.underlying30 (by kernel_rfl) (by decide) (fun M _ => (rd67 M))).conv id (fun _ _ => rfl) (fun _ h => by rw [show Try.prog.bytesOf 67 = 56 from by kernel_rfl] at h; exact h)
abbrev ok32 (s : Bx) : Prop := (fun i : Int => (Lit.int .i64 i).wf = true) s.tb ∧ ok30 s.ss ∧ True
theorem rd32 (N : Nat) : Reads Try.prog N 32 2 bxT ok32 :=
  (Reads.struct Try.underlying32 (ReadsF.cons rfl (by kernel_rfl) (fun M _ => (Reads.int Try.underlying3)) (ReadsF.cons rfl (by kernel_rfl) (fun M _ => (rd30 M)) .nil))).conv (fun p => (⟨p.1, p.2.1⟩ : Bx)) (fun _ _ => rfl) (fun _ h => h)
abbrev ok34 (s : Opn) : Prop := (fun i : Int => (Lit.int .u8 i).wf = true) s.kind ∧ (fun i : Int => (Lit.int .i64 i).wf = true) s.id ∧ ok32 s.b ∧ True
theorem rd34 (N : Nat) : Reads Try.prog N 34 4 opT ok34 :=
  (Reads.struct Try.underlying34 (ReadsF.cons rfl (by kernel_rfl) (fun M _ => (Reads.int Try.underlying5)) (ReadsF.cons rfl (by kernel_rfl) (fun M _ => (Reads.int Try.underlying2)) (ReadsF.cons rfl (by kernel_rfl) (fun M _ => (rd32 M)) .nil)))).conv (fun p => (⟨p.1, p.2.1, p.2.2.1⟩ : Opn)) (fun _ _ => rfl) (fun _ h => h)
abbrev ok22 (l : List Opn) : Prop := l.length * 48 ≤ 140737488351232 ∧ l.length ≤ maxLen ∧ ∀ x ∈ l, ok34 x
theorem rd22 (N : Nat) : Reads Try.prog N 22 1 (fun x : List Opn => ([.sl .un 4 (x.map opT)] : List T)) ok22 :=
  (Reads.slice Try.underlying22 (by kernel_rfl) (by decide) (fun M _ => (rd34 M))).conv id (fun _ _ => rfl) (fun _ h => by rw [show Try.prog.bytesOf 34 = 48 from by kernel_rfl] at h; exact h)
end Go.Proofs.Ytojkjiakkcgfcaa.W

