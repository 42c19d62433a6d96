/- Moves of maps that are not shared yet; a slice that may be nil against nil. Plain theorems, for any program. -/
import Derived.Test.YtojkjiakkcgfcaaE31
namespace Go.Proofs.Ytojkjiakkcgfcaa.E
open Go.RowKit
set_option linter.unusedVariables false
theorem q_mvM {P : Program} {o : Oper} {s : S} {y : Operand} {d : Nat} (ho : o.op = .move y) (hy : s.eval y = .lmp d) : QV P o s (.lmp d) := hy ▸ q_move ho
theorem q_asM {P : Program} {o : Oper} {s : S} {y : Operand} {d : Nat} (ho : o.op = .assign y) (hy : s.eval y = .lmp d) : QV P o s (.lmp d) := hy ▸ q_assign ho
theorem SeqK.eqlNZ {P : Program} {all : Array Oper} {K : S → Prop} {rest : List Oper} {o : Oper} {n d : Nat} {t : Nat → X} {L : Nat → Option AO} {H : Heap} {tt u : TypeId} {x y : Operand} {z : Nz} {sz : Nat} {es : List (List T)} (ho : o.op = .binOp .eql tt x y u) (hg : o.guard = none) (hdst : o.dst = some d) (hd : Nat.blt d n = true) (hx : S.eval ⟨n, t, L, H⟩ x = .c (.a (.t (.sl z sz es)))) (hy : nilT (S.eval ⟨n, t, L, H⟩ y) = some (.sl, true)) (ty : nkB P tt .sl = true)
    (k : ∀ b, (b = true → es = []) → (z = .ne → es = [] → b = true) → SeqK P all K rest ⟨n, upd t d (bX b), L, H⟩) : SeqK P all K (o :: rest) ⟨n, t, L, H⟩ := by
  intro c a w g
  unfold opRun
  rw [if_pos (by simp [Region.wanted, hg])]
  refine wp_to ?_
  have ha := g.eval x
  rw [hx] at ha
  have hb := nilT_rep (g.eval y) hy
  obtain ⟨b, hv, he, he2⟩ : ∃ b, NV .sl b (a.eval x) ∧ (b = true → es = []) ∧ (z = .ne → es = [] → b = true) := by
    generalize a.eval x = v at ha
    cases ha with | t ha =>
    cases ha with
    | nil h => exact ⟨true, ⟨_, _, rfl⟩, (fun _ => rfl), (fun _ _ => rfl)⟩
    | emp h => exact ⟨false, ⟨_, _, _, rfl⟩, (fun h => by cases h), (fun e => absurd e h)⟩
    | sl u ne => exact ⟨false, ⟨_, _, _, rfl⟩, (fun h => by cases h), (fun _ e => absurd e ne)⟩
  have hrun : (execOp a.eval o).run P w = .ok (.value (.bool b)) w := by
    simp only [execOp, ho, Sem.run_bind, nil_guard hv, Result.andThen_ok, (nil_bin ty hv hb w).1]; rfl
  unfold Oper.wp
  rw [hrun]
  refine ⟨_, c, k b he he2, ?_, .refl _ _ _⟩
  have := g.put (some d) (x := bX b) (v := .bool b) (by have h9 := inb' (o := o) hdst hd; rw [hdst] at h9; exact h9) (tv_rep rfl) (fun _ h => by cases h)
  rw [hdst]; exact this
end Go.Proofs.Ytojkjiakkcgfcaa.E
