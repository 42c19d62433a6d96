/- Two parts of the objects, one of which a call leaves alone. Plain theorems, for any program. -/
import Derived.Test.YtojkjiakkcgfcaaE26
namespace Go.Proofs.Ytojkjiakkcgfcaa.E
open Go.RowKit
set_option linter.unusedVariables false
open Classical in
/-- without the objects of which nothing is claimed -/
noncomputable def full (H : Heap) : Heap := fun k => match H k with | some o => if o.empty then none else some o | none => none
theorem full_some {H : Heap} {k : Nat} {o : AO} : full H k = some o ↔ H k = some o ∧ ¬ o.empty := by
  unfold full
  cases h : H k with
  | none => simp
  | some y =>
    simp only
    split
    · rename_i hy
      constructor
      · intro h; cases h
      · rintro ⟨h1, h2⟩; injection h1 with h1; subst h1; exact absurd hy h2
    · rename_i hy
      constructor
      · intro h; injection h with h; subst h; exact ⟨rfl, hy⟩
      · rintro ⟨h1, _⟩; exact h1
structure Part (H A B : Heap) : Prop where
  left : ∀ k o, A k = some o → H k = some o
  right : ∀ k o, B k = some o → H k = some o ∧ A k = none ∧ ¬ o.empty
theorem Part.start (H : Heap) : Part H (fun _ => none) (full H) := ⟨fun _ _ h => (by cases h), fun k o h => ⟨(full_some.1 h).1, rfl, (full_some.1 h).2⟩⟩
theorem Part.sub {H A B : Heap} (h : Part H A B) : ∀ k o, B k = some o → H k = some o := fun k o hk => (h.right k o hk).1
theorem Spec.frame2 {P : Program} {f : FuncId} {args : List C} {H A B : Heap} {Q : X → Heap → Prop} (h : Spec P f args A Q) (p : Part H A B) :
    Spec P f args H fun x H' => ∃ A', Q x A' ∧ Part H' (full A') B :=
  (Spec.frame h p.left).mono fun x H'' ⟨A', q, h1, h2, h3⟩ => ⟨A', q, fun k o hk => h1 k o (full_some.1 hk).1 (full_some.1 hk).2, fun k o hk => by
    obtain ⟨h4, h5, h6⟩ := p.right k o hk
    refine ⟨h2 k o h4 h5 h6, ?_, h6⟩
    cases h7 : full A' k with
    | none => rfl
    | some y => exact absurd (h3 k y o (full_some.1 h7).1 (full_some.1 h7).2 h4 h5) h6⟩
end Go.Proofs.Ytojkjiakkcgfcaa.E
