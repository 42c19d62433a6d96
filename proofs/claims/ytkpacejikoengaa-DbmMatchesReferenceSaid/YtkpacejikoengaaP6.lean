/- What Bound answers. Plain laws, no program. -/
import Derived.Test.YtkpacejikoengaaP5
namespace Go.Proofs.Ytkpacejikoengaa.M
set_option linter.unusedVariables false
noncomputable def satB (all : List Bd) : Bool := @decide (Sat all) (Classical.propDecidable _)
theorem satB_t {all : List Bd} : satB all = true ↔ Sat all := by unfold satB; exact @decide_eq_true_iff _ (Classical.propDecidable _)
theorem satB_yes {all : List Bd} (h : Sat all) : satB all = true := satB_t.2 h
theorem satB_no {all : List Bd} (h : ¬ Sat all) : satB all = false := by cases e : satB all with | false => rfl | true => exact absurd (satB_t.1 e) h
theorem satB_of {all : List Bd} {b : Bool} (h : b = true ↔ Sat all) : b = satB all := by
  cases b with
  | true => exact (satB_yes (h.1 rfl)).symm
  | false => exact (satB_no fun e => by have := h.2 e; cases this).symm
def BRes (all : List Bd) (n : Nat) (i j c : Int) (ok : Bool) : Prop :=
  (¬ ((0 ≤ i ∧ i ≤ n) ∧ (0 ≤ j ∧ j ≤ n) ∧ Sat all) ∧ c = 0 ∧ ok = false) ∨ ((0 ≤ i ∧ i ≤ n) ∧ (0 ≤ j ∧ j ≤ n) ∧ Sat all ∧ BR all i j c ok)
theorem BRes.uniq {all : List Bd} {n : Nat} {i j c c' : Int} {ok ok' : Bool} (h : BRes all n i j c ok) (h' : BRes all n i j c' ok') : c = c' ∧ ok = ok' := by
  rcases h with ⟨h1, h2, h3⟩ | ⟨h1, h2, h3, h4⟩ <;> rcases h' with ⟨g1, g2, g3⟩ | ⟨g1, g2, g3, g4⟩
  · exact ⟨by rw [h2, g2], by rw [h3, g3]⟩
  · exact absurd ⟨g1, g2, g3⟩ h1
  · exact absurd ⟨h1, h2, h3⟩ g1
  · exact h4.uniq g4
theorem em3 (p q r : Prop) : ¬ p ∨ (p ∧ ¬ q) ∨ (p ∧ q ∧ ¬ r) ∨ (p ∧ q ∧ r) := by
  by_cases h1 : p <;> by_cases h2 : q <;> by_cases h3 : r <;> simp_all
end Go.Proofs.Ytkpacejikoengaa.M
