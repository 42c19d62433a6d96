import Derived.Test.YtgnnjebfoffphaaGreatDoorM10
import Derived.Lib.UnsafeStr
import Derived.Lib.Builder
import Derived.Sort.Grow
set_option linter.unusedVariables false
namespace Go.Proofs.YtgnnjebfoffphaaGreatDoor.E
open Go.RowKit
theorem repT_v {μ : Mem} {u v : Value} (h : RepT μ (.v u) v) : v = u := by cases h; rfl
section
variable {P : Program}
abbrev vC (v : Value) : C := .a (.t (.v v))
theorem reps_vals {c : Ctx} : ∀ {us vs : List Value}, Reps (RepC c.μ c.β) (us.map vC) vs → vs = us
  | [], vs, h => by
    have := h.1
    cases vs with
    | nil => rfl
    | cons a r => simp at this
  | u :: us, vs, h => by
    match vs, h with
    | [], h => have := h.1; simp at this
    | v :: vs, h =>
      have h0 : RepX c (.c (vC u)) v := h.2 0 _ _ rfl rfl
      have h1 := rep_tv h0
      subst h1
      rw [reps_vals (us := us) (vs := vs) ⟨by have := h.1; simpa using this, fun i x w hx hw => h.2 (i + 1) x w (by simpa using hx) (by simpa using hw)⟩]
def add64F : Array Value → Sem Value := fun args => do
    let (x, y, c) ← Extern.MathBitsCarry.three "Add64" args
    pure (Extern.MathBitsCarry.pair ((x + y + c) % Extern.MathBitsCarry.m64) ((x + y + c) / Extern.MathBitsCarry.m64))
end
end Go.Proofs.YtgnnjebfoffphaaGreatDoor.E
