/- Parts of the proof, one after the other: W28, W29, W30. No condition. -/
import Derived.Test.YtnmfjojhgfipcaaM16
namespace Go.Proofs.Ytnmfjojhgfipcaa.W
open Go.RowKit E
set_option linter.unusedVariables false
set_option linter.unusedSimpArgs false
set_option linter.unusedSectionVars false
abbrev clA (c : Cl) : List A := [.t (.sl .un 1 (c.nl.map i64T)), .t (.sl .un 1 (c.nn.map i64T)), .t (.sl .un 4 (c.ax.map axT)), .t (.sl .un 3 (c.is.map ctT)), .t (.sl .un 4 (c.ts.map tsT)), .t (.sl .un 2 (c.sm.map prT)), .t (.sl .un 2 (c.df.map prT))]
end Go.Proofs.Ytnmfjojhgfipcaa.W
namespace Go.Proofs.Ytnmfjojhgfipcaa.W
open Go.RowKit E
set_option linter.unusedVariables false
set_option linter.unusedSimpArgs false
set_option linter.unusedSectionVars false
structure rgV (c : Cl) : Prop where
  ax : ∀ a ∈ c.ax, R64 a.f.c ∧ ∀ k ∈ a.f.cs, R64 k.n
  is : ∀ a ∈ c.is, R64 a.f.c ∧ ∀ k ∈ a.f.cs, R64 k.n
abbrev HV5 (H : Heap) (k2 k3 k5 : Nat) (c : Cl) (l : List Vr) (z : Nz) : Heap := upd (upd (upd H k2 (some (.box (clA c)))) k3 (some (.box [.t (.sl z 5 (l.map vrT))]))) k5 (some (.box [.t (.v (.int .i64 ((l.length : Nat) : Int)))]))
abbrev fn55 (k2 k3 k5 : Nat) : A := .fn 55 [.bp k5 0, .bp k3 0, .bp k2 0]
abbrev HV (H : Heap) (k2 k3 k5 k6 : Nat) (c : Cl) (l : List Vr) (z : Nz) : Heap := upd (HV5 H k2 k3 k5 c l z) k6 (some (.box [fn55 k2 k3 k5]))
structure VX (H : Heap) (k2 k3 k5 k6 : Nat) : Prop where
  h2 : H k2 = none
  h3 : H k3 = none
  h5 : H k5 = none
  h6 : H k6 = none
  n23 : k2 ≠ k3
  n25 : k2 ≠ k5
  n26 : k2 ≠ k6
  n35 : k3 ≠ k5
  n36 : k3 ≠ k6
  n56 : k5 ≠ k6
section
variable {H : Heap} {k2 k3 k5 k6 : Nat} {c : Cl} {l : List Vr} {z : Nz}
theorem VX.g2 (n : VX H k2 k3 k5 k6) : HV H k2 k3 k5 k6 c l z k2 = some (.box (clA c)) := by rw [HV, upd_ne _ _ n.n26, HV5, upd_ne _ _ n.n25, upd_ne _ _ n.n23, upd_same]
theorem VX.g3 (n : VX H k2 k3 k5 k6) : HV H k2 k3 k5 k6 c l z k3 = some (.box [.t (.sl z 5 (l.map vrT))]) := by rw [HV, upd_ne _ _ n.n36, HV5, upd_ne _ _ n.n35, upd_same]
theorem VX.g5 (n : VX H k2 k3 k5 k6) : HV H k2 k3 k5 k6 c l z k5 = some (.box [.t (.v (.int .i64 ((l.length : Nat) : Int)))]) := by rw [HV, upd_ne _ _ n.n56, HV5, upd_same]
theorem VX.g6 (n : VX H k2 k3 k5 k6) : HV H k2 k3 k5 k6 c l z k6 = some (.box [fn55 k2 k3 k5]) := by rw [HV, upd_same]
theorem VX.up (n : VX H k2 k3 k5 k6) : ∀ j o, H j = some o → HV H k2 k3 k5 k6 c l z j = some o := fun j o h => by
  rw [HV, upd_ne _ _ (fun e => by rw [e, n.h6] at h; cases h), HV5, upd_ne _ _ (fun e => by rw [e, n.h5] at h; cases h), upd_ne _ _ (fun e => by rw [e, n.h3] at h; cases h), upd_ne _ _ (fun e => by rw [e, n.h2] at h; cases h)]; exact h
end

end Go.Proofs.Ytnmfjojhgfipcaa.W
namespace Go.Proofs.Ytnmfjojhgfipcaa.W
open Go.RowKit E
set_option linter.unusedVariables false
set_option linter.unusedSimpArgs false
set_option linter.unusedSectionVars false

end Go.Proofs.Ytnmfjojhgfipcaa.W
