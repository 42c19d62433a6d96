import Derived.Test.YtgnnjebfoffphaaGreatDoorM8
import Derived.RangeFuncMany
set_option linter.unusedSimpArgs false
set_option linter.unusedVariables false
namespace Go.Proofs.YtgnnjebfoffphaaGreatDoor.E
open Go.RowKit
def ndB (ops : Array Oper) : Bool := ops.toList.all fun o => match o.op with | .defer _ => false | _ => true
def AWR (P : Program) (l : Nat) (cd : Code) (Q : Exit → S → Prop) (s : S) : Prop :=
  ∀ c a w, Sat c s a w → cd.wpIn (Fence.wide.inRound l) 0 P (fun e a' w' => ∃ s' c', Q e s' ∧ Sat c' s' a' w' ∧ Ext c s.own w c' s'.own w') a w
def capsA : List C → Option (List A)
  | [] => some []
  | .a x :: r => (capsA r).map (x :: ·)
  | .g _ :: _ => none
theorem capsA_eq : ∀ {l : List C} {cs : List A}, capsA l = some cs → l = cs.map C.a
  | [], cs, h => by cases h; rfl
  | .a x :: r, cs, h => by
    simp only [capsA, Option.map_eq_some_iff] at h
    obtain ⟨cs', h, rfl⟩ := h
    rw [capsA_eq h]; rfl
  | .g _ :: _, cs, h => by cases h
section
variable {P : Program} {o : Oper} {s : S}
theorem q_mkFn {f : FuncId} {ys : Array Operand} {l : List C} {cs : List A} (ho : o.op = .makeFunc (.func f) #[] ys) (hl : argsX s ys.toList = some l) (hc : capsA l = some cs) : QV P o s (.c (.a (.fn f cs))) :=
  .of_same (fun _ => nolp) fun c w a hm hrep => by
    have hr : Reps (RepC c.μ c.β) l (ys.map a.eval).toList := by
      have := args_rep (c := c) (f := a.eval) hl fun y hy => hrep y (by rw [ho]; simp [Op.operands]; simpa using hy)
      simpa using this
    have hc := capsA_eq hc
    subst hc
    refine ⟨.func (.func f) #[] (ys.map a.eval), by simp [execOp, ho, Instr.makeFunc], ?_⟩
    have hlen : (ys.map a.eval).toList.length = cs.length := by have := hr.1; simpa using this.symm
    refine RepA.fn (fun i => (ys.map a.eval).toList.getD i undef) ?_ fun i x hx => ?_
    · refine List.ext_getElem? fun i => ?_
      rw [qR, ← hlen]
      by_cases h : i < (ys.map a.eval).toList.length
      · rw [List.getElem?_range h, qF h]; simp only [Option.map_some, qI, qF h, Option.getD_some]
      · rw [List.getElem?_eq_none (by omega), List.getElem?_eq_none (by simp at h ⊢; omega)]; rfl
    · have hi : i < (ys.map a.eval).toList.length := by rw [hlen]; exact (List.getElem?_eq_some_iff.1 hx).1
      have h1 : (cs.map C.a)[i]? = some (.a x) := by rw [qR, hx]; rfl
      have := hr.2 i (.a x) _ h1 (qF hi)
      show RepA c.μ c.β x _
      rw [qI, qF hi]
      exact this
end
end Go.Proofs.YtgnnjebfoffphaaGreatDoor.E
