/- Parts of the proof, one after the other: E35, E36, E37, E38. No condition. -/
import Derived.Test.YtnmfjojhgfipcaaGreatDoorM8
import Derived.RangeFuncMany
/- Loops over functions: the rounds' code, the call that makes a round, the loop. Plain theorems, for any program. -/
namespace Go.Proofs.YtnmfjojhgfipcaaGreatDoor.E
open Go.RowKit
set_option linter.unusedVariables false
/-! ### no operation defers a call: a round's frame runs it as any other -/
def ndB (ops : Array Oper) : Bool := ops.toList.all fun o => match o.op with | .defer _ => false | _ => true
section
variable {P : Program} {l : Nat} {o : Oper} {ops : Array Oper} {md : Region.Mode} {Q : Exit → Act → World → Prop}
theorem wpIn_round (hnd : ∀ c, o.op ≠ .defer c) {a : Act} {w : World} {K : Act → World → Prop} (h : o.wpIn Fence.wide 0 P a w K Q) : o.wpIn (Fence.wide.inRound l) 0 P a w K Q := by
  unfold Oper.wpIn at *
  refine ⟨fun _ _ => trivial, ?_⟩
  have h := h.2
  rw [Oper.semAt_eq _ _ _ hnd] at h ⊢
  generalize (execOp a.eval o).run P w = r at *
  cases r with
  | ok n w' => cases n <;> exact h
  | halt x w' => cases x <;> exact h
theorem nd_at (h : ndB ops = true) {i : Nat} {o : Oper} (ho : ops[i]? = some o) : ∀ c, o.op ≠ .defer c := fun c e => by
  have := List.all_eq_true.1 h o (by have := Array.mem_of_getElem? ho; simpa using this)
  rw [e] at this; cases this
theorem wpOpIn_round (h : ndB ops = true) {i : Nat} {K : Act → World → Prop} {a : Act} {w : World} (hh : wpOpIn Fence.wide 0 P ops Q i K a w) : wpOpIn (Fence.wide.inRound l) 0 P ops Q i K a w := by
  unfold wpOpIn at *
  cases ho : ops[i]? with
  | none => rw [ho] at hh; exact hh
  | some o =>
    rw [ho] at hh
    simp only at hh ⊢
    split
    · rename_i hw; rw [if_pos hw] at hh; exact wpIn_round (nd_at h ho) hh
    · rename_i hw; rw [if_neg hw] at hh; exact hh
theorem wpAnyIn_round (h : ndB ops = true) : ∀ (fuel : Nat) (Lm : Array Bool) (a : Act) (w : World), wpAnyIn Fence.wide 0 P md ops Q fuel Lm a w → wpAnyIn (Fence.wide.inRound l) 0 P md ops Q fuel Lm a w
  | 0, _, _, _, hh => hh
  | fuel + 1, Lm, a, w, hh => ⟨hh.1, fun i hi => wpOpIn_round h (wpOpIn_mono (fun a' w' h' => wpAnyIn_round h fuel _ a' w' h') (hh.2 i hi))⟩
theorem wpOpsIn_round (h : ndB ops = true) : ∀ (is : List Nat) (a : Act) (w : World), wpOpsIn Fence.wide 0 P ops Q is a w → wpOpsIn (Fence.wide.inRound l) 0 P ops Q is a w
  | [], _, _, hh => hh
  | i :: is, a, w, hh => by
    rw [wpOpsIn_cons] at hh ⊢
    exact wpOpIn_round h (wpOpIn_mono (fun a' w' h' => wpOpsIn_round h is a' w' h') hh)
end
/-! ### code in a round's frame -/
def AWR (P : Program) (l : Nat) (cd : Code) (Q : Exit → S → Prop) (s : S) : Prop :=
  ∀ c a w, Sat c s a w → cd.wpIn (Fence.wide.inRound l) 0 P (fun e a' w' => ∃ s' c', Q e s' ∧ Sat c' s' a' w' ∧ Ext c s.own w c' s'.own w') a w
section
variable {P : Program} {l : Nat} {Q Q' : Exit → S → Prop} {s : S}
theorem AWR.skip (h : Q .normal s) : AWR P l .skip Q s := fun c a w g => wpIn_skip ⟨s, c, h, g, .refl _ _ _⟩
theorem AWR.exit {id : Nat} (h : Q (.exit id) s) : AWR P l (.exit id) Q s := fun c a w g => wpIn_exit ⟨s, c, h, g, .refl _ _ _⟩
theorem AWR.ret (h : Q .ret s) : AWR P l .ret Q s := fun c a w g => wpIn_ret ⟨s, c, h, g, .refl _ _ _⟩
theorem AWR.seq {x y : Code} (h : AWR P l x (Eth (AWR P l y Q) Q) s) : AWR P l (.seq x y) Q s := by
  intro c a w g
  refine wpIn_seq (wpIn_mono (h c a w g) ?_)
  rintro e a1 w1 ⟨s1, c1, q, g1, x1⟩
  cases e with
  | normal => exact wpIn_mono (q c1 a1 w1 g1) fun e a2 w2 ⟨s2, c2, q2, g2, x2⟩ => ⟨s2, c2, q2, g2, x1.trans x2⟩
  | _ => exact ⟨s1, c1, q, g1, x1⟩
theorem AWR.mono {cd : Code} (h : AWR P l cd Q s) (hq : ∀ e s', Q e s' → Q' e s') : AWR P l cd Q' s :=
  fun c a w g => wpIn_mono (h c a w g) fun _ _ _ ⟨s', c', q, r⟩ => ⟨s', c', hq _ _ q, r⟩
theorem AWR.cond {y : Operand} {t e : Code} (b : Bool) (hy : s.eval y = tv (.bool b)) (ht : b = true → AWR P l t Q s) (he : b = false → AWR P l e Q s) : AWR P l (.cond y t e) Q s := by
  intro c a w g
  have hv := g.eval y
  rw [hy] at hv
  have hv : a.eval y = .bool b := rep_tv hv
  refine wpIn_cond hv ?_
  cases b
  · exact he rfl c a w g
  · exact ht rfl c a w g
theorem AWR.condD {y : Operand} {t e : Code} {p : Prop} [Decidable p] (hy : s.eval y = tv (.bool (decide p))) (ht : p → AWR P l t Q s) (he : ¬ p → AWR P l e Q s) : AWR P l (.cond y t e) Q s :=
  AWR.cond _ hy (fun h => ht (of_decide_eq_true h)) (fun h => he (of_decide_eq_false h))
theorem AWR.condT {y : Operand} {t e : Code} (hy : s.eval y = bX true) (ht : AWR P l t Q s) : AWR P l (.cond y t e) Q s := AWR.cond true hy (fun _ => ht) (fun h => by cases h)
theorem AWR.condF {y : Operand} {t e : Code} (hy : s.eval y = bX false) (he : AWR P l e Q s) : AWR P l (.cond y t e) Q s := AWR.cond false hy (fun h => by cases h) (fun _ => he)
theorem AWR.block {id : Nat} {cd : Code} (h : AWR P l cd (EBlock id Q) s) : AWR P l (.block id cd) Q s := by
  intro c a w g
  refine wpIn_block (wpIn_mono (h c a w g) ?_)
  rintro e a1 w1 ⟨s1, c1, q, g1, x1⟩
  cases e with
  | exit id' =>
    simp only [Exit.inBlock, EBlock] at q ⊢
    split
    · rename_i he; rw [if_pos he] at q; exact ⟨s1, c1, q, g1, x1⟩
    · rename_i he; rw [if_neg he] at q; exact ⟨s1, c1, q, g1, x1⟩
  | _ => exact ⟨s1, c1, q, g1, x1⟩
theorem AWR.wk {cd : Code} {s' : S} (hw : Wk s s') (h : AWR P l cd Q s') : AWR P l cd Q s := fun c a w g => by
  obtain ⟨c', g', x'⟩ := hw c a w g
  exact wpIn_mono (h c' a w g') fun e a1 w1 ⟨s1, c1, q, g1, x1⟩ => ⟨s1, c1, q, g1, x'.trans x1⟩
theorem AWR.gh {cd : Code} {F : S → Prop} (hg : Gh s F) (h : ∀ s', F s' → AWR P l cd Q s') : AWR P l cd Q s := fun c a w g => by
  obtain ⟨s', c', hf, g', x'⟩ := hg c a w g
  exact wpIn_mono (h s' hf c' a w g') fun e a1 w1 ⟨s1, c1, q, g1, x1⟩ => ⟨s1, c1, q, g1, x'.trans x1⟩
theorem AWR.reg {id : Nat} {ops : List Oper} (nd : ndB ops.toArray = true) (h : SeqK P ops.toArray (Q .normal) ops s) : AWR P l (.region id ops.toArray false) Q s := fun c a w g => wpIn_region (wpOpsIn_round nd _ _ _ (seq_start h g))
theorem AWR.draw {id : Nat} {ops : List Oper} (nd : ndB ops.toArray = true) (hm : P.follows .mixedOrders = true) (h : LexK P ops.toArray (Q .normal) ops s 0 []) : AWR P l (.region id ops.toArray true) Q s := fun c a w g => wpIn_region_any hm (wpAnyIn_round nd _ _ _ _ (lex_start h g))
theorem AWR.drawO {id : Nat} {ops : List Oper} (pi : List Nat) (nd : ndB ops.toArray = true) (hm : P.follows .mixedOrders = true) (hp : permB ops.length pi = true) (h : LexO P ops.toArray (Q .normal) pi s []) : AWR P l (.region id ops.toArray true) Q s := fun c a w g => wpIn_region_any hm (wpAnyIn_round nd _ _ _ _ (lexO_start pi hp h g))
end
end Go.Proofs.YtnmfjojhgfipcaaGreatDoor.E
/- Loops over functions: the call that makes a round, what an iterator promises, the loop. Plain theorems, for any program. -/
namespace Go.Proofs.YtnmfjojhgfipcaaGreatDoor.E
open Go.RowKit
set_option linter.unusedVariables false
/-! ### a call of yield -/
section
variable {P : Program} {all : Array Oper} {o : Oper} {K : S → Prop} {rest : List Oper} {n d : Nat} {t : Nat → X} {L : Nat → Option AO} {H : Heap}
end
/-! ### a round -/
section
variable {P : Program}
end
end Go.Proofs.YtnmfjojhgfipcaaGreatDoor.E
/- Loops over functions: what an iterator promises, the loop. Plain theorems, for any program. -/
namespace Go.Proofs.YtnmfjojhgfipcaaGreatDoor.E
open Go.RowKit
set_option linter.unusedVariables false
section
variable {P : Program} {Q : Exit → S → Prop} {n : Nat} {t : Nat → X} {L : Nat → Option AO} {H : Heap}
end
end Go.Proofs.YtnmfjojhgfipcaaGreatDoor.E
/- Function values are made; the loop in a round's frame. Plain theorems, for any program. -/
namespace Go.Proofs.YtnmfjojhgfipcaaGreatDoor.E
open Go.RowKit
set_option linter.unusedVariables false
set_option linter.unusedSimpArgs false
def capsA : List C → Option (List A)
  | [] => some []
  | .a x :: r => (capsA r).map (x :: ·)
  | .g _ :: _ => none
theorem capsA_eq : ∀ {l : List C} {cs : List A}, capsA l = some cs → l = cs.map C.a
  | [], cs, h => by cases h; rfl
  | .a x :: r, cs, h => by
    simp only [capsA, Option.map_eq_some_iff] at h
    obtain ⟨cs', h, rfl⟩ := h
    rw [capsA_eq h]; rfl
  | .g _ :: _, cs, h => by cases h
section
variable {P : Program} {o : Oper} {s : S}
theorem q_mkFn {f : FuncId} {ys : Array Operand} {l : List C} {cs : List A} (ho : o.op = .makeFunc (.func f) #[] ys) (hl : argsX s ys.toList = some l) (hc : capsA l = some cs) : QV P o s (.c (.a (.fn f cs))) :=
  .of_same (fun _ => nolp) fun c w a hm hrep => by
    have hr : Reps (RepC c.μ c.β) l (ys.map a.eval).toList := by
      have := args_rep (c := c) (f := a.eval) hl fun y hy => hrep y (by rw [ho]; simp [Op.operands]; simpa using hy)
      simpa using this
    have hc := capsA_eq hc
    subst hc
    refine ⟨.func (.func f) #[] (ys.map a.eval), by simp [execOp, ho, Instr.makeFunc], ?_⟩
    have hlen : (ys.map a.eval).toList.length = cs.length := by have := hr.1; simpa using this.symm
    refine RepA.fn (fun i => (ys.map a.eval).toList.getD i undef) ?_ fun i x hx => ?_
    · refine List.ext_getElem? fun i => ?_
      rw [List.getElem?_map, ← hlen]
      by_cases h : i < (ys.map a.eval).toList.length
      · rw [List.getElem?_range h, List.getElem?_eq_getElem h]; simp only [Option.map_some, List.getD_eq_getElem?_getD, List.getElem?_eq_getElem h, Option.getD_some]
      · rw [List.getElem?_eq_none (by omega), List.getElem?_eq_none (by simp at h ⊢; omega)]; rfl
    · have hi : i < (ys.map a.eval).toList.length := by rw [hlen]; exact (List.getElem?_eq_some_iff.1 hx).1
      have h1 : (cs.map C.a)[i]? = some (.a x) := by rw [List.getElem?_map, hx]; rfl
      have := hr.2 i (.a x) _ h1 (List.getElem?_eq_getElem hi)
      show RepA c.μ c.β x _
      rw [List.getD_eq_getElem?_getD, List.getElem?_eq_getElem hi]
      exact this
end
end Go.Proofs.YtnmfjojhgfipcaaGreatDoor.E
