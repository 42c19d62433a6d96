import Derived.Test.YtgnnjebfoffphaaGreatDoorM10
import Derived.Lib.UnsafeStr
import Derived.Lib.Builder
import Derived.Sort.Grow
set_option linter.unusedVariables false
namespace Go.Proofs.YtgnnjebfoffphaaGreatDoor.E
open Go.RowKit
theorem repT_v {μ : Mem} {u v : Value} (h : RepT μ (.v u) v) : v = u := by cases h; rfl
section
variable {P : Program}
abbrev vC (v : Value) : C := .a (.t (.v v))
theorem reps_vals {c : Ctx} : ∀ {us vs : List Value}, Reps (RepC c.μ c.β) (us.map vC) vs → vs = us
  | [], vs, h => by
    have := h.1
    cases vs with
    | nil => rfl
    | cons a r => simp at this
  | u :: us, vs, h => by
    match vs, h with
    | [], h => have := h.1; simp at this
    | v :: vs, h =>
      have h0 : RepX c (.c (vC u)) v := h.2 0 _ _ rfl rfl
      have h1 := rep_tv h0
      subst h1
      rw [reps_vals (us := us) (vs := vs) ⟨by have := h.1; simpa using this, fun i x w hx hw => h.2 (i + 1) x w (by simpa using hx) (by simpa using hw)⟩]
theorem Pure.of_calls {f : FuncId} (us : List Value) {v : Value} {x : X} (h : ∀ w, Calls P f us.toArray w fun e w' => e = .returned v ∧ w' = w) (hx : ∀ c, RepX c x v) : Pure P f (us.map vC) x := by
  intro H c w vs hc hr
  have h1 := reps_vals hr
  have h2 : vs = us.toArray := by rw [← h1]
  rw [h2]
  refine (h w).mono ?_
  rintro e w' ⟨rfl, rfl⟩
  exact ⟨v, x, H, c, rfl, ⟨rfl, rfl⟩, hx c, hc, Ext.refl _ _ _⟩
theorem q_ext {o : Oper} {s : S} {f : FuncId} {ys : Array Operand} {ts : Array TypeId} {fn : Func} {ex : Array Value → Sem Value} {us : List Value} {v : Value} {x : X} (ho : o.op = .call { callee := .value (.func f), args := ys, argTypes := ts }) (hx : argsX s ys.toList = some (us.map vC))
    (hf : P.funcs[f]? = some fn) (hname : (fn.name == "runtime.NumGoroutine") = false) (hb : fn.body.isNone = true) (hn : Extern.findNext fn = none) (he : Extern.find fn = some ex) (hv : ∀ w, (ex us.toArray).run P w = .ok v w) (hr : ∀ c, RepX c x v) (hl : x.loc = none) : QV P o s x :=
  .of_same (fun d e => by rw [hl] at e; cases e) fun c w a hm hrep => by
    have hr' : Reps (RepC c.μ c.β) (us.map vC) (ys.map a.eval).toList := by
      have := args_rep (c := c) (f := a.eval) hx fun y hy => hrep y (by rw [ho]; simp [Op.operands, Call.operands]; exact .inr (by simpa using hy))
      simpa using this
    have h1 := reps_vals hr'
    have h2 : ys.map a.eval = us.toArray := by rw [← h1]
    have hrun := run_callFunc_extern (P := P) hf hname hb hn he us.toArray w
    rw [hv w] at hrun
    simp only [Result.andThen] at hrun
    have e1 : a.eval (.func f) = .func (.func f) #[] #[] := rfl
    exact ⟨v, by simp [execOp, ho, resolve, e1, Deferred.ofValue, invoke, h2, hrun], hr c⟩
theorem run_three (x y : Nat) (w : World) : (Extern.MathBitsCarry.three "Add64" #[.int .u64 (x : Int), .int .u64 (y : Int), .int .u64 0]).run P w = .ok (x, y, 0) w := by
  rfl
def add64F : Array Value → Sem Value := fun args => do
    let (x, y, c) ← Extern.MathBitsCarry.three "Add64" args
    pure (Extern.MathBitsCarry.pair ((x + y + c) % Extern.MathBitsCarry.m64) ((x + y + c) / Extern.MathBitsCarry.m64))
theorem run_add64N (x y : Nat) (w : World) : (add64F [Value.int .u64 (x : Int), .int .u64 (y : Int), .int .u64 0].toArray).run P w = .ok (.tuple #[.int .u64 (((x + y) % 2 ^ 64 : Nat) : Int), .int .u64 (((x + y) / 2 ^ 64 : Nat) : Int)]) w := by
  have h := run_three (P := P) x y w
  unfold add64F
  simp only [Sem.run_bind]
  show ((Extern.MathBitsCarry.three "Add64" #[.int .u64 (x : Int), .int .u64 (y : Int), .int .u64 0]).run P w).andThen _ = _
  rw [h]
  rfl
end
end Go.Proofs.YtgnnjebfoffphaaGreatDoor.E
