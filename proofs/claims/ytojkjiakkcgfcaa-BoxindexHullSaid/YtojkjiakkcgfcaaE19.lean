/- Calls under a guard; min and max. Plain theorems, for any program. -/
import Derived.Test.YtojkjiakkcgfcaaE18
namespace Go.Proofs.Ytojkjiakkcgfcaa.E
open Go.RowKit
set_option linter.unusedVariables false
section
variable {P : Program} {all : Array Oper} {o : Oper} {s : S} {K : S → Prop} {rest : List Oper} {p : Nat} {fp : List Fp} {n d : Nat} {t : Nat → X} {L : Nat → Option AO} {H : Heap}
theorem OpW.callOn {f : FuncId} {ys : Array Operand} {ts : Array TypeId} {args : List C} {Q : X → Heap → Prop} {j i : Nat} {b : Bool} (ho : o.op = .call { callee := .value (.func f), args := ys, argTypes := ts }) (hg : o.guard = some (j, b)) (hj : (all[j]?).bind (·.dst) = some i) (hb : t i = tv (.bool b)) (hdst : o.dst = some d) (hd : Nat.blt d n = true) (hf : fnB P f = true) (ha : argsX ⟨n, t, L, H⟩ ys.toList = some args) (h : Spec P f args H Q) (hl : ∀ x H', Q x H' → x.loc = none)
    (k : ∀ x H', Q x H' → K ⟨n, upd t d x, L, H'⟩) : OpW P all o K ⟨n, t, L, H⟩ := fun c a w g => by
  unfold opRun
  rw [if_pos (by simp [Region.wanted, hg, yield_of g hj hb])]
  refine wp_weak (call_wp g ho hf ha h hl (inb' hdst hd)) ?_
  rintro a' w' ⟨x, H', c', hq, g', x'⟩
  rw [hdst] at g' x'
  exact ⟨_, c', k x H' hq, g', x'⟩
theorem SeqK.callOn {f : FuncId} {ys : Array Operand} {ts : Array TypeId} {args : List C} {Q : X → Heap → Prop} {j i : Nat} {b : Bool} (ho : o.op = .call { callee := .value (.func f), args := ys, argTypes := ts }) (hg : o.guard = some (j, b)) (hj : (all[j]?).bind (·.dst) = some i) (hb : t i = tv (.bool b)) (hdst : o.dst = some d) (hd : Nat.blt d n = true) (hf : fnB P f = true) (ha : argsX ⟨n, t, L, H⟩ ys.toList = some args) (h : Spec P f args H Q) (hl : ∀ x H', Q x H' → x.loc = none)
    (k : ∀ x H', Q x H' → SeqK P all K rest ⟨n, upd t d x, L, H'⟩) : SeqK P all K (o :: rest) ⟨n, t, L, H⟩ := SeqK.any (OpW.callOn ho hg hj hb hdst hd hf ha h hl k)
theorem q_minmax {b : Builtin} {ts : Array TypeId} {x y : Operand} {a c r : Value} (ho : o.op = .call { callee := .builtin b, args := #[x, y], argTypes := ts }) (hx : s.eval x = tv a) (hy : s.eval y = tv c) (h1 : r.oneCell' = true) (h : ∀ cs w, (builtin b ts o.type cs #[a, c]).run P w = .ok (.value r) w) : QV P o s (tv r) :=
  .of_same (fun _ => nolp) fun cc w f hm hr => by
    have ha := hr x (by rw [ho]; simp [Op.operands, Call.operands])
    have hb := hr y (by rw [ho]; simp [Op.operands, Call.operands])
    rw [hx] at ha
    rw [hy] at hb
    have ha := rep_tv ha
    have hb := rep_tv hb
    exact ⟨r, by simp [execOp, ho, ha, hb, resolve, invoke, h], tv_rep h1⟩
section
variable {ts : Array TypeId} {x y : Operand} {k : IntKind} {a b : Int} {u v : ByteArray}
theorem q_min (ho : o.op = .call { callee := .builtin .min, args := #[x, y], argTypes := ts }) (hx : s.eval x = iX k a) (hy : s.eval y = iX k b) : QV P o s (iX k (min a b)) :=
  q_minmax ho hx hy rfl fun cs w => by
    have : min a b = if b < a then b else a := by rw [Int.min_def]; split <;> split <;> omega
    simp [builtin, Builtin.min_, Builtin.min2, this]
theorem q_max (ho : o.op = .call { callee := .builtin .max, args := #[x, y], argTypes := ts }) (hx : s.eval x = iX k a) (hy : s.eval y = iX k b) : QV P o s (iX k (max a b)) :=
  q_minmax ho hx hy rfl fun cs w => by
    have : max a b = if b > a then b else a := by rw [Int.max_def]; split <;> split <;> omega
    simp [builtin, Builtin.max_, Builtin.max2, this]
/-- Go's max and min at strings -/
def maxStr (p q : ByteArray) : ByteArray := if strLt p q then q else p
def minStr (p q : ByteArray) : ByteArray := if strLt p q || decide (p = q) then p else q
theorem q_minS (ho : o.op = .call { callee := .builtin .min, args := #[x, y], argTypes := ts }) (hx : s.eval x = sX u) (hy : s.eval y = sX v) : QV P o s (sX (minStr u v)) :=
  q_minmax ho hx hy rfl fun cs w => by
    simp [builtin, Builtin.min_, Builtin.min2, Op.stringOp, asBool, ByteArray.toList_eq, minStr, strLt, str_eq]
theorem q_maxS (ho : o.op = .call { callee := .builtin .max, args := #[x, y], argTypes := ts }) (hx : s.eval x = sX u) (hy : s.eval y = sX v) : QV P o s (sX (maxStr u v)) :=
  q_minmax ho hx hy rfl fun cs w => by
    cases h : strLt u v <;> simp [builtin, Builtin.max_, Builtin.max2, Op.stringOp, asBool, ByteArray.toList_eq, maxStr] <;> simp_all [strLt]
end
end
end Go.Proofs.Ytojkjiakkcgfcaa.E
