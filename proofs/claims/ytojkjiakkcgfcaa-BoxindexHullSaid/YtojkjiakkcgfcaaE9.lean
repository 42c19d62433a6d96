/- Slices made, cut and appended to; strings; calls. Plain theorems, for any program. -/
import Derived.Test.YtojkjiakkcgfcaaE8
import Derived.Laws.MakeOwn
namespace Go.Proofs.Ytojkjiakkcgfcaa.E
open Go.RowKit
set_option linter.unusedVariables false

/-- an element's type: its cells, its bytes, its zero -/
def elB (P : Program) (t e : TypeId) (sz bytes : Nat) : Bool :=
  match P.underlying t, P.info? e with
  | some (.slice e'), some i => (e' == e) && (i.size == sz) && (sz != 0) && (i.bytes == bytes) && (match i.zero with | some z => z.cells.size == sz | none => false)
  | _, _ => false
theorem elB_get {P : Program} {t e : TypeId} {sz bytes : Nat} (h : elB P t e sz bytes = true) : ∃ i z, P.underlying t = some (.slice e) ∧ P.info? e = some i ∧ i.size = sz ∧ sz ≠ 0 ∧ i.bytes = bytes ∧ i.zero = some z ∧ z.cells.size = sz := by
  unfold elB at h
  split at h
  · rename_i e' i h1 h2
    simp only [Bool.and_eq_true, beq_iff_eq, bne_iff_ne, ne_eq] at h
    obtain ⟨⟨⟨⟨rfl, h3⟩, h4⟩, h5⟩, h6⟩ := h
    split at h6
    · rename_i z hz; exact ⟨i, z, h1, h2, h3, h4, h5, hz, by simpa using h6⟩
    · cases h6
  · cases h

section
variable {P : Program} {all : Array Oper} {o : Oper} {s s' : S} {K : S → Prop}
theorem q_buildSlice {t e : TypeId} {n sz bytes : Nat} {parts : Array (Nat × Operand)} (es : List (List T)) (ho : o.op = .buildSlice t n parts) (ty : elB P t e sz bytes = true) (hn : parts.size = n) (hsm : n * sz ≤ 16777216) (he : elemsX s sz 0 parts.toList = some es) : QV P o s (.c (.a (.t (.sl .nn sz es)))) :=
  .of_run (fun _ => nolp) fun c w a hm hrep => by
    obtain ⟨i, z, h1, h2, h3, h4, h5, h6, h7⟩ := elB_get ty
    have h7' : (parts.map fun (i, x) => (i, a.eval x)).toList = parts.toList.map fun p => (p.1, a.eval p.2) := by simp
    by_cases h0 : n = 0
    · subst h0
      have hp : parts = #[] := by simpa using hn
      subst hp
      simp only [elemsX, Option.some.injEq] at he
      subst he
      refine ⟨.slice (some ⟨w.heap.size, 0, none⟩) 0 0, w.alloc (.cells #[] e), c, ?_, .t (.emp (by simp)), .alloc hm _⟩
      have e0 : Array.map (fun x : Nat => (default : Value)) (Array.range 0) = #[] := by simp
      simp [execOp, ho, Instr.buildSlice, run_underlying h1, sizeOf, typeInfo, h2, newRow, Instr.fill, e0]
    · have hpos : 0 < n * sz := Nat.mul_pos (by omega) (by omega)
      have hlen : parts.toList.length = n := by simpa using hn
      obtain ⟨us, g1, g2, _, g4, g5, g6⟩ := elems_fill (s := s) (c := c) (f := a.eval) (sz := sz) (ps := parts.toList) (k := 0) (cs := (Array.range (n * sz)).map (z.cells[· % z.cells.size]!)) he (fun p hp => hrep p.2 (by rw [ho]; simp [Op.operands]; exact ⟨p.1, by simpa using hp⟩)) (by simp [hn])
      have hrun := run_buildSlice (P := P) w t e n (parts.map fun (i, x) => (i, a.eval x)) us i z h1 h2 h6 (by rw [h3]; omega) (by rw [h3]; omega) (by rw [h3, h7']; exact g1)
      have hus : us.toList.length = n * sz := by simp [g2]
      have hes : es ≠ [] := fun e => by subst e; simp at g6; omega
      refine ⟨.slice (some ⟨w.heap.size, 0, none⟩) n n, w.alloc (.cells us e), { c with μ := c.μ.add w.heap.size us.toList }, by simp only [execOp, ho, Sem.run_bind, hrun]; rfl, ?_, Mk.block (w1 := w.alloc (.cells us e)) hm rfl rfl rfl (by simp) (fun b hb => Below.heap_alloc w (.cells us e) b hb) (Nat.le_refl _) fun o u hu => ?_⟩
      · simp only [Nat.zero_mul, List.drop_zero] at g4
        have hm' : ∀ b o u, c.μ b o = some u → c.μ.add w.heap.size us.toList b o = some u := (Mk.block (w1 := w.alloc (.cells us e)) hm rfl rfl rfl (by simp) (fun b hb => Below.heap_alloc w (.cells us e) b hb) (Nat.le_refl _) (fun o u hu => by rw [World.cell?_alloc_new]; simpa using hu)).mem
        have := flat_sl (z := .nn) (c := n) (b := w.heap.size) (off := 0) hes (by omega) g5 (g4.monoT hm') (fun j u hu => by rw [Nat.zero_add]; exact Mem.add_in hu)
        rw [g6, hlen] at this
        exact .t this
      · rw [World.cell?_alloc_new]; simpa using hu
/-! ### a slice cut -/
theorem sl_cut {μ : Mem} {z : Nz} {sz : Nat} {es : List (List T)} {v : Value} (h0 : 0 < sz) (h : RepT μ (.sl z sz es) v) (l m : Nat) (hlm : l ≤ m) (hm : m ≤ es.length) : ∃ a n c, v = .slice a n c ∧ n = es.length ∧ n ≤ c ∧ RepT μ (.sl .un sz ((es.take m).drop l)) (sliced a l m c sz) := by
  by_cases hne : es = []
  · subst hne
    have hl : l = 0 := by simp at hm; omega
    have hm0 : m = 0 := by simp at hm; omega
    subst hl hm0
    cases h with
    | nil => exact ⟨none, 0, 0, rfl, rfl, Nat.le_refl _, .nil (by simp)⟩
    | @emp _ _ c a => 
      refine ⟨some a, 0, c, rfl, rfl, Nat.zero_le _, ?_⟩
      have : sliced (some a) 0 0 c sz = .slice (some a) 0 c := by simp [sliced, Addr.add]
      rw [this]; exact .emp (by simp)
    | sl u ne => exact absurd rfl ne
  · obtain ⟨b, off, c, cs, rfl, hc, hl, hr, hmem⟩ := sl_flat h hne h0
    refine ⟨_, _, c, rfl, rfl, hc, ?_⟩
    by_cases hcut : (es.take m).drop l = []
    · have hml : m - l = 0 := by
        have := congrArg List.length hcut
        simp at this; omega
      rw [hcut]
      unfold sliced
      rw [hml]
      split
      · exact .emp (by simp)
      · exact .emp (by simp)
    · have hne' : l < m := by
        rcases Nat.lt_or_ge l m with h' | h'
        · exact h'
        · exact absurd (List.drop_eq_nil_of_le (by simp; omega)) hcut
      have e1 : sliced (some ⟨b, off, none⟩) l m c sz = .slice (some ⟨b, off + l * sz, none⟩) (m - l) (c - l) := by
        unfold sliced
        rw [if_neg (by omega)]
        simp [add_mid]
      have e2 : ((es.take m).drop l).length = m - l := by simp; omega
      rw [e1, ← e2]
      have hl' : ∀ e ∈ (es.take m).drop l, e.length = sz := fun e he => hl e (List.mem_of_mem_take (List.mem_of_mem_drop he))
      have e3 : es.flatten = (es.take l).flatten ++ ((es.take m).drop l).flatten ++ (es.drop m).flatten := by
        rw [← List.flatten_append, ← List.flatten_append]
        congr 1
        have : es.take l = (es.take m).take l := by rw [List.take_take, Nat.min_eq_left hlm]
        rw [this, List.take_append_drop, List.take_append_drop]
      have e4 : ((es.take l).flatten).length = l * sz := by rw [flat_length _ fun e he => hl e (List.mem_of_mem_take he), List.length_take, Nat.min_eq_left (by omega)]
      have e5 : (((es.take m).drop l).flatten).length = (m - l) * sz := by rw [flat_length _ hl', e2]
      have hr2 := (hr.drop (l * sz)).take ((m - l) * sz)
      have e6 : (es.flatten.drop (l * sz)).take ((m - l) * sz) = ((es.take m).drop l).flatten := by
        rw [e3, List.append_assoc, List.drop_left' e4, List.take_left' e5]
      rw [e6] at hr2
      refine flat_sl hcut (by omega) hl' hr2 fun j u hu => ?_
      rw [List.getElem?_take] at hu
      split at hu
      · rw [List.getElem?_drop] at hu
        rw [Nat.add_assoc]; exact hmem _ _ hu
      · cases hu
theorem cut_run {t : TypeId} {e : TypeId} (ht : P.underlying t = some (.slice e)) (w : World) (x : Value) (lo hi mx : Option Value) : (Instr.sliceAt t x lo hi mx).run P w = (Instr.slice t x lo hi mx).run P w := by
  simp [Instr.sliceAt, run_underlying ht]
theorem elem_of {t e : TypeId} (ht : P.underlying t = some (.slice e)) : P.underlying t = some (.slice (P.elem t)) := by
  have : P.elem t = e := by simp [Program.elem, ht]
  rw [this]; exact ht
theorem elem_eq {t e : TypeId} (ht : P.underlying t = some (.slice e)) : P.elem t = e := by simp [Program.elem, ht]
/-- s[l:], s[:h], s[l:h] -/
theorem q_cut {t e : TypeId} {x : Operand} {lo hi : Option Operand} {z : Nz} {sz : Nat} {es : List (List T)} (l m : Nat) (r : List (List T)) (ho : o.op = .slice t x lo hi none) (ty : slB P t e sz = true) (hx : s.eval x = .c (.a (.t (.sl z sz es))))
    (hlo : match lo with | none => l = 0 | some y => ∃ k, s.eval y = iX k (l : Int)) (hhi : match hi with | none => m = es.length | some y => ∃ k, s.eval y = iX k (m : Int)) (hlm : l ≤ m) (hm : m ≤ es.length) (hr : (es.take m).drop l = r) : QV P o s (.c (.a (.t (.sl .un sz r)))) :=
  .of_same (fun _ => nolp) fun c w a hmo hrep => by
    obtain ⟨i, h1, h2, h3, h4⟩ := slB_get ty
    have ha := hrep x (by rw [ho]; simp [Op.operands])
    rw [hx] at ha
    generalize hv : a.eval x = v at ha
    cases ha with
    | t ha =>
      obtain ⟨ad, n, cp, rfl, rfl, hc, hr'⟩ := sl_cut (by omega) ha l m hlm hm
      have hsz : (sizeOf (P.elem t)).run P w = .ok sz w := by simp [sizeOf, typeInfo, elem_eq h1, h2, h3]
      refine ⟨_, ?_, by rw [← hr]; exact .t hr'⟩
      cases lo with
      | none =>
        simp only at hlo
        subst hlo
        cases hi with
        | none =>
          simp only at hhi
          subst hhi
          simp [execOp, ho, hv, cut_run h1, run_slice_all w t ad _ cp (elem_of h1), hsz]
        | some y =>
          obtain ⟨k, hy⟩ := hhi
          have hb := hrep y (by rw [ho]; simp [Op.operands])
          rw [hy] at hb
          have hb := rep_tv hb
          simp [execOp, ho, hv, hb, cut_run h1, run_slice_h w t ad es.length cp (elem_of h1) k m (by omega) (by omega), hsz]
      | some y =>
        obtain ⟨k, hy⟩ := hlo
        have hb := hrep y (by rw [ho]; simp [Op.operands])
        rw [hy] at hb
        have hb := rep_tv hb
        cases hi with
        | none =>
          simp only at hhi
          subst hhi
          simp [execOp, ho, hv, hb, cut_run h1, run_slice_l w t ad es.length cp (elem_of h1) k l (by omega) (by omega), hsz]
        | some y' =>
          obtain ⟨k', hy'⟩ := hhi
          have hb' := hrep y' (by rw [ho]; simp [Op.operands])
          rw [hy'] at hb'
          have hb' := rep_tv hb'
          simp [execOp, ho, hv, hb, hb', cut_run h1, run_slice_lh w t ad es.length cp (elem_of h1) k k' l m (by omega) (by omega) (by omega), hsz]
/-- a string cut -/
theorem q_cutS {t : TypeId} {x : Operand} {lo hi : Option Operand} {st : ByteArray} (l m : Nat) (r : ByteArray) (ho : o.op = .slice t x lo hi none) (ty : P.underlying t = some .string) (hx : s.eval x = sX st)
    (hlo : match lo with | none => l = 0 | some y => ∃ k, s.eval y = iX k (l : Int)) (hhi : match hi with | none => m = st.size | some y => ∃ k, s.eval y = iX k (m : Int)) (hlm : l ≤ m) (hm : m ≤ st.size) (hr : st.extract l m = r) : QV P o s (sX r) :=
  .of_same (fun _ => nolp) fun c w a hmo hrep => by
    have ha := hrep x (by rw [ho]; simp [Op.operands])
    rw [hx] at ha
    have ha := rep_tv ha
    refine ⟨.string r, ?_, tv_rep rfl⟩
    subst hr
    cases lo with
    | none =>
      simp only at hlo
      subst hlo
      cases hi with
      | none =>
        simp only at hhi
        subst hhi
        simp [execOp, ho, ha, Instr.sliceAt, Instr.slice, run_underlying ty, Instr.sliceBounds]
      | some y =>
        obtain ⟨k, hy⟩ := hhi
        have hb := hrep y (by rw [ho]; simp [Op.operands])
        rw [hy] at hb
        have hb := rep_tv hb
        simp [execOp, ho, ha, hb, Instr.sliceAt, Instr.slice, run_underlying ty, Instr.sliceBounds, run_sliceBound w k (m : Int) st.size _ (by omega) (by omega)]
    | some y =>
      obtain ⟨k, hy⟩ := hlo
      have hb := hrep y (by rw [ho]; simp [Op.operands])
      rw [hy] at hb
      have hb := rep_tv hb
      cases hi with
      | none =>
        simp only at hhi
        subst hhi
        simp [execOp, ho, ha, hb, Instr.sliceAt, Instr.slice, run_underlying ty, Instr.sliceBounds, run_sliceBound w k (l : Int) st.size _ (by omega) (by omega)]
      | some y' =>
        obtain ⟨k', hy'⟩ := hhi
        have hb' := hrep y' (by rw [ho]; simp [Op.operands])
        rw [hy'] at hb'
        have hb' := rep_tv hb'
        simp [execOp, ho, ha, hb, hb', Instr.sliceAt, Instr.slice, run_underlying ty, Instr.sliceBounds, run_sliceBound w k' (m : Int) st.size _ (by omega) (by omega), run_sliceBound w k (l : Int) m _ (by omega) (by omega)]
/-! ### strings -/
section
variable {t u : TypeId} {x y : Operand} {p q : ByteArray}
theorem q_addS (ho : o.op = .binOp .add t x y u) (hx : s.eval x = sX p) (hy : s.eval y = sX q) (hl : p.size + q.size ≤ 9223372036854775807) : QV P o s (sX (p ++ q)) :=
  q_bin ho hx hy rfl fun w => by rw [Sem.run_bind, eqgS]; simp [binOp, Op.stringOp, IntKind.max, IntKind.signed, IntKind.bits]; omega
theorem q_neqS (ho : o.op = .binOp .neq t x y u) (hx : s.eval x = sX p) (hy : s.eval y = sX q) : QV P o s (bX (decide (p ≠ q))) :=
  q_bin ho hx hy rfl fun w => by rw [Sem.run_bind, eqgS]; simp [binOp, Op.stringOp, ByteArray.toList_eq, str_eq]
abbrev strLt (p q : ByteArray) : Bool := Op.bytesLess p.data.toList q.data.toList
theorem q_lssS (ho : o.op = .binOp .lss t x y u) (hx : s.eval x = sX p) (hy : s.eval y = sX q) : QV P o s (bX (strLt p q)) :=
  q_bin ho hx hy rfl fun w => by rw [Sem.run_bind, eqgS]; simp [binOp, Op.stringOp, ByteArray.toList_eq, strLt]
theorem q_leqS (ho : o.op = .binOp .leq t x y u) (hx : s.eval x = sX p) (hy : s.eval y = sX q) : QV P o s (bX (strLt p q || decide (p = q))) :=
  q_bin ho hx hy rfl fun w => by rw [Sem.run_bind, eqgS]; simp [binOp, Op.stringOp, ByteArray.toList_eq, strLt, str_eq]
theorem q_gtrS (ho : o.op = .binOp .gtr t x y u) (hx : s.eval x = sX p) (hy : s.eval y = sX q) : QV P o s (bX (!(strLt p q || decide (p = q)))) :=
  q_bin ho hx hy rfl fun w => by rw [Sem.run_bind, eqgS]; simp [binOp, Op.stringOp, ByteArray.toList_eq, strLt, str_eq]
theorem q_geqS (ho : o.op = .binOp .geq t x y u) (hx : s.eval x = sX p) (hy : s.eval y = sX q) : QV P o s (bX (!strLt p q)) :=
  q_bin ho hx hy rfl fun w => by rw [Sem.run_bind, eqgS]; simp [binOp, Op.stringOp, ByteArray.toList_eq, strLt]
theorem q_conv {k : IntKind} {a : Int} {k' : IntKind} (r : Int) (ho : o.op = .convert t u x) (ty : P.underlying u = some (.int k')) (hx : s.eval x = iX k a) (hr : k'.wrap a = r) (tt : ∃ d, P.underlying t = some d) : QV P o s (iX k' r) :=
  .of_same (fun _ => nolp) fun c w f hm hrep => by
    have ha := hrep x (by rw [ho]; simp [Op.operands])
    rw [hx] at ha
    have ha := rep_tv ha
    obtain ⟨d, hd⟩ := tt
    refine ⟨.int k' r, ?_, tv_rep rfl⟩
    simp [execOp, ho, ha, convert, run_underlying hd, run_underlying ty, Conv.intToInt, hr]
end
/-! ### calls -/
def argsX (s : S) : List Operand → Option (List C)
  | [] => some []
  | y :: r => match s.eval y, argsX s r with
    | .c x, some l => some (x :: l)
    | _, _ => none
theorem args_rep {c : Ctx} {f : Operand → Value} : ∀ {ys : List Operand} {l : List C}, argsX s ys = some l → (∀ y ∈ ys, RepX c (s.eval y) (f y)) → Reps (RepC c.μ c.β) l (ys.map f)
  | [], l, h, _ => by cases h; exact .nil
  | y :: ys, l, h, hr => by
    simp only [argsX] at h
    split at h
    · rename_i x l' h1 h2
      cases h
      have h3 := hr y (by simp)
      rw [h1] at h3
      exact .cons h3 (args_rep h2 fun p hp => hr p (by simp [hp]))
    · cases h
/-- a function that may be entered -/
def fnB (P : Program) (f : FuncId) : Bool := match P.funcs[f]? with | some fn => fn.body.isSome && fn.name != "runtime.NumGoroutine" | none => false
theorem enter_run {f : FuncId} (h : fnB P f = true) (args : Array Value) (w : World) : (callFunc f args).run P w = .ok (.enter f args) w := by
  unfold fnB at h
  split at h
  · rename_i fn hf
    simp only [Bool.and_eq_true, bne_iff_ne, ne_eq] at h
    have h1 : ¬ (fn.body.isNone = true) := by cases hb : fn.body <;> simp_all
    have h2 : ¬ ((fn.name == "runtime.NumGoroutine") = true) := by simpa using h.2
    simp only [callFunc, Sem.run_bind, run_program, Result.andThen_ok, hf, if_neg h1, if_neg h2, Sem.run_pure]
  · cases h
theorem RepX.relam {c : Ctx} {lam : Nat → Nat × Nat} {x : X} {v : Value} (h : RepX c x v) (hx : x.loc = none) : RepX { c with lam := lam } x v := by
  cases x <;> first | exact h | cases hx
def X.pure : X → Bool
  | .c (.a (.t _)) => true
  | .c (.g l) => (untA l).isSome
  | .tup l => l.all fun x => match x with | .a (.t _) => true | .g l => (untA l).isSome | _ => false
  | .any => true
  | _ => false
theorem q_call {f : FuncId} {ys : Array Operand} {ts : Array TypeId} (args : List C) {x : X} (ho : o.op = .call { callee := .value (.func f), args := ys, argTypes := ts }) (hf : fnB P f = true) (ha : argsX s ys.toList = some args) (h : Pure P f args x) (hx : x.loc = none) : QV P o s x := by
  refine ⟨fun d e => (by rw [hx] at e; cases e), fun c w a hm hrep => ?_⟩
  have hr : Reps (RepC c.μ c.β) args (ys.map a.eval).toList := by
    have := args_rep (c := c) (f := a.eval) ha fun y hy => hrep y (by rw [ho]; simp [Op.operands, Call.operands]; exact .inr (by simpa using hy))
    simpa using this
  have hc : Conc c (ownH fun _ => none) w := ⟨hm.mem, fun i x hi => (by cases i <;> cases hi), fun i j x y b n m hi => (by cases i <;> cases hi), by obtain ⟨N, hN⟩ := hm.fin; exact ⟨N, fun k hk => ⟨hN k hk, rfl⟩⟩⟩
  have hcall := h (fun _ => none) c w (ys.map a.eval) hc hr
  have hrun : (execOp a.eval o).run P w = .ok (.enter f (ys.map a.eval)) w := by
    simp [execOp, ho, resolve, Act.eval, Deferred.ofValue, invoke, enter_run hf]
  unfold Oper.wp
  rw [hrun, Oper.upon_enter]
  refine hcall.mono ?_
  rintro e w' ⟨v, y, H', c', rfl, ⟨rfl, rfl⟩, hrx, hc', hx'⟩
  refine ⟨v, { c' with lam := c.lam }, rfl, hrx.relam hx, ⟨hx'.os, hx'.tape, hx'.output, hx'.size, fun b hb => hx'.blk b hb fun i z n hi => (by cases i <;> cases hi), hx'.mem, fun b o u h => ?_, hx'.ext, rfl, hx'.base, ⟨hc'.mem, ?_⟩⟩⟩
  · rcases hx'.new b o u h with h1 | h1 | ⟨i, z, n, hi, _⟩
    · exact .inl h1
    · exact .inr h1
    · cases i <;> cases hi
  · obtain ⟨N, hN⟩ := hc'.fin
    exact ⟨N, fun k hk => (hN k hk).1⟩
end
end Go.Proofs.Ytojkjiakkcgfcaa.E
