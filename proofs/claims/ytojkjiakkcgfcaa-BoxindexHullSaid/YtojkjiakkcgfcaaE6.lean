/- Memory written and made, operation by operation. Plain theorems, for any program. -/
import Derived.Test.YtojkjiakkcgfcaaE5
import Derived.Great.BuildSlice
namespace Go.Proofs.Ytojkjiakkcgfcaa.E
open Go.RowKit
set_option linter.unusedVariables false

section
variable {P : Program} {all : Array Oper} {o : Oper} {s s' : S}
/-- l, with v from off on -/
def splice {α : Type} (l : List α) (off : Nat) (v : List α) : List α := l.take off ++ v ++ l.drop (off + v.length)
theorem splice_len {α : Type} {l v : List α} {off : Nat} (h : off + v.length ≤ l.length) : (splice l off v).length = l.length := by simp [splice]; omega
theorem splice_get {α : Type} {l v : List α} {off : Nat} (h : off + v.length ≤ l.length) (i : Nat) : (splice l off v)[i]? = if i < off then l[i]? else if i < off + v.length then v[i - off]? else l[i]? := by
  unfold splice
  by_cases h1 : i < off
  · rw [if_pos h1, List.getElem?_append_left (by simp; omega), List.getElem?_append_left (by simp; omega), List.getElem?_take, if_pos h1]
  · rw [if_neg h1]
    by_cases h2 : i < off + v.length
    · rw [if_pos h2, List.getElem?_append_left (by simp; omega), List.getElem?_append_right (by simp; omega)]
      congr 1
      simp; omega
    · rw [if_neg h2, List.getElem?_append_right (by simp; omega), List.getElem?_drop]
      congr 1
      simp; omega
theorem take_splice {α : Type} {l v : List α} {off m : Nat} (h : off + v.length ≤ m) (hm : m ≤ l.length) : (splice l off v).take m = splice (l.take m) off v := by
  apply List.ext_getElem?
  intro i
  rw [List.getElem?_take, splice_get (by omega), splice_get (by simp; omega), List.getElem?_take]
  by_cases hi : i < m
  · simp [hi]
  · rw [if_neg hi, if_neg hi, if_neg (by omega), if_neg (by omega)]
theorem Reps.splice {α : Type} {R : α → Value → Prop} {l v : List α} {cs vs : List Value} {off : Nat} (h : Reps R l cs) (hv : Reps R v vs) : Reps R (splice l off v) (splice cs off vs) := by
  unfold E.splice
  rw [← hv.1]
  exact ((h.take off).append hv).append (h.drop _)

/-! ### stores -/
theorem store_run {t : TypeId} {agg : Bool} {n : Nat} (ty : tyB P t agg n = true) {w : World} {b off : Nat} {us : Array Value} {e : TypeId} (hb : w.heap[b]? = some (.cells us e (0, 0))) {v : Value} (hv : v.cells.size = n) (h1 : ∀ u ∈ v.cells.toList, u.oneCell' = true) (hn : off + n ≤ us.size) :
    (Instr.storeAt t (.pointer (some ⟨b, off, none⟩)) v).run P w = .ok () (w.setRow b (splice us.toList off v.cells.toList).toArray) := by
  obtain ⟨d, i, _, h3, _, h5, _⟩ := tyB_get ty
  have h6 := run_storeCells_at P b off e v.cells.toList 0 us w hb (by simp; omega) h1
  have h7 : ¬ v.cells.size ≠ i.size := by rw [hv, h5]; simp
  simp only [Instr.storeAt, Instr.sureAddr, storeVar, sizeOf, typeInfo, Sem.run_bind, Sem.run_pure, Result.andThen_ok, run_program, h3, if_neg h7, h6]
  simp [splice]
theorem cells_one {μ : Mem} {β : Pos} {x : C} {v : Value} (h : RepC μ β x v) : ∀ u ∈ v.cells.toList, u.oneCell' = true := h.cells.one fun _ _ => RepA.one
theorem ORep.storeBox {c : Ctx} {w : World} {b n off : Nat} {cells new : List A} {us : Array Value} {ty : TypeId} {vs : List Value} (h1 : w.heap[b]? = some (.cells us ty (0, 0))) (h2 : Reps (RepA c.μ c.β) cells us.toList) (h3 : ∀ o, c.μ b o = none) (hv : Reps (RepA c.μ c.β) new vs) :
    ORep c (w.setRow b (splice us.toList off vs).toArray) (.box (splice cells off new)) b n :=
  ⟨_, ty, setRow_heap w b us _ ty (0, 0) h1, by simpa using h2.splice (off := off) hv, h3⟩
/-- over two places -/
theorem over_two {s1 s : S} {d e : Option Nat} {W : List Loc} {x : X} : True := trivial
theorem over_L {s1 s : S} {d : Nat} {x : AO} : s1.over [.b d] (s.setOwn (.l d) x) = s1.setOwn (.l d) x := by
  refine S.ext' rfl fun ℓ => ?_
  cases ℓ with
  | b i =>
    by_cases h : i = d
    · subst h; simp [Same, S.over, S.setOwn, upd_same]
    · simp [Same, S.over, S.setOwn, upd_ne _ _ h, h]
  | _ => simp [Same, S.over, S.setOwn]
theorem over_H {s1 s : S} {k : Nat} {x : AO} (h : s1.H = s.H) : s1.over [.h] (s.setOwn (.e k) x) = s1.setOwn (.e k) x := by
  refine S.ext' rfl fun ℓ => ?_
  cases ℓ <;> simp [Same, S.over, S.setOwn, h]
theorem l_store {t : TypeId} {y z : Operand} {agg : Bool} {n d off : Nat} {cells : List A} {x : C} (r : List A) (ho : o.op = .store t y z) (hdst : o.dst = none) (ty : tyB P t agg n = true) (hy : s.eval y = .lp d off) (hz : s.eval z = .c x) (hL : s.L d = some (.box cells)) (hr : splice cells off x.cells = r) (hx : x.cells.length = n) (hnb : Nat.ble (off + n) cells.length = true) :
    LR P o (.b d :: lk o) [.b d] s (s.setOwn (.l d) (.box r)) := by
  have hn := Nat.le_of_ble_eq_true hnb
  refine ⟨(setOwn_t s (.l d) (.box r)).2, fun ℓ hℓ => ?_, fun s1 hl hs c a w g => ?_⟩
  · cases ℓ with
    | b i =>
      have hi : i ≠ d := fun e => hℓ (by simp [e])
      simp [Same, S.setOwn, upd_ne _ _ hi]
    | _ => simp [Same, S.setOwn]
  rw [over_L]
  have hb : s1.own (.l d) = some (.box cells) := Eq.trans (hs (.b d) (by simp)) hL
  have ev : ∀ u, u ∈ o.op.operands → s1.eval u = s.eval u := fun u hu => by
    cases u with
    | tmp t => exact hs (.t t) (List.mem_cons_of_mem _ (List.mem_map.2 ⟨t, List.mem_append_left _ (List.mem_filterMap.2 ⟨.tmp t, by simpa using hu, rfl⟩), rfl⟩))
    | _ => rfl
  have hy1 := g.eval y
  rw [ev y (by rw [ho]; simp [Op.operands]), hy] at hy1
  have hz1 := g.eval z
  rw [ev z (by rw [ho]; simp [Op.operands]), hz] at hz1
  have hy1 : a.eval y = .pointer (some ⟨(c.lam d).1, off, none⟩) := hy1
  have hz1 : RepC c.μ c.β x (a.eval z) := hz1
  obtain ⟨b, m, h1, h2⟩ := g.conc.obj (.l d) _ hb (by simp [AO.empty])
  have hbm : c.lam d = (b, m) := by injection h1
  rw [hbm] at hy1
  obtain ⟨us, e, h3, h4, h5⟩ := h2
  have hcs : (a.eval z).cells.size = n := by have := hz1.cells.1; rw [← hx, this]; simp
  have hus : us.size = cells.length := by have := h4.1; simpa using this.symm
  have hrun := store_run (P := P) ty h3 hcs (cells_one hz1) (by omega : off + n ≤ us.size)
  unfold Oper.wp execOp
  simp only [ho, hy1, Sem.run_bind, hrun, Result.andThen_ok, Sem.run_pure, Oper.upon, hdst, Act.put]
  have hblt : b < w.heap.size := (Array.getElem?_eq_some_iff.1 h3).1
  obtain ⟨g', x'⟩ := g.write (c' := c) (w' := w.setRow b (splice us.toList off (a.eval z).cells.toList).toArray) (i := .l d) (x' := .box r) hb (by simp [AO.empty]) h1 rfl rfl rfl (by simp) (fun k hk => setRow_other w b k _ hk) rfl rfl (fun _ _ _ h => h) (fun _ _ _ h => .inl h) (fun o u h => by rw [h5 o] at h; cases h)
    (by rw [← hr]; exact ORep.storeBox h3 h4 h5 hz1.cells)
  exact ⟨c, g', x'⟩
theorem h_store {t : TypeId} {y z : Operand} {agg : Bool} {n k off : Nat} {cells : List A} {x : C} (r : List A) (ho : o.op = .store t y z) (hdst : o.dst = none) (ty : tyB P t agg n = true) (hy : s.eval y = .c (.a (.bp k off))) (hz : s.eval z = .c x) (hH : s.H k = some (.box cells)) (hr : splice cells off x.cells = r) (hx : x.cells.length = n) (hnb : Nat.ble (off + n) cells.length = true) :
    LR P o (.h :: lk o) [.h] s (s.setOwn (.e k) (.box r)) := by
  have hn := Nat.le_of_ble_eq_true hnb
  refine ⟨(setOwn_t s (.e k) (.box r)).2, fun ℓ hℓ => ?_, fun s1 hl hs c a w g => ?_⟩
  · cases ℓ with
    | h => exact absurd (by simp) hℓ
    | _ => simp [Same, S.setOwn]
  have hHH : s1.H = s.H := hs .h (by simp)
  rw [over_H hHH]
  have hb : s1.own (.e k) = some (.box cells) := Eq.trans (congrFun hHH k) hH
  have ev : ∀ u, u ∈ o.op.operands → s1.eval u = s.eval u := fun u hu => by
    cases u with
    | tmp t => exact hs (.t t) (List.mem_cons_of_mem _ (List.mem_map.2 ⟨t, List.mem_append_left _ (List.mem_filterMap.2 ⟨.tmp t, by simpa using hu, rfl⟩), rfl⟩))
    | _ => rfl
  have hy1 := g.eval y
  rw [ev y (by rw [ho]; simp [Op.operands]), hy] at hy1
  have hz1 := g.eval z
  rw [ev z (by rw [ho]; simp [Op.operands]), hz] at hz1
  have hz1 : RepC c.μ c.β x (a.eval z) := hz1
  obtain ⟨b, m, h1, h2⟩ := g.conc.obj (.e k) _ hb (by simp [AO.empty])
  have hy1 : a.eval y = .pointer (some ⟨b, off, none⟩) := by
    generalize a.eval y = v at hy1
    cases hy1 with
    | bp h => have h1 : c.β k = some (b, m) := h1
              rw [h1] at h; cases h; rfl
  obtain ⟨us, e, h3, h4, h5⟩ := h2
  have hcs : (a.eval z).cells.size = n := by have := hz1.cells.1; rw [← hx, this]; simp
  have hus : us.size = cells.length := by have := h4.1; simpa using this.symm
  have hrun := store_run (P := P) ty h3 hcs (cells_one hz1) (by omega : off + n ≤ us.size)
  unfold Oper.wp execOp
  simp only [ho, hy1, Sem.run_bind, hrun, Result.andThen_ok, Sem.run_pure, Oper.upon, hdst, Act.put]
  obtain ⟨g', x'⟩ := g.write (c' := c) (w' := w.setRow b (splice us.toList off (a.eval z).cells.toList).toArray) (i := .e k) (x' := .box r) hb (by simp [AO.empty]) h1 rfl rfl rfl (by simp) (fun k hk => setRow_other w b k _ hk) rfl rfl (fun _ _ _ h => h) (fun _ _ _ h => .inl h) (fun o u h => by rw [h5 o] at h; cases h)
    (by rw [← hr]; exact ORep.storeBox h3 h4 h5 hz1.cells)
  exact ⟨c, g', x'⟩
theorem h_storeR {t et : TypeId} {y z : Operand} {agg : Bool} {n k off sz : Nat} {cells : List A} {x : C} (r : List A) (ho : o.op = .store t y z) (hdst : o.dst = none) (ty : tyB P t agg n = true) (hy : s.eval y = .c (.a (.bp k off))) (hz : s.eval z = .c x) (hH : s.H k = some (.row et sz cells)) (hr : splice cells off x.cells = r) (hx : x.cells.length = n) (hn : off + n ≤ cells.length) (h0 : 0 < n) :
    LR P o (.h :: lk o) [.h] s (s.setOwn (.e k) (.row et sz r)) := by
  refine ⟨(setOwn_t s (.e k) (.row et sz r)).2, fun ℓ hℓ => ?_, fun s1 hl hs c a w g => ?_⟩
  · cases ℓ with
    | h => exact absurd (by simp) hℓ
    | _ => simp [Same, S.setOwn]
  have hHH : s1.H = s.H := hs .h (by simp)
  rw [over_H hHH]
  have hne : ¬ (AO.row et sz cells).empty := fun e => by simp only [AO.empty] at e; subst e; simp at hn; omega
  have hb : s1.own (.e k) = some (.row et sz cells) := Eq.trans (congrFun hHH k) hH
  have ev : ∀ u, u ∈ o.op.operands → s1.eval u = s.eval u := fun u hu => by
    cases u with
    | tmp t => exact hs (.t t) (List.mem_cons_of_mem _ (List.mem_map.2 ⟨t, List.mem_append_left _ (List.mem_filterMap.2 ⟨.tmp t, by simpa using hu, rfl⟩), rfl⟩))
    | _ => rfl
  have hy1 := g.eval y
  rw [ev y (by rw [ho]; simp [Op.operands]), hy] at hy1
  have hz1 := g.eval z
  rw [ev z (by rw [ho]; simp [Op.operands]), hz] at hz1
  have hz1 : RepC c.μ c.β x (a.eval z) := hz1
  obtain ⟨b, m, h1, h2⟩ := g.conc.obj (.e k) _ hb hne
  have hy1 : a.eval y = .pointer (some ⟨b, off, none⟩) := by
    generalize a.eval y = v at hy1
    cases hy1 with
    | bp h => have h1 : c.β k = some (b, m) := h1
              rw [h1] at h; cases h; rfl
  obtain ⟨us, h3, h6, h6', h4, h5⟩ := h2
  have hcs : (a.eval z).cells.size = n := by have := hz1.cells.1; rw [← hx, this]; simp
  have hus : cells.length ≤ us.size := by have := h4.1; simp at this; omega
  have hrun := store_run (P := P) ty h3 hcs (cells_one hz1) (by omega : off + n ≤ us.size)
  unfold Oper.wp execOp
  simp only [ho, hy1, Sem.run_bind, hrun, Result.andThen_ok, Sem.run_pure, Oper.upon, hdst, Act.put]
  obtain ⟨g', x'⟩ := g.write (c' := c) (w' := w.setRow b (splice us.toList off (a.eval z).cells.toList).toArray) (i := .e k) (x' := .row et sz r) hb hne h1 rfl rfl rfl (by simp) (fun k hk => setRow_other w b k _ hk) rfl rfl (fun _ _ _ h => h) (fun _ _ _ h => .inl h) (fun o u h => by rw [h5 o] at h; cases h)
    (by
      rw [← hr]
      have hvl : (a.eval z).cells.toList.length = n := by simpa using hcs
      have hlen : (splice us.toList off (a.eval z).cells.toList).length = us.size := by rw [splice_len (by simp; omega)]; simp
      refine ⟨_, setRow_heap w b us _ et (0, 0) h3, by simp only [List.size_toArray, hlen]; exact h6, h6', ?_, h5⟩
      have h7 := h4.splice (off := off) hz1.cells
      rw [splice_len (by omega)]
      have h8 : (splice us.toList off (a.eval z).cells.toList).take cells.length = splice (us.toList.take cells.length) off (a.eval z).cells.toList := take_splice (by omega) (by simpa using hus)
      rw [h8]; exact h7)
  exact ⟨c, g', x'⟩
end
end Go.Proofs.Ytojkjiakkcgfcaa.E
