import Derived.Test.YtgnnjebfoffphaaGreatDoorM4
import Derived.Great.BuildSlice
import Derived.Maps.AppendAt
import Derived.Lib.AppendStr
set_option linter.unusedVariables false
namespace Go.Proofs.YtgnnjebfoffphaaGreatDoor.E
open Go.RowKit
section
variable {P : Program} {all : Array Oper} {o : Oper} {s s' : S}
def splice {α : Type} (l : List α) (off : Nat) (v : List α) : List α := l.take off ++ v ++ l.drop (off + v.length)
theorem splice_len {α : Type} {l v : List α} {off : Nat} (h : off + v.length ≤ l.length) : (splice l off v).length = l.length := by simp [splice]; omega
theorem splice_get {α : Type} {l v : List α} {off : Nat} (h : off + v.length ≤ l.length) (i : Nat) : (splice l off v)[i]? = if i < off then l[i]? else if i < off + v.length then v[i - off]? else l[i]? := by
  unfold splice
  by_cases h1 : i < off
  · rw [if_pos h1, List.getElem?_append_left (by simp; omega), List.getElem?_append_left (by simp; omega), List.getElem?_take, if_pos h1]
  · rw [if_neg h1]
    by_cases h2 : i < off + v.length
    · rw [if_pos h2, List.getElem?_append_left (by simp; omega), List.getElem?_append_right (by simp; omega)]
      congr 1
      simp; omega
    · rw [if_neg h2, List.getElem?_append_right (by simp; omega), List.getElem?_drop]
      congr 1
      simp; omega
theorem take_splice {α : Type} {l v : List α} {off m : Nat} (h : off + v.length ≤ m) (hm : m ≤ l.length) : (splice l off v).take m = splice (l.take m) off v := by
  apply List.ext_getElem?
  intro i
  rw [List.getElem?_take, splice_get (by omega), splice_get (by simp; omega), List.getElem?_take]
  by_cases hi : i < m
  · simp [hi]
  · rw [if_neg hi, if_neg hi, if_neg (by omega), if_neg (by omega)]
theorem Reps.splice {α : Type} {R : α → Value → Prop} {l v : List α} {cs vs : List Value} {off : Nat} (h : Reps R l cs) (hv : Reps R v vs) : Reps R (splice l off v) (splice cs off vs) := by
  unfold E.splice
  rw [← hv.1]
  exact ((h.take off).append hv).append (h.drop _)
theorem store_run {t : TypeId} {agg : Bool} {n : Nat} (ty : tyB P t agg n = true) {w : World} {b off : Nat} {us : Array Value} {e : TypeId} (hb : w.heap[b]? = some (.cells us e (0, 0))) {v : Value} (hv : v.cells.size = n) (h1 : ∀ u ∈ v.cells.toList, u.oneCell' = true) (hn : off + n ≤ us.size) :
    (Instr.storeAt t (.pointer (some ⟨b, off, none⟩)) v).run P w = .ok () (w.setRow b (splice us.toList off v.cells.toList).toArray) := by
  obtain ⟨d, i, _, h3, _, h5, _⟩ := tyB_get ty
  have h6 := run_storeCells_at P b off e v.cells.toList 0 us w hb (by simp; omega) h1
  have h7 : ¬ v.cells.size ≠ i.size := by rw [hv, h5]; simp
  simp only [Instr.storeAt, Instr.sureAddr, storeVar, sizeOf, typeInfo, Sem.run_bind, Sem.run_pure, Result.andThen_ok, run_program, h3, if_neg h7, h6]
  simp [splice]
theorem cells_one {μ : Mem} {β : Pos} {x : C} {v : Value} (h : RepC μ β x v) : ∀ u ∈ v.cells.toList, u.oneCell' = true := h.cells.one fun _ _ => RepA.one
theorem ORep.storeBox {c : Ctx} {w : World} {b n off : Nat} {cells new : List A} {us : Array Value} {ty : TypeId} {vs : List Value} (h1 : w.heap[b]? = some (.cells us ty (0, 0))) (h2 : Reps (RepA c.μ c.β) cells us.toList) (h3 : ∀ o, c.μ b o = none) (hv : Reps (RepA c.μ c.β) new vs) :
    ORep c (w.setRow b (splice us.toList off vs).toArray) (.box (splice cells off new)) b n :=
  ⟨_, ty, setRow_heap w b us _ ty (0, 0) h1, by simpa using h2.splice (off := off) hv, h3⟩
theorem over_L {s1 s : S} {d : Nat} {x : AO} : s1.over [.b d] (s.setOwn (.l d) x) = s1.setOwn (.l d) x := by
  refine S.ext' rfl fun ℓ => ?_
  cases ℓ with
  | b i =>
    by_cases h : i = d
    · subst h; simp [Same, S.over, S.setOwn, upd_same]
    · simp [Same, S.over, S.setOwn, upd_ne _ _ h, h]
  | _ => simp [Same, S.over, S.setOwn]
theorem over_H {s1 s : S} {k : Nat} {x : AO} (h : s1.H = s.H) : s1.over [.h] (s.setOwn (.e k) x) = s1.setOwn (.e k) x := by
  refine S.ext' rfl fun ℓ => ?_
  cases ℓ <;> simp [Same, S.over, S.setOwn, h]
theorem l_store {t : TypeId} {y z : Operand} {agg : Bool} {n d off : Nat} {cells : List A} {x : C} (r : List A) (ho : o.op = .store t y z) (hdst : o.dst = none) (ty : tyB P t agg n = true) (hy : s.eval y = .lp d off) (hz : s.eval z = .c x) (hL : s.L d = some (.box cells)) (hr : splice cells off x.cells = r) (hx : x.cells.length = n) (hnb : Nat.ble (off + n) cells.length = true) :
    LR P o (.b d :: lk o) [.b d] s (s.setOwn (.l d) (.box r)) := by
  have hn := Nat.le_of_ble_eq_true hnb
  refine ⟨(setOwn_t s (.l d) (.box r)).2, fun ℓ hℓ => ?_, fun s1 hl hs c a w g => ?_⟩
  · cases ℓ with
    | b i =>
      have hi : i ≠ d := fun e => hℓ (by simp [e])
      simp [Same, S.setOwn, upd_ne _ _ hi]
    | _ => simp [Same, S.setOwn]
  rw [over_L]
  have hb : s1.own (.l d) = some (.box cells) := Eq.trans (hs (.b d) (by simp)) hL
  have ev : ∀ u, u ∈ o.op.operands → s1.eval u = s.eval u := fun u hu => by
    cases u with
    | tmp t => exact hs (.t t) (List.mem_cons_of_mem _ (jE.2 ⟨t, List.mem_append_left _ (List.mem_filterMap.2 ⟨.tmp t, by simpa using hu, rfl⟩), rfl⟩))
    | _ => rfl
  have hy1 := g.eval y
  rw [ev y (by rw [ho]; simp [Op.operands]), hy] at hy1
  have hz1 := g.eval z
  rw [ev z (by rw [ho]; simp [Op.operands]), hz] at hz1
  have hy1 : a.eval y = .pointer (some ⟨(c.lam d).1, off, none⟩) := hy1
  have hz1 : RepC c.μ c.β x (a.eval z) := hz1
  obtain ⟨b, m, h1, h2⟩ := g.conc.obj (.l d) _ hb (by simp [AO.empty])
  have hbm : c.lam d = (b, m) := by injection h1
  rw [hbm] at hy1
  obtain ⟨us, e, h3, h4, h5⟩ := h2
  have hcs : (a.eval z).cells.size = n := by have := hz1.cells.1; rw [← hx, this]; simp
  have hus : us.size = cells.length := by have := h4.1; simpa using this.symm
  have hrun := store_run (P := P) ty h3 hcs (cells_one hz1) (by omega : off + n ≤ us.size)
  unfold Oper.wp execOp
  simp only [ho, hy1, Sem.run_bind, hrun, Result.andThen_ok, Sem.run_pure, Oper.upon, hdst, Act.put]
  have hblt : b < w.heap.size := (Array.getElem?_eq_some_iff.1 h3).1
  obtain ⟨g', x'⟩ := g.write (c' := c) (w' := w.setRow b (splice us.toList off (a.eval z).cells.toList).toArray) (i := .l d) (x' := .box r) hb (by simp [AO.empty]) h1 rfl rfl rfl (by simp) (fun k hk => setRow_other w b k _ hk) rfl rfl (fun _ _ _ h => h) (fun _ _ _ h => .inl h) (fun o u h => by rw [h5 o] at h; cases h)
    (by rw [← hr]; exact ORep.storeBox h3 h4 h5 hz1.cells)
  exact ⟨c, g', x'⟩
theorem h_store {t : TypeId} {y z : Operand} {agg : Bool} {n k off : Nat} {cells : List A} {x : C} (r : List A) (ho : o.op = .store t y z) (hdst : o.dst = none) (ty : tyB P t agg n = true) (hy : s.eval y = .c (.a (.bp k off))) (hz : s.eval z = .c x) (hH : s.H k = some (.box cells)) (hr : splice cells off x.cells = r) (hx : x.cells.length = n) (hnb : Nat.ble (off + n) cells.length = true) :
    LR P o (.h :: lk o) [.h] s (s.setOwn (.e k) (.box r)) := by
  have hn := Nat.le_of_ble_eq_true hnb
  refine ⟨(setOwn_t s (.e k) (.box r)).2, fun ℓ hℓ => ?_, fun s1 hl hs c a w g => ?_⟩
  · cases ℓ with
    | h => exact absurd (by simp) hℓ
    | _ => simp [Same, S.setOwn]
  have hHH : s1.H = s.H := hs .h (by simp)
  rw [over_H hHH]
  have hb : s1.own (.e k) = some (.box cells) := Eq.trans (congrFun hHH k) hH
  have ev : ∀ u, u ∈ o.op.operands → s1.eval u = s.eval u := fun u hu => by
    cases u with
    | tmp t => exact hs (.t t) (List.mem_cons_of_mem _ (jE.2 ⟨t, List.mem_append_left _ (List.mem_filterMap.2 ⟨.tmp t, by simpa using hu, rfl⟩), rfl⟩))
    | _ => rfl
  have hy1 := g.eval y
  rw [ev y (by rw [ho]; simp [Op.operands]), hy] at hy1
  have hz1 := g.eval z
  rw [ev z (by rw [ho]; simp [Op.operands]), hz] at hz1
  have hz1 : RepC c.μ c.β x (a.eval z) := hz1
  obtain ⟨b, m, h1, h2⟩ := g.conc.obj (.e k) _ hb (by simp [AO.empty])
  have hy1 : a.eval y = .pointer (some ⟨b, off, none⟩) := by
    generalize a.eval y = v at hy1
    cases hy1 with
    | bp h => have h1 : c.β k = some (b, m) := h1
              rw [h1] at h; cases h; rfl
  obtain ⟨us, e, h3, h4, h5⟩ := h2
  have hcs : (a.eval z).cells.size = n := by have := hz1.cells.1; rw [← hx, this]; simp
  have hus : us.size = cells.length := by have := h4.1; simpa using this.symm
  have hrun := store_run (P := P) ty h3 hcs (cells_one hz1) (by omega : off + n ≤ us.size)
  unfold Oper.wp execOp
  simp only [ho, hy1, Sem.run_bind, hrun, Result.andThen_ok, Sem.run_pure, Oper.upon, hdst, Act.put]
  obtain ⟨g', x'⟩ := g.write (c' := c) (w' := w.setRow b (splice us.toList off (a.eval z).cells.toList).toArray) (i := .e k) (x' := .box r) hb (by simp [AO.empty]) h1 rfl rfl rfl (by simp) (fun k hk => setRow_other w b k _ hk) rfl rfl (fun _ _ _ h => h) (fun _ _ _ h => .inl h) (fun o u h => by rw [h5 o] at h; cases h)
    (by rw [← hr]; exact ORep.storeBox h3 h4 h5 hz1.cells)
  exact ⟨c, g', x'⟩
theorem h_storeR {t et : TypeId} {y z : Operand} {agg : Bool} {n k off sz : Nat} {cells : List A} {x : C} (r : List A) (ho : o.op = .store t y z) (hdst : o.dst = none) (ty : tyB P t agg n = true) (hy : s.eval y = .c (.a (.bp k off))) (hz : s.eval z = .c x) (hH : s.H k = some (.row et sz cells)) (hr : splice cells off x.cells = r) (hx : x.cells.length = n) (hn : off + n ≤ cells.length) (h0 : 0 < n) :
    LR P o (.h :: lk o) [.h] s (s.setOwn (.e k) (.row et sz r)) := by
  refine ⟨(setOwn_t s (.e k) (.row et sz r)).2, fun ℓ hℓ => ?_, fun s1 hl hs c a w g => ?_⟩
  · cases ℓ with
    | h => exact absurd (by simp) hℓ
    | _ => simp [Same, S.setOwn]
  have hHH : s1.H = s.H := hs .h (by simp)
  rw [over_H hHH]
  have hne : ¬ (AO.row et sz cells).empty := fun e => by simp only [AO.empty] at e; subst e; simp at hn; omega
  have hb : s1.own (.e k) = some (.row et sz cells) := Eq.trans (congrFun hHH k) hH
  have ev : ∀ u, u ∈ o.op.operands → s1.eval u = s.eval u := fun u hu => by
    cases u with
    | tmp t => exact hs (.t t) (List.mem_cons_of_mem _ (jE.2 ⟨t, List.mem_append_left _ (List.mem_filterMap.2 ⟨.tmp t, by simpa using hu, rfl⟩), rfl⟩))
    | _ => rfl
  have hy1 := g.eval y
  rw [ev y (by rw [ho]; simp [Op.operands]), hy] at hy1
  have hz1 := g.eval z
  rw [ev z (by rw [ho]; simp [Op.operands]), hz] at hz1
  have hz1 : RepC c.μ c.β x (a.eval z) := hz1
  obtain ⟨b, m, h1, h2⟩ := g.conc.obj (.e k) _ hb hne
  have hy1 : a.eval y = .pointer (some ⟨b, off, none⟩) := by
    generalize a.eval y = v at hy1
    cases hy1 with
    | bp h => have h1 : c.β k = some (b, m) := h1
              rw [h1] at h; cases h; rfl
  obtain ⟨us, h3, h6, h6', h4, h5⟩ := h2
  have hcs : (a.eval z).cells.size = n := by have := hz1.cells.1; rw [← hx, this]; simp
  have hus : cells.length ≤ us.size := by have := h4.1; simp at this; omega
  have hrun := store_run (P := P) ty h3 hcs (cells_one hz1) (by omega : off + n ≤ us.size)
  unfold Oper.wp execOp
  simp only [ho, hy1, Sem.run_bind, hrun, Result.andThen_ok, Sem.run_pure, Oper.upon, hdst, Act.put]
  obtain ⟨g', x'⟩ := g.write (c' := c) (w' := w.setRow b (splice us.toList off (a.eval z).cells.toList).toArray) (i := .e k) (x' := .row et sz r) hb hne h1 rfl rfl rfl (by simp) (fun k hk => setRow_other w b k _ hk) rfl rfl (fun _ _ _ h => h) (fun _ _ _ h => .inl h) (fun o u h => by rw [h5 o] at h; cases h)
    (by
      rw [← hr]
      have hvl : (a.eval z).cells.toList.length = n := by simpa using hcs
      have hlen : (splice us.toList off (a.eval z).cells.toList).length = us.size := by rw [splice_len (by simp; omega)]; simp
      refine ⟨_, setRow_heap w b us _ et (0, 0) h3, by simp only [List.size_toArray, hlen]; exact h6, h6', ?_, h5⟩
      have h7 := h4.splice (off := off) hz1.cells
      rw [splice_len (by omega)]
      have h8 : (splice us.toList off (a.eval z).cells.toList).take cells.length = splice (us.toList.take cells.length) off (a.eval z).cells.toList := take_splice (by omega) (by simpa using hus)
      rw [h8]; exact h7)
  exact ⟨c, g', x'⟩
end
theorem flat_at {α : Type} {sz : Nat} : ∀ (es : List (List α)) (i j : Nat), (∀ e ∈ es, e.length = sz) → j < sz → es.flatten[i * sz + j]? = es[i]?.bind (·[j]?)
  | [], i, j, _, _ => by simp
  | e :: es, 0, j, h, hj => by
    have := h e (by simp)
    simp [List.getElem?_append, this, hj]
  | e :: es, i + 1, j, h, hj => by
    have h1 := h e (by simp)
    have h2 : (i + 1) * sz + j = e.length + (i * sz + j) := by rw [h1, Nat.add_mul]; omega
    rw [List.flatten_cons, h2, List.getElem?_append_right (by omega), Nat.add_sub_cancel_left, flat_at es i j (fun c hc => h c (by simp [hc])) hj]
    simp
theorem flat_length {α : Type} {sz : Nat} : ∀ (es : List (List α)), (∀ e ∈ es, e.length = sz) → es.flatten.length = es.length * sz
  | [], _ => by simp
  | e :: es, h => by
    rw [List.flatten_cons, qG, h e (by simp), flat_length es (fun c hc => h c (by simp [hc])), qM, Nat.add_mul]; omega
theorem sl_flat {μ : Mem} {z : Nz} {sz : Nat} {es : List (List T)} {v : Value} (h : RepT μ (.sl z sz es) v) (hne : es ≠ []) (h0 : 0 < sz) : ∃ b off c cs, v = .slice (some ⟨b, off, none⟩) es.length c ∧ es.length ≤ c ∧ (∀ e ∈ es, e.length = sz) ∧ Reps (RepT μ) es.flatten cs ∧ ∀ (j : Nat) (u : Value), cs[j]? = some u → μ b (off + j) = some u := by
  cases h with
  | nil => exact absurd rfl hne
  | emp => exact absurd rfl hne
  | @sl _ _ _ b off n c u ne hn hc len mem rep =>
    have hl : ∀ e ∈ es, e.length = sz := fun e he => by
      obtain ⟨i, hi⟩ := List.getElem?_of_mem he
      exact len i e hi
    have key : ∀ q x, es.flatten[q]? = some x → ∃ i e j, es[i]? = some e ∧ e[j]? = some x ∧ q = i * sz + j ∧ i = q / sz ∧ j = q % sz := fun q x hq => by
      have e1 : q / sz * sz + q % sz = q := Nat.div_add_mod' q sz
      have hm := Nat.mod_lt q h0
      rw [← e1, flat_at es _ _ hl hm] at hq
      cases he : es[q / sz]? with
      | none => rw [he] at hq; cases hq
      | some e => rw [he] at hq; exact ⟨_, e, _, he, hq, e1.symm, rfl, rfl⟩
    refine ⟨b, off, c, (List.range (es.length * sz)).map fun q => u (q / sz) (q % sz), by rw [hn], by omega, hl, ⟨by simp [flat_length es hl], fun q x v h1 h2 => ?_⟩, fun q v h2 => ?_⟩
    · obtain ⟨i, e, j, h3, h4, h5, rfl, rfl⟩ := key q x h1
      have hlt : q < es.length * sz := by
        have := (List.getElem?_eq_some_iff.1 h1).1
        rwa [flat_length es hl] at this
      rw [qR, List.getElem?_range hlt] at h2
      injection h2 with h2; subst h2
      exact rep _ e _ x h3 h4
    · have hlt : q < es.length * sz := by
        have := (List.getElem?_eq_some_iff.1 h2).1
        simpa using this
      rw [qR, List.getElem?_range hlt] at h2
      injection h2 with h2; subst h2
      have hlt' : q < es.flatten.length := by rw [flat_length es hl]; exact hlt
      obtain ⟨i, e, j, h3, h4, h5, rfl, rfl⟩ := key q _ (qF hlt')
      have := mem _ e _ _ h3 h4
      rwa [← h5] at this
theorem flat_sl {μ : Mem} {z : Nz} {sz : Nat} {es : List (List T)} {b off c : Nat} {cs : List Value} (hne : es ≠ []) (hc : es.length ≤ c) (hl : ∀ e ∈ es, e.length = sz) (hr : Reps (RepT μ) es.flatten cs) (hm : ∀ (j : Nat) (u : Value), cs[j]? = some u → μ b (off + j) = some u) : RepT μ (.sl z sz es) (.slice (some ⟨b, off, none⟩) es.length c) := by
  have at_ : ∀ (i : Nat) (e : List T) (j : Nat) (x : T), es[i]? = some e → e[j]? = some x → es.flatten[i * sz + j]? = some x := fun i e j x h1 h2 => by
    have he := hl e (List.mem_of_getElem? h1)
    have hj : j < sz := by have := (List.getElem?_eq_some_iff.1 h2).1; omega
    rw [flat_at es i j hl hj, h1]; exact h2
  refine .sl (fun i j => cs.getD (i * sz + j) undef) hne rfl hc (fun i e he => hl e (List.mem_of_getElem? he)) (fun i e j x h1 h2 => ?_) (fun i e j x h1 h2 => ?_)
  · obtain ⟨v, h3, h4⟩ := hr.get (at_ i e j x h1 h2)
    simp only [List.getD, h3, Option.getD_some]
    exact hm _ _ h3
  · obtain ⟨v, h3, h4⟩ := hr.get (at_ i e j x h1 h2)
    simp only [List.getD, h3, Option.getD_some]
    exact h4
theorem Reps.monoT {μ μ' : Mem} (h : ∀ b o u, μ b o = some u → μ' b o = some u) {l : List T} {cs : List Value} (hr : Reps (RepT μ) l cs) : Reps (RepT μ') l cs := hr.mono fun _ _ => RepT.mono h
def Mem.add (μ : Mem) (b : Nat) (cs : List Value) : Mem := fun b' o => if b' = b then (if o < cs.length then cs[o]? else μ b' o) else μ b' o
theorem Mem.add_in {μ : Mem} {b : Nat} {cs : List Value} {o : Nat} {u : Value} (h : cs[o]? = some u) : μ.add b cs b o = some u := by
  have hlt := (List.getElem?_eq_some_iff.1 h).1
  unfold Mem.add; rw [if_pos rfl, if_pos hlt]; exact h
theorem Mem.add_new {μ : Mem} {b : Nat} {cs : List Value} {b' o : Nat} {u : Value} (h : μ.add b cs b' o = some u) : μ b' o = some u ∨ (b' = b ∧ cs[o]? = some u) := by
  unfold Mem.add at h
  split at h
  · rename_i hb
    split at h
    · exact .inr ⟨hb, h⟩
    · exact .inl h
  · exact .inl h
theorem Mem.add_ext {μ : Mem} {b : Nat} {cs : List Value} (h : ∀ o u, μ b o = some u → o < cs.length → cs[o]? = some u) : ∀ b' o u, μ b' o = some u → μ.add b cs b' o = some u := fun b' o u hu => by
  unfold Mem.add
  split
  · rename_i hb; subst hb
    split
    · rename_i hlt; exact h o u hu hlt
    · exact hu
  · exact hu
theorem Mk.block {c : Ctx} {w w1 : World} (hm : MemOk c w) (hos : w1.os = w.os) (ht : w1.tape = w.tape) (hout : w1.output = w.output) (hs : w.heap.size ≤ w1.heap.size) (hblk : ∀ b, b < w.heap.size → w1.heap[b]? = w.heap[b]?) {b : Nat} {cs : List Value} (hb : w.heap.size ≤ b) (hcs : ∀ (o : Nat) (u : Value), cs[o]? = some u → w1.cell? ⟨b, o, none⟩ = some u) :
    Mk c w { c with μ := c.μ.add b cs } w1 := by
  have none : ∀ o, c.μ b o = none := fun o => by
    cases h : c.μ b o with
    | none => rfl
    | some u => have := World.block_lt_of_cell? w _ (hm.mem b o u h); simp at this; omega
  refine ⟨hos, ht, hout, hs, hblk, Mem.add_ext (fun o u h => by rw [none o] at h; cases h), fun b' o u h => ?_, fun _ _ h => h, rfl, rfl, ⟨fun b' o u h => ?_, hm.fin, hm.tabw.blk hblk⟩⟩
  · rcases Mem.add_new h with h | ⟨rfl, _⟩
    · exact .inl h
    · exact .inr hb
  · rcases Mem.add_new h with h | ⟨rfl, h2⟩
    · have h1 := hm.mem b' o u h
      have hlt := World.block_lt_of_cell? w _ h1
      unfold World.cell? at h1 ⊢
      rw [hblk b' hlt]; exact h1
    · exact hcs o u h2
theorem Mk.grew {c : Ctx} {w w1 : World} (hm : MemOk c w) (hos : w1.os = w.os) (ht : w1.tape = w.tape) (hout : w1.output = w.output) (hs : w.heap.size ≤ w1.heap.size) (hblk : ∀ b, b < w.heap.size → w1.heap[b]? = w.heap[b]?) : Mk c w c w1 :=
  ⟨hos, ht, hout, hs, hblk, fun _ _ _ h => h, fun _ _ _ h => .inl h, fun _ _ h => h, rfl, rfl, ⟨fun b o u h => by
    have h1 := hm.mem b o u h
    have hlt := World.block_lt_of_cell? w _ h1
    unfold World.cell? at h1 ⊢
    rw [hblk b hlt]; exact h1, hm.fin, hm.tabw.blk hblk⟩⟩
theorem Mk.alloc {c : Ctx} {w : World} (hm : MemOk c w) (x : Obj) : Mk c w c (w.alloc x) :=
  .grew hm rfl rfl rfl (by simp) fun b hb => Below.heap_alloc w x b hb
theorem heap_new (w : World) (x : Obj) : (w.alloc x).heap[w.heap.size]? = some x := by show (w.heap.push x)[w.heap.size]? = _; simp
section
variable {P : Program} {all : Array Oper} {o : Oper} {s s' : S} {K : S → Prop}
theorem over_new {s1 s : S} {d : Nat} {x : AO} {y : X} : s1.over [.t d, .b d] ((s.setOwn (.l d) x).put (some d) y) = (s1.setOwn (.l d) x).put (some d) y := by
  refine S.ext' rfl fun ℓ => ?_
  cases ℓ with
  | t i =>
    by_cases h : i = d
    · subst h; simp [Same, S.over, S.setOwn, S.put, upd_same]
    · simp [Same, S.over, S.setOwn, S.put, upd_ne _ _ h, h]
  | b i =>
    by_cases h : i = d
    · subst h; simp [Same, S.over, S.setOwn, S.put, upd_same]
    · simp [Same, S.over, S.setOwn, S.put, upd_ne _ _ h, h]
  | h => simp [Same, S.over, S.setOwn, S.put]
theorem new_out {s : S} {d : Nat} {x : AO} {y : X} : ∀ ℓ, ℓ ∉ [Loc.t d, Loc.b d] → Same ℓ ((s.setOwn (.l d) x).put (some d) y) s := fun ℓ hℓ => by
  cases ℓ with
  | t i => have h : i ≠ d := fun e => hℓ (by simp [e])
           simp [Same, S.setOwn, S.put, upd_ne _ _ h]
  | b i => have h : i ≠ d := fun e => hℓ (by simp [e])
           simp [Same, S.setOwn, S.put, upd_ne _ _ h]
  | h => simp [Same, S.setOwn, S.put]
theorem evs {s1 s : S} {l : List Loc} (hs : ∀ ℓ, ℓ ∈ l → Same ℓ s1 s) (hl : ∀ ℓ, ℓ ∈ lk o → ℓ ∈ l) {u : Operand} (hu : u ∈ o.op.operands) : s1.eval u = s.eval u := by
  cases u with
  | tmp t => exact hs (.t t) (hl _ (jE.2 ⟨t, List.mem_append_left _ (List.mem_filterMap.2 ⟨.tmp t, by simpa using hu, rfl⟩), rfl⟩))
  | _ => rfl
theorem l_new {d : Nat} {x : AO} {y : X} (hdst : o.dst = some d) (hL : s.L d = none) (hd : inB o.dst s.n = true) (hy : y.loc = some d)
    (h : ∀ (c : Ctx) (w : World) (a : Act), MemOk c w → (∀ y, y ∈ o.op.operands → RepX c (s.eval y) (a.eval y)) → ∃ v w1 c1 b n, (execOp a.eval o).run P w = .ok (.value v) w1 ∧ Mk c w c1 w1 ∧ w.heap.size ≤ b ∧ ORep c1 w1 x b n ∧ RepX { c1 with lam := upd c1.lam d (b, n) } y v) :
    LR P o (.b d :: lk o) [.t d, .b d] s ((s.setOwn (.l d) x).put (some d) y) := by
  refine ⟨(setOwn_t s (.l d) x).2, new_out, fun s1 hl hs c a w g => ?_⟩
  rw [over_new]
  have hL1 : s1.L d = none := Eq.trans (hs (.b d) (by simp)) hL
  obtain ⟨v, w1, c1, b, n, h1, h2, h3, h4, h5⟩ := h c w a g.memOk fun u hu => by rw [← evs hs (fun _ h => List.mem_cons_of_mem _ h) hu]; exact g.eval u
  unfold Oper.wp
  rw [h1]
  simp only [Oper.upon, hdst]
  obtain ⟨g', x'⟩ := g.newL h2 hL1 h3 h4
  exact ⟨_, g'.put (some d) (by rw [hdst] at hd; have e : s1.n = s.n := hl; simpa [S.setOwn, e] using hd) h5 (fun d' e => by rw [hy] at e; injection e with e; subst e; simp [S.setOwn, upd_same]), by rw [own_put]; exact x'⟩
theorem boxes {c : Ctx} {w : World} {vs : List Value} {cs : List A} (e : TypeId) (hm : MemOk c w) (hr : Reps (RepA c.μ c.β) cs vs) : ORep c (w.alloc (.cells vs.toArray e)) (.box cs) w.heap.size 0 := by
  refine ⟨vs.toArray, e, heap_new w _, by simpa using hr, fun o => ?_⟩
  cases h : c.μ w.heap.size o with
  | none => rfl
  | some u => have := World.block_lt_of_cell? w _ (hm.mem _ o u h); simp at this
theorem l_box {e : TypeId} {y : Operand} {d : Nat} {x : C} (r : List A) (ho : o.op = .box e y) (hdst : o.dst = some d) (hy : s.eval y = .c x) (hr : x.cells = r) (hL : s.L d = none) (hd : inB o.dst s.n = true) :
    LR P o (.b d :: lk o) [.t d, .b d] s ((s.setOwn (.l d) (.box r)).put (some d) (.lp d 0)) :=
  l_new hdst hL hd rfl fun c w a hm hrep => by
    have h0 := hrep y (by rw [ho]; simp [Op.operands])
    rw [hy] at h0
    have h0 : RepC c.μ c.β x (a.eval y) := h0
    refine ⟨.pointer (some ⟨w.heap.size, 0, none⟩), w.alloc (.cells (a.eval y).cells e), c, w.heap.size, 0, by simp [execOp, ho, Instr.box, newVar, newRow], Mk.alloc hm _, jA _, ?_, ?_⟩
    · rw [← hr]
      have := boxes (vs := (a.eval y).cells.toList) e hm h0.cells
      simpa using this
    · simp [RepX, upd_same]
def zeroIs (P : Program) (t : TypeId) (z : Value) : Prop := (P.info? t).bind (·.zero) = some z
theorem zero_run {t : TypeId} {z : Value} (h : zeroIs P t z) (w : World) : (zeroValue t).run P w = .ok z w := by
  unfold zeroIs at h
  cases hi : P.info? t with
  | none => rw [hi] at h; cases h
  | some i => rw [hi] at h; simp only [Option.bind_some] at h; simp [zeroValue, typeInfo, hi, h]
def litA (u : Value) : A := .t (.v u)
theorem lits {c : Ctx} : ∀ (l : List Value), (l.all Value.oneCell') = true → Reps (RepA c.μ c.β) (l.map litA) l
  | [], _ => .nil
  | u :: l, h => by
    simp only [List.all_cons, jG] at h
    exact .cons (.t (.v h.1)) (lits l h.2)
theorem l_alloc {e : TypeId} {d : Nat} {z : Value} (r : List A) (ho : o.op = .alloc e) (hdst : o.dst = some d) (hz : zeroIs P e z) (h1 : z.cells.toList.all Value.oneCell' = true) (hr : z.cells.toList.map litA = r) (hL : s.L d = none) (hd : inB o.dst s.n = true) :
    LR P o (.b d :: lk o) [.t d, .b d] s ((s.setOwn (.l d) (.box r)).put (some d) (.lp d 0)) :=
  l_new hdst hL hd rfl fun c w a hm hrep => by
    refine ⟨.pointer (some ⟨w.heap.size, 0, none⟩), w.alloc (.cells z.cells e), c, w.heap.size, 0, by simp [execOp, ho, Instr.alloc, zero_run hz, newVar, newRow], Mk.alloc hm _, jA _, ?_, ?_⟩
    · rw [← hr]
      have := boxes (c := c) (vs := z.cells.toList) e hm (lits _ h1)
      simpa using this
    · simp [RepX, upd_same]
theorem e_new {x : AO} {y : Nat → X} (hg : o.guard = none) (hd : inB o.dst s.n = true) (hy : ∀ k, (y k).loc = none)
    (h : ∀ (c : Ctx) (w : World) (a : Act), MemOk c w → (∀ y, y ∈ o.op.operands → RepX c (s.eval y) (a.eval y)) → ∃ v w1 c1 b n, (execOp a.eval o).run P w = .ok (.value v) w1 ∧ Mk c w c1 w1 ∧ w.heap.size ≤ b ∧ ORep c1 w1 x b n ∧ ∀ k, c1.β k = none → RepX { c1 with β := upd c1.β k (some (b, n)) } (y k) v)
    (hk : ∀ k, s.H k = none → K ((s.setOwn (.e k) x).put o.dst (y k))) : OpW P all o K s := by
  intro c a w g
  unfold opRun
  rw [if_pos (by simp [Region.wanted, hg])]
  refine wp_to ?_
  obtain ⟨v, w1, c1, b, n, h1, h2, h3, h4, h5⟩ := h c w a g.memOk fun u hu => g.eval u
  unfold Oper.wp
  rw [h1]
  simp only [Oper.upon]
  obtain ⟨k, k1, k2, g', x'⟩ := g.newE h2 h3 h4
  exact ⟨_, _, hk k k1, g'.put o.dst hd (h5 k k2) (fun d' e => by rw [hy] at e; cases e), by rw [own_put]; exact x'⟩
theorem e_box {e : TypeId} {y : Operand} {x : C} (r : List A) (hg : o.guard = none) (ho : o.op = .box e y) (hy : s.eval y = .c x) (hr : x.cells = r) (hd : inB o.dst s.n = true)
    (hk : ∀ k, s.H k = none → K ((s.setOwn (.e k) (.box r)).put o.dst (.c (.a (.bp k 0))))) : OpW P all o K s :=
  e_new (y := fun k => .c (.a (.bp k 0))) hg hd (fun _ => rfl) (fun c w a hm hrep => by
    have h0 := hrep y (by rw [ho]; simp [Op.operands])
    rw [hy] at h0
    have h0 : RepC c.μ c.β x (a.eval y) := h0
    refine ⟨.pointer (some ⟨w.heap.size, 0, none⟩), w.alloc (.cells (a.eval y).cells e), c, w.heap.size, 0, by simp [execOp, ho, Instr.box, newVar, newRow], Mk.alloc hm _, jA _, ?_, fun k _ => ?_⟩
    · rw [← hr]
      have := boxes (vs := (a.eval y).cells.toList) e hm h0.cells
      simpa using this
    · exact RepA.bp (c := 0) (upd_same _ _ _)) hk
theorem e_alloc {e : TypeId} {z : Value} (r : List A) (hg : o.guard = none) (ho : o.op = .alloc e) (hz : zeroIs P e z) (h1 : z.cells.toList.all Value.oneCell' = true) (hr : z.cells.toList.map litA = r) (hd : inB o.dst s.n = true)
    (hk : ∀ k, s.H k = none → K ((s.setOwn (.e k) (.box r)).put o.dst (.c (.a (.bp k 0))))) : OpW P all o K s :=
  e_new (y := fun k => .c (.a (.bp k 0))) hg hd (fun _ => rfl) (fun c w a hm hrep => by
    refine ⟨.pointer (some ⟨w.heap.size, 0, none⟩), w.alloc (.cells z.cells e), c, w.heap.size, 0, by simp [execOp, ho, Instr.alloc, zero_run hz, newVar, newRow], Mk.alloc hm _, jA _, ?_, fun k _ => ?_⟩
    · rw [← hr]
      have := boxes (c := c) (vs := z.cells.toList) e hm (lits _ h1)
      simpa using this
    · exact RepA.bp (c := 0) (upd_same _ _ _)) hk
end
section
variable {P : Program} {all : Array Oper} {o : Oper} {s s' : S} {K : S → Prop}
theorem foldl_splice : ∀ (v : List Value) (j off : Nat) (cs : Array Value), off + j + v.length ≤ cs.size → ((v.zipIdx j).foldl (fun (cs : Array Value) (x : Value × Nat) => cs.setIfInBounds (off + x.2) x.1) cs).toList = splice cs.toList (off + j) v
  | [], j, off, cs, _ => by simp [splice]
  | u :: v, j, off, cs, h => by
    rw [List.zipIdx_cons, List.foldl_cons, foldl_splice v (j + 1) off _ (by simp at h ⊢; omega)]
    apply List.ext_getElem?
    intro i
    rw [splice_get (by simp at h ⊢; omega), splice_get (by simp at h ⊢; omega)]
    simp only [Array.toList_setIfInBounds, List.getElem?_set, qM]
    by_cases h1 : i < off + j
    · rw [if_pos (by omega), if_neg (by omega), if_pos h1]
    · rw [if_neg h1]
      by_cases h2 : i = off + j
      · subst h2
        rw [if_pos (by omega), if_pos rfl, if_pos (by simp at h ⊢; omega), if_pos (by omega)]
        simp
      · by_cases h3 : i < off + j + (v.length + 1)
        · rw [if_neg (by omega), if_pos (by omega), if_pos h3]
          rw [show i - (off + j) = (i - (off + (j + 1))) + 1 by omega]
          simp
        · rw [if_neg (by omega), if_neg (by omega), if_neg (by omega), if_neg h3]
def fillA {α : Type} (pl : List (Nat × Nat)) (cells : List α) : List (Nat × List α) → Option (List α)
  | [] => some cells
  | (i, v) :: rest => match pl[i]? with
    | none => none
    | some (off, size) => if v.length = size ∧ off + v.length ≤ cells.length then fillA pl (splice cells off v) rest else none
inductive PartsRep (μ : Mem) (β : Pos) : List (Nat × List A) → List (Nat × Value) → Prop
  | nil : PartsRep μ β [] []
  | cons {i : Nat} {l : List A} {v : Value} {r : List (Nat × List A)} {r' : List (Nat × Value)} (h : Reps (RepA μ β) l v.cells.toList) (t : PartsRep μ β r r') : PartsRep μ β ((i, l) :: r) ((i, v) :: r')
theorem fill_run {μ : Mem} {β : Pos} {pl : List (Nat × Nat)} {place : Nat → Option (Nat × Nat)} (hp : ∀ i x, pl[i]? = some x → place i = some x) : ∀ {ps : List (Nat × List A)} {vs : List (Nat × Value)} {cells : List A} {cs : Array Value} {r : List A}, PartsRep μ β ps vs → Reps (RepA μ β) cells cs.toList → fillA pl cells ps = some r → ∃ us, Instr.fill place cs vs = some us ∧ Reps (RepA μ β) r us.toList := by
  intro ps
  induction ps with
  | nil => intro vs cells cs r h hc hr; cases h; cases hr; exact ⟨cs, rfl, hc⟩
  | cons p ps ih =>
    intro vs cells cs r h hc hr
    cases h with
    | @cons i l v _ r' hl ht =>
      simp only [fillA] at hr
      split at hr
      · cases hr
      · rename_i off size hpl
        split at hr
        · rename_i hcond
          have hvs : v.cells.size = l.length := by have := hl.1; simpa using this.symm
          have hcs : cs.size = cells.length := by have := hc.1; simpa using this.symm
          have hsp := foldl_splice v.cells.toList 0 off cs (by simp; omega)
          have := hc.splice (off := off) hl
          obtain ⟨us, h1, h2⟩ := ih (cs := v.cells.zipIdx.foldl (fun cs (x : Value × Nat) => cs.setIfInBounds (off + x.2) x.1) cs) ht (by
            rw [← Array.foldl_toList, Array.toList_zipIdx, hsp]; exact this) hr
          refine ⟨us, ?_, h2⟩
          simp only [Instr.fill, hp i _ hpl]
          rw [if_neg (by simp [hvs]; omega)]
          exact h1
        · cases hr
def bplB (P : Program) (t : TypeId) (pl : List (Nat × Nat)) : Bool :=
  match P.underlying t with
  | some (.struct fs) => fs.toList.mapM (fun f => (P.info? f.type).map fun i => (f.offset, i.size)) == some pl
  | some (.array n e) => match P.info? e with
    | some i => (List.range n).map (fun j => (j * i.size, i.size)) == pl
    | none => false
  | _ => false
theorem built_of {t : TypeId} {z : Value} {pl : List (Nat × Nat)} (hz : zeroIs P t z) (hp : bplB P t pl = true) : ∃ place, (∀ i x, pl[i]? = some x → place i = some x) ∧ ∀ vs, P.built t vs = Instr.fill place z.cells vs := by
  unfold zeroIs at hz
  unfold bplB at hp
  cases hi : P.info? t with
  | none => rw [hi] at hz; cases hz
  | some it =>
    rw [hi] at hz
    simp only [Option.bind_some] at hz
    split at hp
    · rename_i fs hu
      refine ⟨(pl.toArray[·]?), fun i x h => by simpa using h, fun vs => ?_⟩
      simp only [Program.built, hi, hu, hz, eq_of_beq hp]
    · rename_i n e hu
      split at hp
      · rename_i ie hie
        refine ⟨fun i => some (i * ie.size, ie.size), fun i x h => ?_, fun vs => by simp only [Program.built, hi, hu, hz, hie]⟩
        rw [← eq_of_beq hp, qR] at h
        obtain ⟨j, hj, rfl⟩ := Option.map_eq_some_iff.1 h
        have : j = i := by
          rw [List.getElem?_eq_some_iff] at hj
          obtain ⟨h1, h2⟩ := hj
          simpa using h2.symm
        rw [this]
      · cases hp
    · cases hp
def partsX (s : S) : List (Nat × Operand) → Option (List (Nat × List A))
  | [] => some []
  | (i, y) :: r => match s.eval y, partsX s r with
    | .c x, some l => some ((i, x.cells) :: l)
    | _, _ => none
theorem parts_rep {c : Ctx} {f : Operand → Value} : ∀ {ps : List (Nat × Operand)} {l : List (Nat × List A)}, partsX s ps = some l → (∀ p ∈ ps, RepX c (s.eval p.2) (f p.2)) → PartsRep c.μ c.β l (ps.map fun p => (p.1, f p.2))
  | [], l, h, _ => by cases h; exact .nil
  | (i, y) :: ps, l, h, hr => by
    simp only [partsX] at h
    split at h
    · rename_i x l' h1 h2
      cases h
      have h3 := hr (i, y) (by simp)
      rw [h1] at h3
      have h3 : RepC c.μ c.β x (f y) := h3
      exact .cons h3.cells (parts_rep h2 fun p hp => hr p (by simp [hp]))
    · cases h
theorem q_build {t : TypeId} {parts : Array (Nat × Operand)} {z : Value} (pl : List (Nat × Nat)) (ps : List (Nat × List A)) (r : List A) (ho : o.op = .build t parts) (hz : zeroIs P t z) (h1 : z.cells.toList.all Value.oneCell' = true) (hp : bplB P t pl = true)
    (hps : partsX s parts.toList = some ps) (hr : fillA pl (z.cells.toList.map litA) ps = some r) : QV P o s (.c (.g r)) :=
  .of_same (fun _ => nolp) fun c w a hm hrep => by
    obtain ⟨place, h2, h3⟩ := built_of hz hp
    obtain ⟨us, h4, h5⟩ := fill_run (β := c.β) h2 (parts_rep (c := c) (f := a.eval) hps fun p hp => hrep p.2 (by rw [ho]; simp [Op.operands]; exact ⟨p.1, by simpa using hp⟩)) (cs := z.cells) (lits (c := c) _ h1) hr
    refine ⟨.agg us, ?_, us, rfl, h5⟩
    have h6 := h3 (parts.map fun (i, x) => (i, a.eval x)).toList
    have h7 : (parts.map fun (i, x) => (i, a.eval x)).toList = parts.toList.map fun p => (p.1, a.eval p.2) := by simp
    rw [h7] at h6
    have h8 := run_build (P := P) w t (parts.map fun (i, x) => (i, a.eval x)) us (by rw [h7, h6, h4])
    simp only [execOp, ho, Sem.run_bind, h8]; rfl
def untA : List A → Option (List T)
  | [] => some []
  | .t x :: r => (untA r).map (x :: ·)
  | _ :: _ => none
theorem untA_map (l : List T) : untA (l.map .t) = some l := by
  induction l with
  | nil => rfl
  | cons x l ih => simp [untA, ih]
theorem untA_rep {μ : Mem} {β : Pos} : ∀ {l : List A} {r : List T} {cs : List Value}, untA l = some r → Reps (RepA μ β) l cs → Reps (RepT μ) r cs
  | [], r, cs, h, hr => by
    cases h
    have := hr.1
    cases cs with
    | nil => exact .nil
    | cons => cases this
  | .t x :: l, r, cs, h, hr => by
    simp only [untA] at h
    obtain ⟨r', h1, rfl⟩ := Option.map_eq_some_iff.1 h
    cases cs with
    | nil => exact absurd hr.1 (by simp)
    | cons v cs =>
      have h2 := hr.2 0 _ v rfl rfl
      cases h2 with
      | t h2 => exact .cons h2 (untA_rep h1 ⟨by simpa using hr.1, fun i y u h3 h4 => hr.2 (i + 1) y u (by simpa using h3) (by simpa using h4)⟩)
  | .bp .. :: _, _, _, h, _ | .mp .. :: _, _, _, h, _ | .ts .. :: _, _, _, h, _ | .os .. :: _, _, _, h, _ | .fn .. :: _, _, _, h, _ => by cases h
def elemsX (s : S) (sz : Nat) : Nat → List (Nat × Operand) → Option (List (List T))
  | _, [] => some []
  | k, (i, y) :: r => match s.eval y, elemsX s sz (k + 1) r with
    | .c x, some l => match untA x.cells with
      | some e => if i = k ∧ e.length = sz then some (e :: l) else none
      | none => none
    | _, _ => none
theorem elems_fill {c : Ctx} {f : Operand → Value} {sz : Nat} : ∀ {ps : List (Nat × Operand)} {k : Nat} {es : List (List T)} {cs : Array Value}, elemsX s sz k ps = some es → (∀ p ∈ ps, RepX c (s.eval p.2) (f p.2)) → cs.size = (k + ps.length) * sz →
    ∃ us, Instr.fill (fun i => some (i * sz, sz)) cs (ps.map fun p => (p.1, f p.2)) = some us ∧ us.size = cs.size ∧ us.toList.take (k * sz) = cs.toList.take (k * sz) ∧ Reps (RepT c.μ) es.flatten (us.toList.drop (k * sz)) ∧ (∀ e ∈ es, e.length = sz) ∧ es.length = ps.length
  | [], k, es, cs, h, _, hs => by
    cases h
    refine ⟨cs, rfl, rfl, rfl, ?_, by simp, rfl⟩
    rw [qW (by simp at hs ⊢; omega)]
    exact .nil
  | (i, y) :: ps, k, es, cs, h, hr, hs => by
    simp only [elemsX] at h
    split at h
    · rename_i x l h1 h2
      split at h
      · rename_i e h3
        split at h
        · rename_i hc
          cases h
          obtain ⟨rfl, hel⟩ := hc
          have h4 := hr (i, y) (by simp)
          rw [h1] at h4
          have h4 : RepC c.μ c.β x (f y) := h4
          have h5 := untA_rep h3 h4.cells
          have hvs : (f y).cells.size = sz := by have := h5.1; simp at this; omega
          have hsz : i * sz + sz + ps.length * sz = cs.size := by
            rw [hs, show i + ((i, y) :: ps).length = i + 1 + ps.length by simp; omega, Nat.add_mul, Nat.add_mul]; omega
          have hsp := foldl_splice (f y).cells.toList 0 (i * sz) cs (by simp; omega)
          have hsl : ((f y).cells.zipIdx.foldl (fun cs (x : Value × Nat) => cs.setIfInBounds (i * sz + x.2) x.1) cs).toList = splice cs.toList (i * sz) (f y).cells.toList := by
            rw [← Array.foldl_toList, Array.toList_zipIdx, hsp]; rfl
          have hlen : ((f y).cells.zipIdx.foldl (fun cs (x : Value × Nat) => cs.setIfInBounds (i * sz + x.2) x.1) cs).size = cs.size := by
            rw [← Array.length_toList, hsl, splice_len (by simp; omega)]; simp
          obtain ⟨us, g1, g2, g3, g4, g5, g6⟩ := elems_fill (c := c) (f := f) (k := i + 1) (cs := (f y).cells.zipIdx.foldl (fun cs (x : Value × Nat) => cs.setIfInBounds (i * sz + x.2) x.1) cs) h2 (fun p hp => hr p (by simp [hp])) (by
            rw [hlen, hs]; congr 1; simp; omega)
          have hval : ∀ q, q < i * sz + sz → us.toList[q]? = if q < i * sz then cs.toList[q]? else (f y).cells.toList[q - i * sz]? := fun q hq => by
            have e1 : us.toList[q]? = (us.toList.take ((i + 1) * sz))[q]? := by rw [List.getElem?_take, if_pos (by rw [Nat.add_mul]; omega)]
            rw [e1, g3, List.getElem?_take, if_pos (by rw [Nat.add_mul]; omega), hsl, splice_get (by simp; omega)]
            split
            · rfl
            · rw [if_pos (by simp; omega)]
          refine ⟨us, ?_, by rw [g2, hlen], ?_, ?_, ?_, by simp [g6]⟩
          · simp only [qL, Instr.fill]
            rw [if_neg (by simp [hvs]; omega)]
            exact g1
          · apply List.ext_getElem?
            intro q
            rw [List.getElem?_take, List.getElem?_take]
            split
            · rename_i hq; rw [hval q (by omega), if_pos hq]
            · rfl
          · have e2 : us.toList.drop (i * sz) = (f y).cells.toList ++ us.toList.drop ((i + 1) * sz) := by
              apply List.ext_getElem?
              intro q
              rw [List.getElem?_drop]
              by_cases hq : q < sz
              · rw [hval _ (by omega), if_neg (by omega), List.getElem?_append_left (by simp; omega)]
                congr 1; omega
              · rw [List.getElem?_append_right (by simp; omega), List.getElem?_drop]
                congr 1
                simp [hvs, Nat.add_mul]; omega
            rw [e2, List.flatten_cons]
            exact h5.append g4
          · intro e' he'
            rcases jD.1 he' with rfl | he'
            · exact hel
            · exact g5 e' he'
        · cases h
      · cases h
    · cases h
end
end Go.Proofs.YtgnnjebfoffphaaGreatDoor.E
