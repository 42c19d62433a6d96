/- Rows of elements; a literal that will grow; a new row out of an append onto a literal without elements. Plain theorems, for any program. -/
import Derived.Test.YtojkjiakkcgfcaaE30
namespace Go.Proofs.Ytojkjiakkcgfcaa.E
open Go.RowKit
set_option linter.unusedVariables false
/-! ### a row as a list of elements -/
abbrev rowE {α : Type} (F : α → List T) (l : List α) : List A := (l.map F).flatten.map .t
section
variable {α : Type} {F : α → List T} {sz : Nat}
theorem rowE_len (hF : ∀ x, (F x).length = sz) (l : List α) : (rowE F l).length = l.length * sz := by
  rw [List.length_map, flat_length (sz := sz) _ (fun e he => by obtain ⟨x, _, rfl⟩ := List.mem_map.1 he; exact hF x), List.length_map]
theorem rowE_app (a b : List α) : rowE F (a ++ b) = rowE F a ++ rowE F b := by simp [rowE]
theorem rowE_cons (x : α) (l : List α) : rowE F (x :: l) = (F x).map .t ++ rowE F l := by simp [rowE]
theorem rowE_split {l : List α} {i : Nat} (hi : i < l.length) : rowE F l = rowE F (l.take i) ++ (F l[i]).map .t ++ rowE F (l.drop (i + 1)) := by
  conv => lhs; rw [← List.take_append_drop i l, List.drop_eq_getElem_cons hi]
  rw [rowE_app, rowE_cons, List.append_assoc]
theorem mid_ld {α : Type} {P M Q : List α} {p f m : Nat} (hP : P.length = p) (hf : f + m ≤ M.length) : ((P ++ M ++ Q).drop (p + f)).take m = (M.drop f).take m := by
  subst hP
  rw [List.append_assoc, List.drop_append, List.drop_eq_nil_of_le (by omega), List.nil_append, show P.length + f - P.length = f by omega, List.drop_append_of_le_length (by omega), List.take_append_of_le_length (by simp; omega)]
theorem mid_st {α : Type} {P M Q v : List α} {p f : Nat} (hP : P.length = p) (hf : f + v.length ≤ M.length) : splice (P ++ M ++ Q) (p + f) v = P ++ splice M f v ++ Q := by
  subst hP
  unfold splice
  have h1 : (P ++ M ++ Q).take (P.length + f) = P ++ M.take f := by
    rw [List.append_assoc, List.take_append, List.take_of_length_le (by omega), show P.length + f - P.length = f by omega, List.take_append_of_le_length (by omega)]
  have h2 : (P ++ M ++ Q).drop (P.length + f + v.length) = M.drop (f + v.length) ++ Q := by
    rw [List.append_assoc, List.drop_append, List.drop_eq_nil_of_le (by omega), List.nil_append, show P.length + f + v.length - P.length = f + v.length by omega, List.drop_append_of_le_length (by omega)]
  rw [h1, h2]; simp [List.append_assoc]
theorem rowE_take (hF : ∀ x, (F x).length = sz) {l : List α} {i : Nat} (hi : i < l.length) : (rowE F (l.take i)).length = 0 + i * sz := by
  rw [rowE_len hF, List.length_take, Nat.min_eq_left (by omega), Nat.zero_add]
/-- a whole element is read -/
theorem row_load (hF : ∀ x, (F x).length = sz) {l : List α} {i : Nat} (hi : i < l.length) : ((rowE F l).drop (0 + i * sz)).take sz = (F l[i]).map .t := by
  rw [rowE_split hi]
  have := mid_ld (M := (F l[i]).map A.t) (Q := rowE F (l.drop (i + 1))) (rowE_take hF hi) (f := 0) (m := sz) (by simp [hF])
  rw [Nat.add_zero] at this
  rw [this, List.drop_zero, List.take_of_length_le (by simp [hF])]
/-- a field is read -/
theorem row_ldf (hF : ∀ x, (F x).length = sz) {l : List α} {i f m : Nat} (hi : i < l.length) (hf : f + m ≤ sz) : ((rowE F l).drop (0 + i * sz + f)).take m = (((F l[i]).map .t).drop f).take m := by
  rw [rowE_split hi]
  exact mid_ld (rowE_take hF hi) (by simp [hF]; exact hf)
/-- a field, or a whole element, is written -/
theorem row_stf (hF : ∀ x, (F x).length = sz) {l : List α} {i f : Nat} {v : List A} (hi : i < l.length) (hf : f + v.length ≤ sz) (x : α) (hx : splice ((F l[i]).map .t) f v = (F x).map .t) : splice (rowE F l) (0 + i * sz + f) v = rowE F (l.set i x) := by
  have h1 : rowE F (l.set i x) = rowE F (l.take i) ++ (F x).map .t ++ rowE F (l.drop (i + 1)) := by
    rw [rowE_split (l := l.set i x) (i := i) (by simpa using hi)]
    simp [List.take_set_of_le, List.drop_set_of_lt]
  rw [h1, rowE_split hi, mid_st (rowE_take hF hi) (by simp [hF]; exact hf), hx]
theorem row_st (hF : ∀ x, (F x).length = sz) {l : List α} {i : Nat} (hi : i < l.length) (x : α) : splice (rowE F l) (0 + i * sz) ((F x).map .t) = rowE F (l.set i x) := by
  have := row_stf hF hi (f := 0) (v := (F x).map .t) (by simp [hF]) x (by
    unfold splice
    have e : ((F l[i]).map A.t).drop (0 + ((F x).map A.t).length) = [] := List.drop_eq_nil_of_le (by simp [hF])
    rw [e]; simp)
  rwa [Nat.add_zero] at this
theorem row_in (hF : ∀ x, (F x).length = sz) {l : List α} {i f m : Nat} (hi : i < l.length) (hf : f + m ≤ sz) : 0 + i * sz + f + m ≤ (rowE F l).length := by
  rw [rowE_len hF]
  have : (i + 1) * sz ≤ l.length * sz := Nat.mul_le_mul_right _ hi
  rw [Nat.add_mul] at this; omega
theorem row_in0 (hF : ∀ x, (F x).length = sz) {l : List α} {i : Nat} (hi : i < l.length) : 0 + i * sz + sz ≤ (rowE F l).length := by
  have := row_in hF hi (f := 0) (m := sz) (by omega)
  omega
theorem rowE_rep (x : α) (m : Nat) : (List.replicate m ((F x).map A.t)).flatten = rowE F (List.replicate m x) := by
  simp [rowE, List.map_flatten]
end
section
variable {P : Program} {all : Array Oper} {o : Oper} {s : S} {K : S → Prop} {rest : List Oper} {n d : Nat} {t : Nat → X} {L : Nat → Option AO} {H : Heap}
/-- a literal that will grow -/
theorem OpW.buildTip {tt e : TypeId} {m sz bytes : Nat} {parts : Array (Nat × Operand)} {es : List (List T)} (hg : o.guard = none) (ho : o.op = .buildSlice tt m parts) (ty : elB P tt e sz bytes = true) (hn : parts.size = m) (hm0 : m ≠ 0) (hsm : m * sz ≤ 16777216) (he : elemsX ⟨n, t, L, H⟩ sz 0 parts.toList = some es) (hdst : o.dst = some d) (hd : Nat.blt d n = true)
    (hk : ∀ k', H k' = none → K ⟨n, upd t d (.c (.a (.ts k' .nn sz es))), L, upd H k' (some (.tip e sz es.length))⟩) : OpW P all o K ⟨n, t, L, H⟩ := by
  intro c a w g
  unfold opRun
  rw [if_pos (by simp [Region.wanted, hg])]
  refine wp_to ?_
  obtain ⟨i, z, h1, h2, h3, h4, h5, h6, h7⟩ := elB_get ty
  have h7' : (parts.map fun (i, x) => (i, a.eval x)).toList = parts.toList.map fun p => (p.1, a.eval p.2) := by simp
  have hpos : 0 < m * sz := Nat.mul_pos (by omega) (by omega)
  have hlen : parts.toList.length = m := by simpa using hn
  obtain ⟨us, g1, g2, _, g4, g5, g6⟩ := elems_fill (s := ⟨n, t, L, H⟩) (c := c) (f := a.eval) (sz := sz) (ps := parts.toList) (k := 0) (cs := (Array.range (m * sz)).map (z.cells[· % z.cells.size]!)) he (fun p hp => g.eval p.2) (by simp [hn])
  have hrun := run_buildSlice (P := P) w tt e m (parts.map fun (i, x) => (i, a.eval x)) us i z h1 h2 h6 (by rw [h3]; omega) (by rw [h3]; omega) (by rw [h3, h7']; exact g1)
  have hus : us.toList.length = m * sz := by simp [g2]
  have hes : es ≠ [] := fun e => by subst e; simp at g6; omega
  have hrun' : (execOp a.eval o).run P w = .ok (.value (.slice (some ⟨w.heap.size, 0, none⟩) m m)) (w.alloc (.cells us e)) := by simp only [execOp, ho, Sem.run_bind, hrun]; rfl
  have mk : Mk c w { c with μ := c.μ.add w.heap.size us.toList } (w.alloc (.cells us e)) := Mk.block (w1 := w.alloc (.cells us e)) g.memOk rfl rfl rfl (by simp) (fun b hb => Below.heap_alloc w (.cells us e) b hb) (Nat.le_refl _) (fun o u hu => by rw [World.cell?_alloc_new]; simpa using hu)
  have hml : m ≤ m * sz := Nat.le_mul_of_pos_right _ (by omega)
  obtain ⟨k', q1, q2, q3, q4⟩ := g.newE (x := .tip e sz es.length) (b := w.heap.size) (n := m) mk (Nat.le_refl _) ⟨us, heap_new w _, by simpa using hus, by unfold maxLen; omega, fun q hq => by
    cases hz : c.μ.add w.heap.size us.toList w.heap.size q with
    | none => exact hz
    | some u =>
      exfalso
      rcases Mem.add_new hz with h | ⟨_, h⟩
      · have := World.block_lt_of_cell? w _ (g.conc.mem _ q u h); simp at this
      · have := (List.getElem?_eq_some_iff.1 h).1
        rw [hus] at this
        have h9 : m * sz ≤ q := by rw [g6, hlen] at hq; exact hq
        omega⟩
  unfold Oper.wp
  rw [hrun']
  refine ⟨_, _, hk k' q1, ?_, q4⟩
  have hrep : RepT (c.μ.add w.heap.size us.toList) (.sl .un sz es) (.slice (some ⟨w.heap.size, 0, none⟩) es.length m) := by
    simp only [Nat.zero_mul, List.drop_zero] at g4
    exact flat_sl (z := .un) (c := m) (b := w.heap.size) (off := 0) hes (by rw [g6, hlen]; omega) g5 (g4.monoT mk.mem) (fun j u hu => by rw [Nat.zero_add]; exact Mem.add_in hu)
  have := q3.put (some d) (x := .c (.a (.ts k' .nn sz es))) (v := .slice (some ⟨w.heap.size, 0, none⟩) es.length m) (decide_eq_true (inb hd)) (RepA.ts (upd_same _ _ _) hes rfl hrep) (fun _ h => by cases h)
  have e2 : Value.slice (some ⟨w.heap.size, 0, none⟩) es.length m = .slice (some ⟨w.heap.size, 0, none⟩) m m := by rw [g6, hlen]
  rw [e2] at this
  rw [hdst]; exact this
theorem SeqK.buildTip {tt e : TypeId} {m sz bytes : Nat} {parts : Array (Nat × Operand)} {es : List (List T)} (hg : o.guard = none) (ho : o.op = .buildSlice tt m parts) (ty : elB P tt e sz bytes = true) (hn : parts.size = m) (hm0 : m ≠ 0) (hsm : m * sz ≤ 16777216) (he : elemsX ⟨n, t, L, H⟩ sz 0 parts.toList = some es) (hdst : o.dst = some d) (hd : Nat.blt d n = true)
    (hk : ∀ k', H k' = none → SeqK P all K rest ⟨n, upd t d (.c (.a (.ts k' .nn sz es))), L, upd H k' (some (.tip e sz es.length))⟩) : SeqK P all K (o :: rest) ⟨n, t, L, H⟩ := OpW.buildTip hg ho ty hn hm0 hsm he hdst hd hk
/-- append onto a literal without elements: what it makes is a row of its own -/
theorem OpW.appZR {x y : Operand} {tt e : TypeId} {k sz bytes : Nat} {z : Nz} {es : List (List T)} (hg : o.guard = none) (ho : o.op = .call { callee := .builtin .append, args := #[x, y], argTypes := #[tt, tt] }) (ty : elB P tt e sz bytes = true) (hx : S.eval ⟨n, t, L, H⟩ x = .c (.a (.ts k z sz []))) (hy : srcX (S.eval ⟨n, t, L, H⟩ y) = some (es, sz)) (hb : es.length * bytes ≤ 140737488355328 ∧ es.length ≤ 9223372036854775807) (hdst : o.dst = some d) (hd : Nat.blt d n = true)
    (hk : ∀ k', H k' = none → K ⟨n, upd t d (.c (.a (.os k' 0 es.length sz))), L, upd H k' (some (.row e sz (es.flatten.map .t)))⟩) : OpW P all o K ⟨n, t, L, H⟩ := by
  intro c a w g
  unfold opRun
  rw [if_pos (by simp [Region.wanted, hg])]
  refine wp_to ?_
  obtain ⟨i, zz, g1, g2, g3, g4, g5, g6, g7⟩ := elB_get ty
  obtain ⟨b0, ha⟩ : ∃ b0, a.eval x = .slice b0 0 0 := by
    have ha := g.eval x
    rw [hx] at ha
    generalize a.eval x = v at ha
    cases ha with
    | ts0 => exact ⟨none, rfl⟩
    | tsE => exact ⟨some _, rfl⟩
    | ts hk hne => exact absurd rfl hne
  obtain ⟨ad, m, cp, hv, rfl, cs, hcl, hel, hr, hcs⟩ := src_cells (by omega) (src_rep (g.eval y) hy)
  rcases app0_run (P := P) w ty o.type b0 ad es.length cp cs hcl (fun j u hu => by
    obtain ⟨b, off, h, hc⟩ := hcs j u hu
    exact ⟨b, off, h, g.conc.mem _ _ _ hc⟩) (reps_one hr) hb.1 hb.2 with ⟨h0, hrun⟩ | ⟨h0, cap, w', hrun, hown, hgr⟩
  · have he : es = [] := List.eq_nil_of_length_eq_zero h0
    subst he
    simp only [List.length_nil] at hrun
    obtain ⟨k', q1, q3, q4⟩ := g.add0 (x := .row e sz (([] : List (List T)).flatten.map .t)) rfl
    have hrun' : (execOp a.eval o).run P w = .ok (.value (.slice b0 0 0)) w := by simp [execOp, ho, ha, hv, resolve, invoke, builtin, hrun]
    unfold Oper.wp
    rw [hrun']
    refine ⟨_, c, hk k' q1, ?_, q4⟩
    have := q3.put (some d) (x := .c (.a (.os k' 0 ([] : List (List T)).length sz))) (v := .slice b0 0 0) (decide_eq_true (inb hd)) .os0 (fun _ h => by cases h)
    rw [hdst]; exact this
  · have hne : es ≠ [] := fun h => h0 (by rw [h]; rfl)
    obtain ⟨g0, cap1, cur, e1, k1, k2, k3, k4, k5⟩ := own_cells hown (by simp)
    injection e1 with e1 _ e2; injection e1 with e1; injection e1 with e1; subst e1 e2
    have hblk : ∀ b, b < w.heap.size → w'.heap[b]? = w.heap[b]? := fun b hb => hgr.block b hb (by simp)
    have hrun' : (execOp a.eval o).run P w = .ok (.value (.slice (some ⟨w.heap.size, 0, none⟩) es.length cap)) w' := by simp [execOp, ho, ha, hv, resolve, invoke, builtin, hrun]
    have mk := Mk.grew g.memOk hgr.os hgr.tape hgr.output hgr.size hblk
    have hfl : (es.flatten.map A.t).length = cs.length := by rw [List.length_map]; exact hr.1
    obtain ⟨k', q1, _, q3, q4⟩ := g.newE (x := .row e sz (es.flatten.map .t)) (b := w.heap.size) (n := cap) mk (Nat.le_refl _) ⟨cur, k1, k2, k3, ⟨by
      have hle : cs.length ≤ cur.size := by rw [k2, hcl]; exact Nat.mul_le_mul_right _ k4
      rw [List.length_take, hfl]; simp; omega, fun j q u hj hu => by
      rw [List.getElem?_take] at hu
      split at hu
      · rename_i hlt
        rw [hfl] at hlt
        have h8 := k5 j cs[j] (List.getElem?_eq_getElem hlt)
        unfold World.cell? at h8
        rw [k1] at h8
        have h9 : u = cs[j] := by simp at h8 hu; rw [h8] at hu; injection hu with hu; exact hu.symm
        rw [List.getElem?_map] at hj
        obtain ⟨q', hq', rfl⟩ := Option.map_eq_some_iff.1 hj
        rw [h9]
        exact .t (hr.2 j q' _ hq' (List.getElem?_eq_getElem hlt))
      · cases hu⟩, fun q => by
      cases hz : c.μ w.heap.size q with
      | none => rfl
      | some u => have := World.block_lt_of_cell? w _ (g.conc.mem _ q u hz); simp at this⟩
    unfold Oper.wp
    rw [hrun']
    refine ⟨_, _, hk k' q1, ?_, q4⟩
    have := q3.put (some d) (x := .c (.a (.os k' 0 es.length sz))) (v := .slice (some ⟨w.heap.size, 0, none⟩) es.length cap) (decide_eq_true (inb hd)) (.os (upd_same _ _ _) (by omega)) (fun _ h => by cases h)
    rw [hdst]; exact this
theorem SeqK.appZR {x y : Operand} {tt e : TypeId} {k sz bytes : Nat} {z : Nz} {es : List (List T)} (hg : o.guard = none) (ho : o.op = .call { callee := .builtin .append, args := #[x, y], argTypes := #[tt, tt] }) (ty : elB P tt e sz bytes = true) (hx : S.eval ⟨n, t, L, H⟩ x = .c (.a (.ts k z sz []))) (hy : srcX (S.eval ⟨n, t, L, H⟩ y) = some (es, sz)) (hb : es.length * bytes ≤ 140737488355328 ∧ es.length ≤ 9223372036854775807) (hdst : o.dst = some d) (hd : Nat.blt d n = true)
    (hk : ∀ k', H k' = none → SeqK P all K rest ⟨n, upd t d (.c (.a (.os k' 0 es.length sz))), L, upd H k' (some (.row e sz (es.flatten.map .t)))⟩) : SeqK P all K (o :: rest) ⟨n, t, L, H⟩ := OpW.appZR hg ho ty hx hy hb hdst hd hk
end
end Go.Proofs.Ytojkjiakkcgfcaa.E
