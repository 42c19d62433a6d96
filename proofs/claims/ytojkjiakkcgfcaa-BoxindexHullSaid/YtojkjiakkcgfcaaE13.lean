/- append onto a row of the call's own. Plain theorems, for any program. -/
import Derived.Test.YtojkjiakkcgfcaaE12
namespace Go.Proofs.Ytojkjiakkcgfcaa.E
open Go.RowKit
set_option linter.unusedVariables false

section
variable {P : Program} {all : Array Oper} {o : Oper} {s s' : S} {K : S → Prop} {rest : List Oper}
theorem reps_t {μ : Mem} {β : Pos} {l : List T} {cs : List Value} (h : Reps (RepT μ) l cs) : Reps (RepA μ β) (l.map .t) cs := by
  refine ⟨by simpa using h.1, fun i x v h1 h2 => ?_⟩
  rw [List.getElem?_map] at h1
  cases h3 : l[i]? with
  | none => rw [h3] at h1; cases h1
  | some y => rw [h3] at h1; injection h1 with h1; subst h1; exact .t (h.2 i y v h3 h2)
theorem e_appR {x y : Operand} {t e : TypeId} {sz bytes k d n m : Nat} {cells : List A} {es' : List (List T)} {T' : Nat → X} {L : Nat → Option AO} {H : Heap} (hg : o.guard = none) (ho : o.op = .call { callee := .builtin .append, args := #[x, y], argTypes := #[t, t] }) (ty : elB P t e sz bytes = true) (hx : S.eval ⟨n, T', L, H⟩ x = .c (.a (.os k 0 m sz))) (hH : H k = some (.row e sz cells)) (hm : cells.length = m * sz) (hy : srcX (S.eval ⟨n, T', L, H⟩ y) = some (es', sz)) (hb : (m + es'.length) * bytes ≤ 140737488355328 ∧ m + es'.length ≤ 9223372036854775807) (hdst : o.dst = some d) (hd : Nat.blt d n = true)
    (hk : ∀ k', H k' = none → K ⟨n, upd T' d (.c (.a (.os k' 0 (m + es'.length) sz))), L, upd (upd H k none) k' (some (.row e sz (cells ++ es'.flatten.map .t)))⟩) : OpW P all o K ⟨n, T', L, H⟩ := by
  intro c a w g
  unfold opRun
  rw [if_pos (by simp [Region.wanted, hg])]
  refine wp_to ?_
  obtain ⟨i, zz, g1, g2, g3, g4, g5, g6, g7⟩ := elB_get ty
  have hsz : 0 < sz := by omega
  have ha := g.eval x
  rw [hx] at ha
  have hbr := src_rep (g.eval y) hy
  obtain ⟨ad, q, cp, hv, rfl, cs, hcl, hel, hr, hcs⟩ := src_cells (by omega) hbr
  have hcells : ∀ (j : Nat) (u : Value), cs[j]? = some u → ∃ b off, ad = some ⟨b, off, none⟩ ∧ w.cell? ⟨b, off + j, none⟩ = some u := fun j u hu => by
    obtain ⟨b, off, h, hc⟩ := hcs j u hu
    exact ⟨b, off, h, g.conc.mem _ _ _ hc⟩
  have hflat : es'.flatten.length = es'.length * sz := flat_length es' hel
  have fin : ∀ (v' : Value) (w' : World) (g0 cap : Nat) (cur : Array Value) (xs : List Value), (execOp a.eval o).run P w = .ok (.value v') w' → w'.os = w.os → w'.tape = w.tape → w'.output = w.output → w.heap.size ≤ w'.heap.size →
      (∀ b, b < w.heap.size → b ≠ g0 → w'.heap[b]? = w.heap[b]?) → (w.heap.size ≤ g0 ∨ ∃ y n, H k = some y ∧ ¬ y.empty ∧ c.β k = some (g0, n)) →
      v' = .slice (some ⟨g0, 0, none⟩) (m + es'.length) cap → 0 < m + es'.length → cap ≤ maxLen → w'.heap[g0]? = some (.cells cur e (0, 0)) → cur.size = cap * sz → cur.toList.take ((m + es'.length) * sz) = xs ++ cs →
      (∀ o, c.μ g0 o = none) → xs.length = m * sz → Reps (RepA c.μ c.β) cells xs →
      o.wp P a w (fun a' w' => ∃ s' c', K s' ∧ Sat c' s' a' w' ∧ Ext c (S.own ⟨n, T', L, H⟩) w c' s'.own w') (fun _ _ _ => False) := by
    intro v' w' g0 cap cur xs h1 h2 h3 h4 h5 h6 h7 hv' hpos hc2 hg0 hcs2 htake hno hxl hxs
    have hlen : (cells ++ es'.flatten.map A.t).length = (m + es'.length) * sz := by
      rw [List.length_append, List.length_map, hflat, hm, Nat.add_mul]
    have hO : ORep { c with μ := c.μ } w' (.row e sz (cells ++ es'.flatten.map .t)) g0 cap := by
      refine ⟨cur, hg0, hcs2, hc2, ?_, hno⟩
      rw [hlen, htake]
      exact hxs.append (reps_t hr)
    obtain ⟨k', q1, q2, q3, q4⟩ := Sat.turn (k := k) (μ' := c.μ) g h2 h3 h4 h5 h6 h7 (fun _ _ _ h => h) (fun _ _ _ h => .inl h) (fun b o u h => by
      by_cases hb : b = g0
      · subst hb; rw [hno o] at h; cases h
      · have h8 := g.conc.mem _ _ _ h
        have hlt := World.block_lt_of_cell? w _ h8
        unfold World.cell? at h8 ⊢
        rw [h6 b hlt hb]; exact h8) hO
    unfold Oper.wp
    rw [h1]
    refine ⟨_, ⟨_, _, _, _⟩, hk k' q1, ?_, q4⟩
    subst hv'
    have := q3.put (some d) (x := .c (.a (.os k' 0 (m + es'.length) sz))) (v := .slice (some ⟨g0, 0, none⟩) (m + es'.length) cap) (by simpa [inB] using inb hd) (RepA.os (upd_same _ _ _) hpos) (fun _ h => by cases h)
    rw [hdst]; exact this
  by_cases hne : m = 0
  · subst hne
    have hc0 : cells = [] := List.eq_nil_of_length_eq_zero (by simpa using hm)
    subst hc0
    obtain ⟨b0, hb0⟩ : ∃ b0, a.eval x = .slice b0 0 0 := by
      generalize a.eval x = v at ha
      cases ha with
      | os0 => exact ⟨_, rfl⟩
      | os _ h => omega
      | osub _ h => omega
    rcases app0_run (P := P) w ty o.type b0 ad es'.length cp cs hcl hcells (reps_one hr) (by simpa using hb.1) (by simpa using hb.2) with ⟨h0, hrun⟩ | ⟨h0, cap, w', hrun, hown, hgr⟩
    · have hes' : es' = [] := List.eq_nil_of_length_eq_zero h0
      subst hes'
      obtain ⟨k', q1, q3, q4⟩ := g.turn0 (k := k) (x := .row e sz ([] ++ (([] : List (List T)).flatten.map A.t))) (by simp [AO.empty])
      simp only [List.length_nil] at hrun
      have hrun' : (execOp a.eval o).run P w = .ok (.value (.slice b0 0 0)) w := by simp [execOp, ho, hb0, hv, resolve, invoke, builtin, hrun]
      unfold Oper.wp
      rw [hrun']
      refine ⟨_, c, hk k' q1, ?_, q4⟩
      have := q3.put (some d) (x := .c (.a (.os k' 0 (0 + ([] : List (List T)).length) sz))) (v := .slice b0 0 0) (by simpa [inB] using inb hd) RepA.os0 (fun _ h => by cases h)
      rw [hdst]; exact this
    · rcases hown.2 with ⟨h1, _⟩ | ⟨g1, cap1, cur, e1, _, k1, k2, k3, k4, k5⟩
      · cases h1
      · injection e1 with e1 _ e2; injection e1 with e1; injection e1 with e1; subst e1 e2
        refine fin (.slice (some ⟨w.heap.size, 0, none⟩) es'.length cap) w' w.heap.size cap cur [] (by simp [execOp, ho, hb0, hv, resolve, invoke, builtin, hrun]) hgr.os hgr.tape hgr.output hgr.size (fun b hb _ => hgr.block b hb (by simp)) (.inl (Nat.le_refl _)) (by simp) (by omega) k3 k1 k4 (by simpa using k5) (fun o => ?_) (by simp) .nil
        cases h : c.μ w.heap.size o with
        | none => rfl
        | some u => have := World.block_lt_of_cell? w _ (g.conc.mem _ o u h); simp at this
  · have hcne : cells ≠ [] := fun e => by rw [e] at hm; have := Nat.mul_pos (Nat.pos_of_ne_zero hne) hsz; simp at hm; omega
    have hnm : ¬ (AO.row e sz cells).empty := hcne
    generalize hax : a.eval x = v at ha
    cases ha with
    | os0 => exact absurd rfl hne
    | osub _ h => omega
    | @os _ _ _ b c0 hβ hpos =>
      obtain ⟨b1, n1, p1, us, u1, u2, u3, u4, u5⟩ := g.conc.obj (.e k) _ hH hnm
      have p1 : c.β k = some (b1, n1) := p1
      rw [hβ] at p1; injection p1 with p1; injection p1 with p1 p2; subst p1 p2
      have hxl : (us.toList.take cells.length).length = m * sz := by rw [← u4.1, hm]
      have hmc : m ≤ c0 := by
        have h9 : m * sz ≤ c0 * sz := by
          rw [← u2]
          have := hxl; simp at this; omega
        exact Nat.le_of_mul_le_mul_right h9 hsz
      have hown : w.ownsRow 0 e sz (.slice (some ⟨b, 0, none⟩) m c0) m (us.toList.take cells.length) := ⟨hxl, .inr ⟨b, c0, us, rfl, Nat.zero_le _, u1, hmc, u3, u2, by rw [hm]⟩⟩
      obtain ⟨v', w', h1, h2, h3, h5⟩ := app_run (P := P) w ty o.type _ _ _ hown ad es'.length cp cs hcl hcells (reps_one hr) hb.1 hb.2
      have hv' : v' ≠ .slice none 0 0 := fun e => by have := (h5.1 e).1; cases this
      rcases h2.2 with ⟨h4, _⟩ | ⟨g1, cap1, cur, rfl, _, k1, k2, k3, k4, k5⟩
      · exact absurd h4 hv'
      have gr : ((g1 = b ∧ w.grownBy w' (some b)) ∨ (g1 = w.heap.size ∧ w.grownBy w' none)) := by
        rcases h3 with ⟨h4, h6⟩ | ⟨h4, h6⟩
        · simp [Value.ownBlock] at h4 h6; exact .inl ⟨h4, h6⟩
        · simp [Value.ownBlock] at h4 h6; exact .inr ⟨h4, h6⟩
      have hrun : (execOp a.eval o).run P w = .ok (.value (.slice (some ⟨g1, 0, none⟩) (m + es'.length) cap1)) w' := by simp [execOp, ho, hax, hv, resolve, invoke, builtin, h1]
      rcases gr with ⟨rfl, q3⟩ | ⟨rfl, q3⟩
      · exact fin (.slice (some ⟨g1, 0, none⟩) (m + es'.length) cap1) w' g1 cap1 cur (us.toList.take cells.length) hrun q3.os q3.tape q3.output q3.size (fun b2 hb2 hb3 => q3.block b2 hb2 (by simpa using hb3)) (.inr ⟨_, _, hH, hnm, hβ⟩) rfl (by omega) k3 k1 k4 k5 u5 hxl u4
      · exact fin (.slice (some ⟨w.heap.size, 0, none⟩) (m + es'.length) cap1) w' w.heap.size cap1 cur (us.toList.take cells.length) hrun q3.os q3.tape q3.output q3.size (fun b2 hb2 hb3 => q3.block b2 hb2 (by simp)) (.inl (Nat.le_refl _)) rfl (by omega) k3 k1 k4 k5 (fun q => by
          cases h : c.μ w.heap.size q with
          | none => rfl
          | some u => have := World.block_lt_of_cell? w _ (g.conc.mem _ q u h); simp at this) hxl u4
/-! ### the steps -/
variable {x y : Operand} {t e : TypeId} {sz bytes k d n m : Nat} {z : Nz} {cells : List A} {es es' : List (List T)} {T' : Nat → X} {L : Nat → Option AO} {H H0 : Heap}
theorem upd_lt {α : Type} {f : Nat → Option α} {k k' : Nat} {x : α} (h : upd f k (some x) k' = none) : k' ≠ k ∧ f k' = none := by
  by_cases e : k' = k
  · subst e; rw [upd_same] at h; cases h
  · rw [upd_ne _ _ e] at h; exact ⟨e, h⟩
theorem SeqK.app (hg : o.guard = none) (ho : o.op = .call { callee := .builtin .append, args := #[x, y], argTypes := #[t, t] }) (ty : elB P t e sz bytes = true) (hx : S.eval ⟨n, T', L, H⟩ x = .c (.a (.ts k z sz es))) (hH : H k = some (.tip e sz es.length)) (hy : srcX (S.eval ⟨n, T', L, H⟩ y) = some (es', sz)) (hb : (es.length + es'.length) * bytes ≤ 140737488355328 ∧ es.length + es'.length ≤ 9223372036854775807) (hdst : o.dst = some d) (hd : Nat.blt d n = true)
    (hk : ∀ k', H k' = none → SeqK P all K rest ⟨n, upd T' d (.c (.a (.ts k' z sz (es ++ es')))), L, upd (upd H k none) k' (some (.tip e sz (es ++ es').length))⟩) : SeqK P all K (o :: rest) ⟨n, T', L, H⟩ := SeqK.any (e_app hg ho ty hx hH hy hb hdst hd hk)
theorem SeqK.app1 (hg : o.guard = none) (h0 : H0 k = none) (ho : o.op = .call { callee := .builtin .append, args := #[x, y], argTypes := #[t, t] }) (ty : elB P t e sz bytes = true) (hx : S.eval ⟨n, T', L, upd H0 k (some (.tip e sz es.length))⟩ x = .c (.a (.ts k z sz es))) (hy : srcX (S.eval ⟨n, T', L, upd H0 k (some (.tip e sz es.length))⟩ y) = some (es', sz)) (hb : (es.length + es'.length) * bytes ≤ 140737488355328 ∧ es.length + es'.length ≤ 9223372036854775807) (hdst : o.dst = some d) (hd : Nat.blt d n = true)
    (hk : ∀ k', H0 k' = none → SeqK P all K rest ⟨n, upd T' d (.c (.a (.ts k' z sz (es ++ es')))), L, upd H0 k' (some (.tip e sz (es ++ es').length))⟩) : SeqK P all K (o :: rest) ⟨n, T', L, upd H0 k (some (.tip e sz es.length))⟩ :=
  SeqK.app hg ho ty hx (upd_same _ _ _) hy hb hdst hd fun k' h' => by rw [upd_back h0]; exact hk k' (upd_lt h').2
theorem SeqK.appR (hg : o.guard = none) (ho : o.op = .call { callee := .builtin .append, args := #[x, y], argTypes := #[t, t] }) (ty : elB P t e sz bytes = true) (hx : S.eval ⟨n, T', L, H⟩ x = .c (.a (.os k 0 m sz))) (hH : H k = some (.row e sz cells)) (hm : cells.length = m * sz) (hy : srcX (S.eval ⟨n, T', L, H⟩ y) = some (es', sz)) (hb : (m + es'.length) * bytes ≤ 140737488355328 ∧ m + es'.length ≤ 9223372036854775807) (hdst : o.dst = some d) (hd : Nat.blt d n = true)
    (hk : ∀ k', H k' = none → SeqK P all K rest ⟨n, upd T' d (.c (.a (.os k' 0 (m + es'.length) sz))), L, upd (upd H k none) k' (some (.row e sz (cells ++ es'.flatten.map .t)))⟩) : SeqK P all K (o :: rest) ⟨n, T', L, H⟩ := SeqK.any (e_appR hg ho ty hx hH hm hy hb hdst hd hk)
theorem SeqK.appR1 (hg : o.guard = none) (h0 : H0 k = none) (ho : o.op = .call { callee := .builtin .append, args := #[x, y], argTypes := #[t, t] }) (ty : elB P t e sz bytes = true) (hx : S.eval ⟨n, T', L, upd H0 k (some (.row e sz cells))⟩ x = .c (.a (.os k 0 m sz))) (hm : cells.length = m * sz) (hy : srcX (S.eval ⟨n, T', L, upd H0 k (some (.row e sz cells))⟩ y) = some (es', sz)) (hb : (m + es'.length) * bytes ≤ 140737488355328 ∧ m + es'.length ≤ 9223372036854775807) (hdst : o.dst = some d) (hd : Nat.blt d n = true)
    (hk : ∀ k', H0 k' = none → SeqK P all K rest ⟨n, upd T' d (.c (.a (.os k' 0 (m + es'.length) sz))), L, upd H0 k' (some (.row e sz (cells ++ es'.flatten.map .t)))⟩) : SeqK P all K (o :: rest) ⟨n, T', L, upd H0 k (some (.row e sz cells))⟩ :=
  SeqK.appR hg ho ty hx (upd_same _ _ _) hm hy hb hdst hd fun k' h' => by rw [upd_back h0]; exact hk k' (upd_lt h').2
end
end Go.Proofs.Ytojkjiakkcgfcaa.E
