/- append onto a slice without elements, and append onto what that made, in whatever order. Plain theorems, for any program. -/
import Derived.Test.YtojkjiakkcgfcaaE27
namespace Go.Proofs.Ytojkjiakkcgfcaa.E
open Go.RowKit
set_option linter.unusedVariables false
section
variable {P : Program} {all : Array Oper} {o : Oper} {s : S}
theorem over_two' {s1 s : S} {d d2 : Nat} {x : AO} {y : X} : s1.over [.t d2, .b d] ((s.setOwn (.l d) x).put (some d2) y) = (s1.setOwn (.l d) x).put (some d2) y := by
  refine S.ext' rfl fun ℓ => ?_
  cases ℓ with
  | t i =>
    by_cases h : i = d2
    · subst h; simp [Same, S.over, S.setOwn, S.put, upd_same]
    · simp [Same, S.over, S.setOwn, S.put, upd_ne _ _ h, h]
  | b i =>
    by_cases h : i = d
    · subst h; simp [Same, S.over, S.setOwn, S.put, upd_same]
    · simp [Same, S.over, S.setOwn, S.put, upd_ne _ _ h, h]
  | h => simp [Same, S.over, S.setOwn, S.put]
theorem two_out' {s : S} {d d2 : Nat} {x : AO} {y : X} : ∀ ℓ, ℓ ∉ [Loc.t d2, Loc.b d] → Same ℓ ((s.setOwn (.l d) x).put (some d2) y) s := fun ℓ hℓ => by
  cases ℓ with
  | t i => have h : i ≠ d2 := fun e => hℓ (by simp [e])
           simp [Same, S.setOwn, S.put, upd_ne _ _ h]
  | b i => have h : i ≠ d := fun e => hℓ (by simp [e])
           simp [Same, S.setOwn, S.put, upd_ne _ _ h]
  | h => simp [Same, S.setOwn, S.put]
/-- of a variable of the call's own nothing is claimed any more; its cells, and new ones, may be common -/
theorem Sat.give {c : Ctx} {μ' : Mem} {s : S} {a : Act} {w w' : World} {d g n : Nat} {x : AO} (sat : Sat c s a w) (hx : x.empty) (hd : s.L d = none → False) (hos : w'.os = w.os) (ht : w'.tape = w.tape) (hout : w'.output = w.output) (hs : w.heap.size ≤ w'.heap.size)
    (hblk : ∀ b, b < w.heap.size → b ≠ g → w'.heap[b]? = w.heap[b]?) (hg : w.heap.size ≤ g ∨ ∃ y, s.L d = some y ∧ ¬ y.empty ∧ c.lam d = (g, n))
    (hμ : ∀ b o u, c.μ b o = some u → μ' b o = some u) (hnew : ∀ b o u, μ' b o = some u → c.μ b o = some u ∨ b = g) (hmem : ∀ b o u, μ' b o = some u → w'.cell? ⟨b, o, none⟩ = some u) :
    Sat { c with μ := μ' } (s.setOwn (.l d) x) a w' ∧ Ext c s.own w { c with μ := μ' } (s.setOwn (.l d) x).own w' := by
  have pos : ∀ j, ({ c with μ := μ' } : Ctx).pos j = c.pos j := fun j => by cases j <;> rfl
  have own' : ∀ j y, (s.setOwn (.l d) x).own j = some y → ¬ y.empty → j ≠ .l d ∧ s.own j = some y := fun j y h hy => by
    by_cases hj : j = .l d
    · subst hj; rw [setOwn_same] at h; injection h with h; subst h; exact absurd hx hy
    · rw [setOwn_ne _ _ hj] at h; exact ⟨hj, h⟩
  have away : ∀ j y b1 n1, j ≠ .l d → s.own j = some y → ¬ y.empty → c.pos j = some (b1, n1) → b1 ≠ g ∧ b1 < w.heap.size := fun j y b1 n1 hj h hy hp => by
    obtain ⟨b2, n2, h1, h2⟩ := sat.conc.obj j y h hy
    rw [hp] at h1; injection h1 with h1; injection h1 with h1; subst h1
    refine ⟨fun e => ?_, h2.lt⟩
    subst e
    rcases hg with hg | ⟨y', h3, h4, h5⟩
    · have := h2.lt; omega
    · exact hj (sat.conc.inj j (.l d) y y' b1 n1 n h h3 hy h4 hp (by show some (c.lam d) = _; rw [h5]))
  refine ⟨⟨⟨hmem, fun j y hj hy => ?_, fun j i y z b1 n1 n2 hj hi hy hz h1 h2 => ?_, ?_⟩, by rw [sat.size, (setOwn_t s _ x).2], fun j => ?_, sat.defers.blk fun D hD => hblk D (Array.getElem?_eq_some_iff.1 hD).1 fun e => ?_, fun j e h => ?_⟩, ⟨hos, ht, hout, hs, fun b hb hn => ?_, hμ, fun b o u h => ?_, fun _ _ h => h, fun j y b1 n1 hj hy h1 => ?_, rfl⟩⟩
  · obtain ⟨hne, hj'⟩ := own' j y hj hy
    obtain ⟨b1, n1, h1, h2⟩ := sat.conc.obj j y hj' hy
    obtain ⟨h3, h4⟩ := away j y b1 n1 hne hj' hy h1
    exact ⟨b1, n1, by rw [pos]; exact h1, h2.keep (hblk b1 h4 h3) hμ (fun o u h => (hnew b1 o u h).resolve_right h3) (fun _ _ h => h)⟩
  · exact sat.conc.inj j i y z b1 n1 n2 (own' j y hj hy).2 (own' i z hi hz).2 hy hz (by rw [← pos]; exact h1) (by rw [← pos]; exact h2)
  · obtain ⟨N, hN⟩ := sat.conc.fin
    exact ⟨N, fun k hk => ⟨(hN k hk).1, by rw [setOwn_ne _ _ (by simp)]; exact (hN k hk).2⟩⟩
  · rw [(setOwn_t s _ x).1]; exact RepX.mono (c := c) (c' := { c with μ := μ' }) hμ (fun _ _ h => h) rfl (sat.tmps j)
  · subst e
    rcases hg with hg | ⟨y', h3, h4, h5⟩
    · have := (Array.getElem?_eq_some_iff.1 hD).1; omega
    · obtain ⟨b2, n2, h6, h7⟩ := sat.conc.obj (.l d) y' h3 h4
      have h6 : some (c.lam d) = some (b2, n2) := h6
      rw [h5] at h6; injection h6 with h6; injection h6 with h6; subst h6
      exact h7.nd hD
  · rw [(setOwn_t s _ x).1] at h
    have := sat.wf j e h
    simp only [S.setOwn]
    by_cases he : e = d
    · subst he; rw [upd_same]; simp
    · rw [upd_ne _ _ he]; exact this
  · by_cases hbg : b = g
    · subst hbg
      rcases hg with hg | ⟨y', h3, h4, h5⟩
      · omega
      · exact absurd (by show some (c.lam d) = _; rw [h5]) (hn (.l d) y' n h3 h4)
    · exact hblk b hb hbg
  · rcases hnew b o u h with h1 | rfl
    · exact .inl h1
    · rcases hg with hg | ⟨y', h3, h4, h5⟩
      · exact .inr (.inl hg)
      · exact .inr (.inr ⟨.l d, y', n, h3, h4, by show some (c.lam d) = _; rw [h5]⟩)
  · obtain ⟨hne, hj'⟩ := own' j y hj hy
    rw [pos] at h1
    exact .inr ⟨j, y, n1, hj', hy, h1⟩
/-- a variable of which nothing is claimed -/
theorem Sat.newL0 {c : Ctx} {s : S} {a : Act} {w : World} {d : Nat} {x : AO} (g : Sat c s a w) (hx : x.empty) : Sat c (s.setOwn (.l d) x) a w ∧ Ext c s.own w c (s.setOwn (.l d) x).own w := by
  have own' : ∀ j y, (s.setOwn (.l d) x).own j = some y → ¬ y.empty → s.own j = some y := fun j y h hy => by
    by_cases hj : j = .l d
    · subst hj; rw [setOwn_same] at h; injection h with h; subst h; exact absurd hx hy
    · rw [setOwn_ne _ _ hj] at h; exact h
  refine ⟨⟨⟨g.conc.mem, fun j y hj hy => g.conc.obj j y (own' j y hj hy) hy, fun j i y z b1 n1 n2 hj hi hy hz => g.conc.inj j i y z b1 n1 n2 (own' j y hj hy) (own' i z hi hz) hy hz, ?_⟩, by rw [g.size, (setOwn_t s _ x).2], fun j => by rw [(setOwn_t s _ x).1]; exact g.tmps j, g.defers, fun j e h => ?_⟩, ⟨rfl, rfl, rfl, Nat.le_refl _, fun _ _ _ => rfl, fun _ _ _ h => h, fun _ _ _ h => .inl h, fun _ _ h => h, fun j y b1 n1 hj hy h1 => .inr ⟨j, y, n1, own' j y hj hy, hy, h1⟩, rfl⟩⟩
  · obtain ⟨N, hN⟩ := g.conc.fin
    exact ⟨N, fun k hk => ⟨(hN k hk).1, by rw [setOwn_ne _ _ (by simp)]; exact (hN k hk).2⟩⟩
  · rw [(setOwn_t s _ x).1] at h
    have := g.wf j e h
    simp only [S.setOwn]
    by_cases he : e = d
    · subst he; rw [upd_same]; simp
    · rw [upd_ne _ _ he]; exact this
/-- append onto a slice without elements: what it makes is a variable of the call's own -/
theorem l_app0 {x y : Operand} {t e : TypeId} {k sz bytes d : Nat} {z : Nz} {es : List (List T)} (ho : o.op = .call { callee := .builtin .append, args := #[x, y], argTypes := #[t, t] }) (ty : elB P t e sz bytes = true) (hx : s.eval x = .c (.a (.ts k z sz []))) (hy : srcX (s.eval y) = some (es, sz)) (hb : es.length * bytes ≤ 140737488355328 ∧ es.length ≤ 9223372036854775807)
    (hdst : o.dst = some d) (hL : s.L d = none) (hd : inB o.dst s.n = true) :
    LR P o (.b d :: lk o) [.t d, .b d] s ((s.setOwn (.l d) (.tip e sz es.length)).put (some d) (.lts d z sz es)) := by
  refine ⟨(setOwn_t s (.l d) (.tip e sz es.length)).2, new_out, fun s1 hl hs c a w g => ?_⟩
  rw [over_new]
  have hL1 : s1.L d = none := Eq.trans (hs (.b d) (by simp)) hL
  have ev : ∀ u, u ∈ o.op.operands → s1.eval u = s.eval u := fun u hu => evs hs (fun _ h => List.mem_cons_of_mem _ h) hu
  have hin : inB (some d) s1.n = true := by rw [hdst] at hd; have e : s1.n = s.n := hl; rw [e]; exact hd
  obtain ⟨i, zz, g1, g2, g3, g4, g5, g6, g7⟩ := elB_get ty
  have ha := g.eval x
  rw [ev x (by rw [ho]; simp [Op.operands, Call.operands]), hx] at ha
  have hbr := g.eval y
  rw [ev y (by rw [ho]; simp [Op.operands, Call.operands])] at hbr
  obtain ⟨ad, m, cp, hv, rfl, cs, hcl, hel, hr, hcs⟩ := src_cells (by omega) (src_rep hbr hy)
  obtain ⟨b0, hb0, hz⟩ : ∃ b0, a.eval x = .slice b0 0 0 ∧ ((z = .ne ∧ b0 = none) ∨ (z = .nn ∧ ∃ q, b0 = some q)) := by
    generalize a.eval x = v at ha
    cases ha with
    | ts0 => exact ⟨none, rfl, .inl ⟨rfl, rfl⟩⟩
    | tsE => exact ⟨some _, rfl, .inr ⟨rfl, _, rfl⟩⟩
    | ts hk hne => exact absurd rfl hne
  rcases app0_run (P := P) w ty o.type b0 ad es.length cp cs hcl (fun j u hu => by
    obtain ⟨b, off, h, hc⟩ := hcs j u hu
    exact ⟨b, off, h, g.conc.mem _ _ _ hc⟩) (reps_one hr) hb.1 hb.2 with ⟨h0, hrun⟩ | ⟨h0, cap, w', hrun, hown, hgr⟩
  · have he : es = [] := List.eq_nil_of_length_eq_zero h0
    subst he
    simp only [List.length_nil] at hrun
    have hrun' : (execOp a.eval o).run P w = .ok (.value (.slice b0 0 0)) w := by simp [execOp, ho, hb0, hv, resolve, invoke, builtin, hrun]
    unfold Oper.wp
    rw [hrun']
    simp only [Oper.upon, hdst]
    obtain ⟨q1, q2⟩ := g.newL0 (d := d) (x := .tip e sz ([] : List (List T)).length) rfl
    refine ⟨c, q1.put (some d) hin ?_ (fun d' e => by injection e with e; subst e; simp [S.setOwn, upd_same]), by rw [own_put]; exact q2⟩
    rcases hz with ⟨h1, rfl⟩ | ⟨h1, q, rfl⟩
    · exact .inl ⟨rfl, h1, rfl⟩
    · exact .inr (.inl ⟨rfl, h1, q, rfl⟩)
  · have hne : es ≠ [] := fun h => h0 (by rw [h]; rfl)
    obtain ⟨g0, cap1, cur, e1, k1, k2, k3, k4, k5⟩ := own_cells hown (by simp)
    injection e1 with e1 _ e2; injection e1 with e1; injection e1 with e1; subst e1 e2
    have hblk : ∀ b, b < w.heap.size → w'.heap[b]? = w.heap[b]? := fun b hb => hgr.block b hb (by simp)
    have mk := Mk.block (b := w.heap.size) (cs := cs) g.memOk hgr.os hgr.tape hgr.output hgr.size hblk (Nat.le_refl _) k5
    have hrun' : (execOp a.eval o).run P w = .ok (.value (.slice (some ⟨w.heap.size, 0, none⟩) es.length cap)) w' := by simp [execOp, ho, hb0, hv, resolve, invoke, builtin, hrun]
    unfold Oper.wp
    rw [hrun']
    simp only [Oper.upon, hdst]
    obtain ⟨q1, q2⟩ := g.newL (d := d) (x := .tip e sz es.length) (b := w.heap.size) (n := cap) mk hL1 (Nat.le_refl _) ⟨cur, k1, k2, k3, fun q hq => by
      cases hz : c.μ.add w.heap.size cs w.heap.size q with
      | none => exact hz
      | some u =>
        exfalso
        rcases Mem.add_new hz with h | ⟨_, h⟩
        · have := World.block_lt_of_cell? w _ (g.conc.mem _ q u h); simp at this
        · have := (List.getElem?_eq_some_iff.1 h).1
          omega⟩
    refine ⟨_, q1.put (some d) hin ?_ (fun d' e => by injection e with e; subst e; simp [S.setOwn, upd_same]), by rw [own_put]; exact q2⟩
    refine .inr (.inr ⟨hne, by simp [upd_same], ?_⟩)
    exact flat_sl hne k4 hel (hr.monoT mk.mem) fun j u hu => by rw [Nat.zero_add]; exact Mem.add_in hu
/-- append onto what an append made -/
theorem l_app {x y : Operand} {t e : TypeId} {sz bytes d d2 : Nat} {z : Nz} {es es' : List (List T)} (ho : o.op = .call { callee := .builtin .append, args := #[x, y], argTypes := #[t, t] }) (ty : elB P t e sz bytes = true) (hx : s.eval x = .lts d z sz es) (hL : s.L d = some (.tip e sz es.length)) (hy : srcX (s.eval y) = some (es', sz)) (hb : (es.length + es'.length) * bytes ≤ 140737488355328 ∧ es.length + es'.length ≤ 9223372036854775807)
    (hdst : o.dst = some d2) (hd : inB o.dst s.n = true) :
    LR P o (.b d :: lk o) [.t d2, .b d] s ((s.setOwn (.l d) (.tip e sz 0)).put (some d2) (.c (.a (.t (.sl z sz (es ++ es')))))) := by
  refine ⟨(setOwn_t s (.l d) (.tip e sz 0)).2, two_out', fun s1 hl hs c a w g => ?_⟩
  rw [over_two']
  have hL1 : s1.L d = some (.tip e sz es.length) := Eq.trans (hs (.b d) (by simp)) hL
  have ev : ∀ u, u ∈ o.op.operands → s1.eval u = s.eval u := fun u hu => evs hs (fun _ h => List.mem_cons_of_mem _ h) hu
  have hin : inB (some d2) s1.n = true := by rw [hdst] at hd; have e : s1.n = s.n := hl; rw [e]; exact hd
  obtain ⟨i, zz, g1, g2, g3, g4, g5, g6, g7⟩ := elB_get ty
  have ha := g.eval x
  rw [ev x (by rw [ho]; simp [Op.operands, Call.operands]), hx] at ha
  have hbr := g.eval y
  rw [ev y (by rw [ho]; simp [Op.operands, Call.operands])] at hbr
  obtain ⟨ad, m, cp, hv, rfl, cs, hcl, hel, hr, hcs⟩ := src_cells (by omega) (src_rep hbr hy)
  have hcells : ∀ (j : Nat) (u : Value), cs[j]? = some u → ∃ b off, ad = some ⟨b, off, none⟩ ∧ w.cell? ⟨b, off + j, none⟩ = some u := fun j u hu => by
    obtain ⟨b, off, h, hc⟩ := hcs j u hu
    exact ⟨b, off, h, g.conc.mem _ _ _ hc⟩
  -- once the new value is known
  have fin : ∀ (w' : World) (g0 cap : Nat) (xs : List Value), (execOp a.eval o).run P w = .ok (.value (.slice (some ⟨g0, 0, none⟩) (es ++ es').length cap)) w' → w'.os = w.os → w'.tape = w.tape → w'.output = w.output → w.heap.size ≤ w'.heap.size →
      (∀ b, b < w.heap.size → b ≠ g0 → w'.heap[b]? = w.heap[b]?) → (w.heap.size ≤ g0 ∨ ∃ y, s1.L d = some y ∧ ¬ y.empty ∧ c.lam d = (g0, (c.lam d).2)) →
      es ++ es' ≠ [] → (es ++ es').length ≤ cap → (∀ (j : Nat) (u : Value), (xs ++ cs)[j]? = some u → w'.cell? ⟨g0, j, none⟩ = some u) → (∀ o u, c.μ g0 o = some u → xs[o]? = some u) → (∀ e ∈ es, e.length = sz) → Reps (RepT c.μ) es.flatten xs →
      o.wp P a w (fun a' w' => ∃ c', Sat c' ((s1.setOwn (.l d) (.tip e sz 0)).put (some d2) (.c (.a (.t (.sl z sz (es ++ es')))))) a' w' ∧ Ext c s1.own w c' ((s1.setOwn (.l d) (.tip e sz 0)).put (some d2) (.c (.a (.t (.sl z sz (es ++ es')))))).own w') (fun _ _ _ => False) := by
    intro w' g0 cap xs h1 h2 h3 h4 h5 h6 h7 hne hc1 hcell hold hlen hxs
    have hext : ∀ b o u, c.μ b o = some u → c.μ.add g0 (xs ++ cs) b o = some u := Mem.add_ext fun o u h hlt => by
      have := hold o u h
      rw [List.getElem?_append_left (List.getElem?_eq_some_iff.1 this).1]; exact this
    have hmem : ∀ b o u, c.μ.add g0 (xs ++ cs) b o = some u → w'.cell? ⟨b, o, none⟩ = some u := fun b o u hq => by
      rcases Mem.add_new hq with h8 | ⟨hbg, h8⟩
      · by_cases hb : b = g0
        · rw [hb] at h8 ⊢
          refine hcell o u ?_
          have := hold o u h8
          rw [List.getElem?_append_left (List.getElem?_eq_some_iff.1 this).1]; exact this
        · have h8 := g.conc.mem _ _ _ h8
          have hlt := World.block_lt_of_cell? w _ h8
          unfold World.cell? at h8 ⊢
          rw [h6 b hlt hb]; exact h8
      · rw [hbg]; exact hcell o u h8
    obtain ⟨q3, q4⟩ := g.give (d := d) (x := .tip e sz 0) (n := (c.lam d).2) rfl (fun h => by rw [hL1] at h; cases h) h2 h3 h4 h5 h6 h7 hext (fun b o u h => (Mem.add_new h).imp id (·.1)) hmem
    unfold Oper.wp
    rw [h1]
    simp only [Oper.upon, hdst]
    refine ⟨_, q3.put (some d2) hin ?_ (fun _ h => by cases h), by rw [own_put]; exact q4⟩
    refine .t (flat_sl hne hc1 (fun e he => (List.mem_append.1 he).elim (hlen e) (hel e)) ?_ fun j u hu => by rw [Nat.zero_add]; exact Mem.add_in hu)
    rw [List.flatten_append]
    exact (hxs.monoT hext).append (hr.monoT hext)
  -- nothing was there
  have none0 : ∀ b0, es = [] → a.eval x = .slice b0 0 0 → RepT c.μ (.sl z sz []) (.slice b0 0 0) → o.wp P a w (fun a' w' => ∃ c', Sat c' ((s1.setOwn (.l d) (.tip e sz 0)).put (some d2) (.c (.a (.t (.sl z sz (es ++ es')))))) a' w' ∧ Ext c s1.own w c' ((s1.setOwn (.l d) (.tip e sz 0)).put (some d2) (.c (.a (.t (.sl z sz (es ++ es')))))).own w') (fun _ _ _ => False) := by
    intro b0 he hb0 hz
    subst he
    rcases app0_run (P := P) w ty o.type b0 ad es'.length cp cs hcl hcells (reps_one hr) (by simpa using hb.1) (by simpa using hb.2) with ⟨h0, hrun⟩ | ⟨h0, cap, w', hrun, hown, hgr⟩
    · have hes' : es' = [] := List.eq_nil_of_length_eq_zero h0
      subst hes'
      simp only [List.length_nil] at hrun
      have hrun' : (execOp a.eval o).run P w = .ok (.value (.slice b0 0 0)) w := by simp [execOp, ho, hb0, hv, resolve, invoke, builtin, hrun]
      unfold Oper.wp
      rw [hrun']
      simp only [Oper.upon, hdst]
      obtain ⟨q1, q2⟩ := g.newL0 (d := d) (x := .tip e sz 0) rfl
      exact ⟨c, q1.put (some d2) hin (.t (by rw [List.append_nil]; exact hz)) (fun _ h => by cases h), by rw [own_put]; exact q2⟩
    · have hne' : es' ≠ [] := fun h => h0 (by rw [h]; rfl)
      obtain ⟨g1, cap1, cur, e1, k1, k2, k3, k4, k5⟩ := own_cells hown (by simp)
      injection e1 with e1 _ e2; injection e1 with e1; injection e1 with e1; subst e1 e2
      refine fin w' w.heap.size cap [] (by simp [execOp, ho, hb0, hv, resolve, invoke, builtin, hrun]) hgr.os hgr.tape hgr.output hgr.size (fun b hb _ => hgr.block b hb (by simp)) (.inl (Nat.le_refl _)) (by simpa using hne') (by simpa using k4) (by simpa using k5) (fun o u h => ?_) (by simp) .nil
      have := World.block_lt_of_cell? w _ (g.conc.mem _ o u h); simp at this
  rcases ha with ⟨he, hz, hv0⟩ | ⟨he, hz, q, hv0⟩ | ⟨hne, hax, h⟩
  · exact none0 none he hv0 (.nil (by rw [hz]; simp))
  · exact none0 (some q) he hv0 (.emp (by rw [hz]; simp))
  · rw [hax] at h
    obtain ⟨b', off, c', xs, e1, hc, hlen, hxs, hcx⟩ := sl_flat h hne (by omega)
    injection e1 with e1 e2 e3; injection e1 with e1; injection e1 with e1 e4; subst e4 e3
    have hnm : ¬ (AO.tip e sz es.length).empty := fun h => hne (List.eq_nil_of_length_eq_zero h)
    obtain ⟨b1, n1, p1, us, u1, u2, u3, u4⟩ := g.conc.obj (.l d) _ hL1 hnm
    have p1 : some (c.lam d) = some (b1, n1) := p1
    injection p1 with p1
    have hxl : xs.length = es.length * sz := by rw [← hxs.1, flat_length es hlen]
    rw [p1] at e1 hax hc
    simp only at e1 hax hc
    subst e1
    have hcw : ∀ (j : Nat) (u : Value), xs[j]? = some u → us.toList[j]? = some u := fun j u hu => by
      have := g.conc.mem _ _ _ (hcx j u hu)
      simpa [World.cell?, u1] using this
    have hown : w.ownsRow 0 e sz (.slice (some ⟨b1, 0, none⟩) es.length n1) es.length xs := by
      refine ⟨hxl, .inr ⟨b1, n1, us, rfl, Nat.zero_le _, u1, hc, u3, u2, ?_⟩⟩
      apply List.ext_getElem?
      intro j
      rw [List.getElem?_take]
      split
      · rename_i hj
        rw [← hxl] at hj
        rw [List.getElem?_eq_getElem hj]
        exact hcw j _ (List.getElem?_eq_getElem hj)
      · rename_i hj
        rw [List.getElem?_eq_none (by omega)]
    obtain ⟨v', w', h1, h2, h3, h5⟩ := app_run (P := P) w ty o.type _ _ _ hown ad es'.length cp cs hcl hcells (reps_one hr) hb.1 hb.2
    have hv' : v' ≠ .slice none 0 0 := fun e => by have := (h5.1 e).1; cases this
    obtain ⟨g1, cap1, cur, rfl, k1, k2, k3, k4, k5⟩ := own_cells h2 hv'
    have gr : ((g1 = b1 ∧ w.grownBy w' (some b1)) ∨ (g1 = w.heap.size ∧ w.grownBy w' none)) := by
      rcases h3 with ⟨h4, h6⟩ | ⟨h4, h6⟩
      · simp [Value.ownBlock] at h4 h6; exact .inl ⟨h4, h6⟩
      · simp [Value.ownBlock] at h4 h6; exact .inr ⟨h4, h6⟩
    have holdb : ∀ q u, c.μ b1 q = some u → xs[q]? = some u := fun q u hq => by
      have hlt : q < es.length * sz := by
        rcases Nat.lt_or_ge q (es.length * sz) with h | h
        · exact h
        · rw [u4 q h] at hq; cases hq
      rw [← hxl] at hlt
      have := hcx q _ (List.getElem?_eq_getElem hlt)
      rw [Nat.zero_add, hq] at this
      rw [List.getElem?_eq_getElem hlt]; exact this.symm
    rcases gr with ⟨rfl, q3⟩ | ⟨rfl, q3⟩
    · exact fin w' g1 cap1 xs (by simp [execOp, ho, hax, hv, resolve, invoke, builtin, h1]) q3.os q3.tape q3.output q3.size (fun b2 hb2 hb3 => q3.block b2 hb2 (by simpa using hb3)) (.inr ⟨_, hL1, hnm, by rw [p1]⟩) (by simp [hne]) (by simpa using k4) k5 holdb hlen hxs
    · exact fin w' w.heap.size cap1 xs (by simp [execOp, ho, hax, hv, resolve, invoke, builtin, h1]) q3.os q3.tape q3.output q3.size (fun b2 hb2 hb3 => q3.block b2 hb2 (by simp)) (.inl (Nat.le_refl _)) (by simp [hne]) (by simpa using k4) k5 (fun q u hq => by
        have := World.block_lt_of_cell? w _ (g.conc.mem _ q u hq); simp at this) hlen hxs
end
section
variable {P : Program} {o : Oper} {n d : Nat} {t : Nat → X} {L : Nat → Option AO} {H : Heap}
theorem b_app0 {x y : Operand} {tt e : TypeId} {k sz bytes : Nat} {z : Nz} {es : List (List T)} (ho : o.op = .call { callee := .builtin .append, args := #[x, y], argTypes := #[tt, tt] }) (ty : elB P tt e sz bytes = true) (hx : S.eval ⟨n, t, L, H⟩ x = .c (.a (.ts k z sz []))) (hy : srcX (S.eval ⟨n, t, L, H⟩ y) = some (es, sz)) (hb : es.length * bytes ≤ 140737488355328 ∧ es.length ≤ 9223372036854775807)
    (hdst : o.dst = some d) (hL : L d = none) (hd : Nat.blt d n = true) :
    LR P o (.b d :: lk o) [.t d, .b d] ⟨n, t, L, H⟩ ⟨n, upd t d (.lts d z sz es), upd L d (some (.tip e sz es.length)), H⟩ := l_app0 ho ty hx hy hb hdst hL (inb' hdst hd)
theorem b_app {x y : Operand} {tt e : TypeId} {sz bytes b : Nat} {z : Nz} {es es' r : List (List T)} (ho : o.op = .call { callee := .builtin .append, args := #[x, y], argTypes := #[tt, tt] }) (ty : elB P tt e sz bytes = true) (hx : S.eval ⟨n, t, L, H⟩ x = .lts b z sz es) (hL : L b = some (.tip e sz es.length)) (hy : srcX (S.eval ⟨n, t, L, H⟩ y) = some (es', sz)) (hr : es ++ es' = r) (hb : r.length * bytes ≤ 140737488355328 ∧ r.length ≤ 9223372036854775807)
    (hdst : o.dst = some d) (hd : Nat.blt d n = true) :
    LR P o (.b b :: lk o) [.t d, .b b] ⟨n, t, L, H⟩ ⟨n, upd t d (.c (.a (.t (.sl z sz r)))), upd L b (some (.tip e sz 0)), H⟩ := by
  subst hr
  exact l_app ho ty hx hL hy (by rw [List.length_append] at hb; exact hb) hdst (inb' hdst hd)
theorem SeqK.xw {all : Array Oper} {K : S → Prop} {rest : List Oper} (i : Nat) {x y : X} (hi : t i = x) (h : XW x y) (k : SeqK P all K (o :: rest) ⟨n, upd t i y, L, H⟩) : SeqK P all K (o :: rest) ⟨n, t, L, H⟩ := OpW.wk (.xw i hi h) k
end
end Go.Proofs.Ytojkjiakkcgfcaa.E
