/- Rows that are read whole: appended to a new slice; is it nil; a new row out of an append onto nil. Plain theorems, for any program. -/
import Derived.Test.YtojkjiakkcgfcaaE28
namespace Go.Proofs.Ytojkjiakkcgfcaa.E
open Go.RowKit
set_option linter.unusedVariables false
section
variable {P : Program} {all : Array Oper} {o : Oper} {s : S} {K : S → Prop} {rest : List Oper} {n d : Nat} {t : Nat → X} {L : Nat → Option AO} {H : Heap}
/-- a row's cells, as a source -/
theorem row_src {c : Ctx} {w : World} {k sz m : Nat} {e : TypeId} {es : List (List T)} {v : Value} (hm : m = es.length) (h0 : 0 < sz) (hel : ∀ e ∈ es, e.length = sz) (hv : RepA c.μ c.β (.os k 0 m sz) v)
    (hrow : ¬ (AO.row e sz (es.flatten.map .t)).empty → ∃ b n, c.β k = some (b, n) ∧ ORep c w (.row e sz (es.flatten.map .t)) b n) :
    ∃ ad cp, v = .slice ad es.length cp ∧ ∃ cs : List Value, cs.length = es.length * sz ∧ Reps (RepT c.μ) es.flatten cs ∧ ∀ (j : Nat) (u : Value), cs[j]? = some u → ∃ b off, ad = some ⟨b, off, none⟩ ∧ w.cell? ⟨b, off + j, none⟩ = some u := by
  have hfl : es.flatten.length = es.length * sz := flat_length es hel
  cases hv with
  | os0 =>
    have he : es = [] := List.eq_nil_of_length_eq_zero hm.symm
    subst he
    exact ⟨_, _, rfl, [], by simp, .nil, fun j u h => by simp at h⟩
  | osub hk ho => omega
  | @os _ _ _ b cp hk hpos =>
    have hne : ¬ (AO.row e sz (es.flatten.map .t)).empty := fun h => by
      simp only [AO.empty] at h
      have := congrArg List.length h
      rw [List.length_map, hfl, ← hm] at this
      have h2 : 0 < m * sz := Nat.mul_pos hpos h0
      simp at this; omega
    obtain ⟨b', n', h1, us, h3, h4, h5, h6, h7⟩ := hrow hne
    rw [hk] at h1; injection h1 with h1; injection h1 with e1 e2; subst e1 e2
    subst hm
    refine ⟨_, _, rfl, us.toList.take (es.flatten.map A.t).length, ?_, ?_, fun j u hu => ⟨b, 0, rfl, ?_⟩⟩
    · rw [← h6.1, List.length_map, hfl]
    · refine ⟨by rw [← h6.1, List.length_map], fun i x u hx hu => ?_⟩
      have := h6.2 i (.t x) u (by rw [List.getElem?_map, hx]; rfl) hu
      cases this with | t h => exact h
    · rw [List.getElem?_take] at hu
      split at hu
      · unfold World.cell?; rw [h3]; simpa using hu
      · cases hu
/-- append of a row onto a slice without elements and without room -/
theorem h_app0R {x y : Operand} {tt e e' : TypeId} {k k2 m sz bytes : Nat} {z : Nz} {es : List (List T)} (ho : o.op = .call { callee := .builtin .append, args := #[x, y], argTypes := #[tt, tt] }) (ty : elB P tt e sz bytes = true) (hx : s.eval x = .c (.a (.ts k z sz []))) (hy : s.eval y = .c (.a (.os k2 0 m sz))) (hm : m = es.length) (hel : ∀ e ∈ es, e.length = sz) (hH : ¬ (AO.row e' sz (es.flatten.map .t)).empty → s.H k2 = some (.row e' sz (es.flatten.map .t))) (hb : es.length * bytes ≤ 140737488355328 ∧ es.length ≤ 9223372036854775807) (hd : inB o.dst s.n = true) :
    LR P o (.h :: lk o) (dstT o) s (s.put o.dst (.c (.a (.t (.sl z sz es))))) :=
  .q (pre := fun c w => ¬ (AO.row e' sz (es.flatten.map .t)).empty → ∃ b n, c.β k2 = some (b, n) ∧ ORep c w (.row e' sz (es.flatten.map .t)) b n) ⟨fun _ => nolp, fun c w a hm' hp hrep => by
    obtain ⟨i, zz, g1, g2, g3, g4, g5, g6, g7⟩ := elB_get ty
    have ha := hrep x (by rw [ho]; simp [Op.operands, Call.operands])
    rw [hx] at ha
    have hbr := hrep y (by rw [ho]; simp [Op.operands, Call.operands])
    rw [hy] at hbr
    obtain ⟨ad, cp, hv, cs, hcl, hr, hcs⟩ := row_src (e := e') hm (by omega) hel hbr hp
    obtain ⟨b0, hb0, hz⟩ : ∃ b0, a.eval x = .slice b0 0 0 ∧ RepT c.μ (.sl z sz []) (.slice b0 0 0) := by
      generalize a.eval x = v at ha
      cases ha with
      | ts0 => exact ⟨none, rfl, .nil (by simp)⟩
      | tsE => exact ⟨some _, rfl, .emp (by simp)⟩
      | ts hk hne => exact absurd rfl hne
    rcases app0_run (P := P) w ty o.type b0 ad es.length cp cs hcl hcs (reps_one hr) hb.1 hb.2 with ⟨h0, hrun⟩ | ⟨h0, cap, w', hrun, hown, hgr⟩
    · have he : es = [] := List.eq_nil_of_length_eq_zero h0
      subst he
      simp only [List.length_nil] at hrun hv
      have hrun' : (execOp a.eval o).run P w = .ok (.value (.slice b0 0 0)) w := by simp [execOp, ho, hb0, hv, resolve, invoke, builtin, hrun]
      unfold Oper.wp
      rw [hrun']
      exact ⟨.slice b0 0 0, c, rfl, .t hz, .refl hm'⟩
    · have hne : es ≠ [] := fun h => h0 (by rw [h]; rfl)
      obtain ⟨g0, cap1, cur, e1, k1, k2, k3, k4, k5⟩ := own_cells hown (by simp)
      injection e1 with e1 _ e2; injection e1 with e1; injection e1 with e1; subst e1 e2
      have hblk : ∀ b, b < w.heap.size → w'.heap[b]? = w.heap[b]? := fun b hb => hgr.block b hb (by simp)
      have mk := Mk.block (b := w.heap.size) (cs := cs) hm' hgr.os hgr.tape hgr.output hgr.size hblk (Nat.le_refl _) k5
      have hrun' : (execOp a.eval o).run P w = .ok (.value (.slice (some ⟨w.heap.size, 0, none⟩) es.length cap)) w' := by simp [execOp, ho, hb0, hv, resolve, invoke, builtin, hrun]
      unfold Oper.wp
      rw [hrun']
      exact ⟨_, { c with μ := c.μ.add w.heap.size cs }, rfl, .t (flat_sl hne k4 hel (hr.monoT mk.mem) fun j u hu => by rw [Nat.zero_add]; exact Mem.add_in hu), mk⟩⟩
    (fun ℓ h => by simp [lk, h]) hd
    fun s1 hs c a w g hne => by
      have hb : s1.H k2 = some (.row e' sz (es.flatten.map .t)) := Eq.trans (congrFun (hs .h (by simp)) k2) (hH hne)
      exact g.conc.obj (.e k2) _ hb hne
theorem g_app0R {x y : Operand} {tt e e' : TypeId} {k k2 m sz bytes : Nat} {z : Nz} {es : List (List T)} (ho : o.op = .call { callee := .builtin .append, args := #[x, y], argTypes := #[tt, tt] }) (hdst : o.dst = some d) (ty : elB P tt e sz bytes = true) (hx : S.eval ⟨n, t, L, H⟩ x = .c (.a (.ts k z sz []))) (hy : S.eval ⟨n, t, L, H⟩ y = .c (.a (.os k2 0 m sz))) (hm : m = es.length) (hel : ∀ e ∈ es, e.length = sz) (hH : ¬ (AO.row e' sz (es.flatten.map .t)).empty → H k2 = some (.row e' sz (es.flatten.map .t))) (hb : es.length * bytes ≤ 140737488355328 ∧ es.length ≤ 9223372036854775807) (hd : Nat.blt d n = true) :
    LR P o (.h :: lk o) (dstT o) ⟨n, t, L, H⟩ ⟨n, upd t d (.c (.a (.t (.sl z sz es)))), L, H⟩ := by
  have := h_app0R (s := ⟨n, t, L, H⟩) ho ty hx hy hm hel hH hb (inb' hdst hd)
  rw [hdst] at this; exact this
/-- is a row nil? only memory knows -/
theorem SeqK.eqlNR {tt u : TypeId} {x y : Operand} {k off m sz : Nat} (ho : o.op = .binOp .eql tt x y u) (hg : o.guard = none) (hdst : o.dst = some d) (hd : Nat.blt d n = true) (hx : S.eval ⟨n, t, L, H⟩ x = .c (.a (.os k off m sz))) (hy : nilT (S.eval ⟨n, t, L, H⟩ y) = some (.sl, true)) (ty : nkB P tt .sl = true)
    (k : ∀ b, (b = true → m = 0) → SeqK P all K rest ⟨n, upd t d (bX b), L, H⟩) : SeqK P all K (o :: rest) ⟨n, t, L, H⟩ := by
  intro c a w g
  unfold opRun
  rw [if_pos (by simp [Region.wanted, hg])]
  have ha := g.eval x
  rw [hx] at ha
  have hb := nilT_rep (g.eval y) hy
  obtain ⟨b, hv, he⟩ : ∃ b, NV .sl b (a.eval x) ∧ (b = true → m = 0) := by
    generalize a.eval x = v at ha
    cases ha with
    | @os0 _ _ _ ad =>
      cases ad with
      | none => exact ⟨true, ⟨_, _, rfl⟩, fun _ => rfl⟩
      | some q => exact ⟨false, ⟨_, _, _, rfl⟩, fun h => by cases h⟩
    | os hk hp => exact ⟨false, ⟨_, _, _, rfl⟩, fun h => by cases h⟩
    | osub hk hp => exact ⟨false, ⟨_, _, _, rfl⟩, fun h => by cases h⟩
  have hrun : (execOp a.eval o).run P w = .ok (.value (.bool b)) w := by
    simp only [execOp, ho, Sem.run_bind, nil_guard hv, Result.andThen_ok, (nil_bin ty hv hb w).1]; rfl
  refine wp_to ?_
  unfold Oper.wp
  rw [hrun]
  refine ⟨_, c, k b he, ?_, .refl _ _ _⟩
  have := g.put (some d) (x := bX b) (v := .bool b) (by have h9 := inb' (o := o) hdst hd; rw [hdst] at h9; exact h9) (tv_rep rfl) (fun _ h => by cases h)
  rw [hdst]; exact this
/-- append onto nil: what it makes is a row of its own -/
theorem OpW.appNR {x y : Operand} {tt e : TypeId} {sz bytes : Nat} {es : List (List T)} (hg : o.guard = none) (ho : o.op = .call { callee := .builtin .append, args := #[x, y], argTypes := #[tt, tt] }) (ty : elB P tt e sz bytes = true) (hx : S.eval ⟨n, t, L, H⟩ x = tv (.slice none 0 0)) (hy : srcX (S.eval ⟨n, t, L, H⟩ y) = some (es, sz)) (hb : es.length * bytes ≤ 140737488355328 ∧ es.length ≤ 9223372036854775807) (hdst : o.dst = some d) (hd : Nat.blt d n = true)
    (hk : ∀ k', H k' = none → K ⟨n, upd t d (.c (.a (.os k' 0 es.length sz))), L, upd H k' (some (.row e sz (es.flatten.map .t)))⟩) : OpW P all o K ⟨n, t, L, H⟩ := by
  intro c a w g
  unfold opRun
  rw [if_pos (by simp [Region.wanted, hg])]
  obtain ⟨i, zz, g1, g2, g3, g4, g5, g6, g7⟩ := elB_get ty
  have ha : a.eval x = .slice none 0 0 := by have := g.eval x; rw [hx] at this; exact rep_tv this
  obtain ⟨ad, m, cp, hv, rfl, cs, hcl, hel, hr, hcs⟩ := src_cells (by omega) (src_rep (g.eval y) hy)
  rcases app0_run (P := P) w ty o.type none ad es.length cp cs hcl (fun j u hu => by
    obtain ⟨b, off, h, hc⟩ := hcs j u hu
    exact ⟨b, off, h, g.conc.mem _ _ _ hc⟩) (reps_one hr) hb.1 hb.2 with ⟨h0, hrun⟩ | ⟨h0, cap, w', hrun, hown, hgr⟩
  · have he : es = [] := List.eq_nil_of_length_eq_zero h0
    subst he
    simp only [List.length_nil] at hrun
    obtain ⟨k', q1, q3, q4⟩ := g.add0 (x := .row e sz (([] : List (List T)).flatten.map .t)) rfl
    have hrun' : (execOp a.eval o).run P w = .ok (.value (.slice none 0 0)) w := by simp [execOp, ho, ha, hv, resolve, invoke, builtin, hrun]
    refine wp_to ?_
    unfold Oper.wp
    rw [hrun']
    refine ⟨_, c, hk k' q1, ?_, q4⟩
    have := q3.put (some d) (x := .c (.a (.os k' 0 ([] : List (List T)).length sz))) (v := .slice none 0 0) (by simpa [inB] using inb hd) .os0 (fun _ h => by cases h)
    rw [hdst]; exact this
  · have hne : es ≠ [] := fun h => h0 (by rw [h]; rfl)
    obtain ⟨g0, cap1, cur, e1, k1, k2, k3, k4, k5⟩ := own_cells hown (by simp)
    injection e1 with e1 _ e2; injection e1 with e1; injection e1 with e1; subst e1 e2
    have hblk : ∀ b, b < w.heap.size → w'.heap[b]? = w.heap[b]? := fun b hb => hgr.block b hb (by simp)
    have hrun' : (execOp a.eval o).run P w = .ok (.value (.slice (some ⟨w.heap.size, 0, none⟩) es.length cap)) w' := by simp [execOp, ho, ha, hv, resolve, invoke, builtin, hrun]
    have mk := Mk.grew g.memOk hgr.os hgr.tape hgr.output hgr.size hblk
    have hfl : (es.flatten.map A.t).length = cs.length := by rw [List.length_map]; exact hr.1
    obtain ⟨k', q1, _, q3, q4⟩ := g.newE (x := .row e sz (es.flatten.map .t)) (b := w.heap.size) (n := cap) mk (Nat.le_refl _) ⟨cur, k1, k2, k3, ⟨by
      have hle : cs.length ≤ cur.size := by rw [k2, hcl]; exact Nat.mul_le_mul_right _ k4
      rw [List.length_take, hfl]; simp; omega, fun j q u hj hu => by
      rw [List.getElem?_take] at hu
      split at hu
      · rename_i hlt
        rw [hfl] at hlt
        have h8 := k5 j cs[j] (List.getElem?_eq_getElem hlt)
        unfold World.cell? at h8
        rw [k1] at h8
        have h9 : u = cs[j] := by simp at h8 hu; rw [h8] at hu; injection hu with hu; exact hu.symm
        rw [List.getElem?_map] at hj
        obtain ⟨q', hq', rfl⟩ := Option.map_eq_some_iff.1 hj
        rw [h9]
        exact .t (hr.2 j q' _ hq' (List.getElem?_eq_getElem hlt))
      · cases hu⟩, fun q => by
      cases hz : c.μ w.heap.size q with
      | none => rfl
      | some u => have := World.block_lt_of_cell? w _ (g.conc.mem _ q u hz); simp at this⟩
    refine wp_to ?_
    unfold Oper.wp
    rw [hrun']
    refine ⟨_, _, hk k' q1, ?_, q4⟩
    have := q3.put (some d) (x := .c (.a (.os k' 0 es.length sz))) (v := .slice (some ⟨w.heap.size, 0, none⟩) es.length cap) (by simpa [inB, S.setOwn] using inb hd) (.os (upd_same _ _ _) (by omega)) (fun _ h => by cases h)
    rw [hdst]; exact this
theorem SeqK.appNR {x y : Operand} {tt e : TypeId} {sz bytes : Nat} {es : List (List T)} (hg : o.guard = none) (ho : o.op = .call { callee := .builtin .append, args := #[x, y], argTypes := #[tt, tt] }) (ty : elB P tt e sz bytes = true) (hx : S.eval ⟨n, t, L, H⟩ x = tv (.slice none 0 0)) (hy : srcX (S.eval ⟨n, t, L, H⟩ y) = some (es, sz)) (hb : es.length * bytes ≤ 140737488355328 ∧ es.length ≤ 9223372036854775807) (hdst : o.dst = some d) (hd : Nat.blt d n = true)
    (hk : ∀ k', H k' = none → SeqK P all K rest ⟨n, upd t d (.c (.a (.os k' 0 es.length sz))), L, upd H k' (some (.row e sz (es.flatten.map .t)))⟩) : SeqK P all K (o :: rest) ⟨n, t, L, H⟩ := OpW.appNR hg ho ty hx hy hb hdst hd hk
end
end Go.Proofs.Ytojkjiakkcgfcaa.E
