/- Parts of the proof, one after the other: E29, E30, E31, E32, E33, E34, E35, E36, E37, E38, Fx, P1, Shelf, B1. No condition. -/
import Derived.Test.YtikcmjamioopbaaM2
import Derived.Laws.MakeOwn
import Derived.RangeFuncMany
import Derived.Test.YtikcmjamioopbaaProg
import Derived.Shelf.Small.Bits
import Derived.Shelf.Strconv.Itoa0
import Derived.Shelf.Slices.SearchI
import Derived.Shelf.SortM.Plain
import Derived.Shelf.SortM.SortNone
import Derived.IntWalk
import Derived.Laws.StructEq
import Derived.KernelRfl
/- Rows that are read whole: appended to a new slice; is it nil; a new row out of an append onto nil. Plain theorems, for any program. -/
namespace Go.Proofs.Ytikcmjamioopbaa.E
open Go.RowKit
set_option linter.unusedVariables false
section
variable {P : Program} {all : Array Oper} {o : Oper} {s : S} {K : S → Prop} {rest : List Oper} {n d : Nat} {t : Nat → X} {L : Nat → Option AO} {H : Heap}
/-- a row's cells, as a source -/
theorem row_src {c : Ctx} {w : World} {k sz m : Nat} {e : TypeId} {es : List (List T)} {v : Value} (hm : m = es.length) (h0 : 0 < sz) (hel : ∀ e ∈ es, e.length = sz) (hv : RepA c.μ c.β (.os k 0 m sz) v)
    (hrow : ¬ (AO.row e sz (es.flatten.map .t)).empty → ∃ b n, c.β k = some (b, n) ∧ ORep c w (.row e sz (es.flatten.map .t)) b n) :
    ∃ ad cp, v = .slice ad es.length cp ∧ ∃ cs : List Value, cs.length = es.length * sz ∧ Reps (RepT c.μ) es.flatten cs ∧ ∀ (j : Nat) (u : Value), cs[j]? = some u → ∃ b off, ad = some ⟨b, off, none⟩ ∧ w.cell? ⟨b, off + j, none⟩ = some u := by
  have hfl : es.flatten.length = es.length * sz := flat_length es hel
  cases hv with
  | os0 =>
    have he : es = [] := List.eq_nil_of_length_eq_zero hm.symm
    subst he
    exact ⟨_, _, rfl, [], by simp, .nil, fun j u h => by simp at h⟩
  | osub hk ho => omega
  | @os _ _ _ b cp hk hpos =>
    have hne : ¬ (AO.row e sz (es.flatten.map .t)).empty := fun h => by
      simp only [AO.empty] at h
      have := congrArg List.length h
      rw [List.length_map, hfl, ← hm] at this
      have h2 : 0 < m * sz := Nat.mul_pos hpos h0
      simp at this; omega
    obtain ⟨b', n', h1, us, h3, h4, h5, h6, h7⟩ := hrow hne
    rw [hk] at h1; injection h1 with h1; injection h1 with e1 e2; subst e1 e2
    subst hm
    refine ⟨_, _, rfl, us.toList.take (es.flatten.map A.t).length, ?_, ?_, fun j u hu => ⟨b, 0, rfl, ?_⟩⟩
    · rw [← h6.1, List.length_map, hfl]
    · refine ⟨by rw [← h6.1, List.length_map], fun i x u hx hu => ?_⟩
      have := h6.2 i (.t x) u (by rw [List.getElem?_map, hx]; rfl) hu
      cases this with | t h => exact h
    · rw [List.getElem?_take] at hu
      split at hu
      · unfold World.cell?; rw [h3]; simpa using hu
      · cases hu
/-- append of a row onto a slice without elements and without room -/
theorem h_app0R {x y : Operand} {tt e e' : TypeId} {k k2 m sz bytes : Nat} {z : Nz} {es : List (List T)} (ho : o.op = .call { callee := .builtin .append, args := #[x, y], argTypes := #[tt, tt] }) (ty : elB P tt e sz bytes = true) (hx : s.eval x = .c (.a (.ts k z sz []))) (hy : s.eval y = .c (.a (.os k2 0 m sz))) (hm : m = es.length) (hel : ∀ e ∈ es, e.length = sz) (hH : ¬ (AO.row e' sz (es.flatten.map .t)).empty → s.H k2 = some (.row e' sz (es.flatten.map .t))) (hb : es.length * bytes ≤ 140737488355328 ∧ es.length ≤ 9223372036854775807) (hd : inB o.dst s.n = true) :
    LR P o (.h :: lk o) (dstT o) s (s.put o.dst (.c (.a (.t (.sl z sz es))))) :=
  .q (pre := fun c w => ¬ (AO.row e' sz (es.flatten.map .t)).empty → ∃ b n, c.β k2 = some (b, n) ∧ ORep c w (.row e' sz (es.flatten.map .t)) b n) ⟨fun _ => nolp, fun c w a hm' hp hrep => by
    obtain ⟨i, zz, g1, g2, g3, g4, g5, g6, g7⟩ := elB_get ty
    have ha := hrep x (by rw [ho]; simp [Op.operands, Call.operands])
    rw [hx] at ha
    have hbr := hrep y (by rw [ho]; simp [Op.operands, Call.operands])
    rw [hy] at hbr
    obtain ⟨ad, cp, hv, cs, hcl, hr, hcs⟩ := row_src (e := e') hm (by omega) hel hbr hp
    obtain ⟨b0, hb0, hz⟩ : ∃ b0, a.eval x = .slice b0 0 0 ∧ RepT c.μ (.sl z sz []) (.slice b0 0 0) := by
      generalize a.eval x = v at ha
      cases ha with
      | ts0 => exact ⟨none, rfl, .nil (by simp)⟩
      | tsE => exact ⟨some _, rfl, .emp (by simp)⟩
      | ts hk hne => exact absurd rfl hne
    rcases app0_run (P := P) w ty o.type b0 ad es.length cp cs hcl hcs (reps_one hr) hb.1 hb.2 with ⟨h0, hrun⟩ | ⟨h0, cap, w', hrun, hown, hgr⟩
    · have he : es = [] := List.eq_nil_of_length_eq_zero h0
      subst he
      simp only [List.length_nil] at hrun hv
      have hrun' : (execOp a.eval o).run P w = .ok (.value (.slice b0 0 0)) w := by simp [execOp, ho, hb0, hv, resolve, invoke, builtin, hrun]
      unfold Oper.wp
      rw [hrun']
      exact ⟨.slice b0 0 0, c, rfl, .t hz, .refl hm'⟩
    · have hne : es ≠ [] := fun h => h0 (by rw [h]; rfl)
      obtain ⟨g0, cap1, cur, e1, k1, k2, k3, k4, k5⟩ := own_cells hown (by simp)
      injection e1 with e1 _ e2; injection e1 with e1; injection e1 with e1; subst e1 e2
      have hblk : ∀ b, b < w.heap.size → w'.heap[b]? = w.heap[b]? := fun b hb => hgr.block b hb (by simp)
      have mk := Mk.block (b := w.heap.size) (cs := cs) hm' hgr.os hgr.tape hgr.output hgr.size hblk (Nat.le_refl _) k5
      have hrun' : (execOp a.eval o).run P w = .ok (.value (.slice (some ⟨w.heap.size, 0, none⟩) es.length cap)) w' := by simp [execOp, ho, hb0, hv, resolve, invoke, builtin, hrun]
      unfold Oper.wp
      rw [hrun']
      exact ⟨_, { c with μ := c.μ.add w.heap.size cs }, rfl, .t (flat_sl hne k4 hel (hr.monoT mk.mem) fun j u hu => by rw [Nat.zero_add]; exact Mem.add_in hu), mk⟩⟩
    (fun ℓ h => by simp [lk, h]) hd
    fun s1 hs c a w g hne => by
      have hb : s1.H k2 = some (.row e' sz (es.flatten.map .t)) := Eq.trans (congrFun (hs .h (by simp)) k2) (hH hne)
      exact g.conc.obj (.e k2) _ hb hne
theorem g_app0R {x y : Operand} {tt e e' : TypeId} {k k2 m sz bytes : Nat} {z : Nz} {es : List (List T)} (ho : o.op = .call { callee := .builtin .append, args := #[x, y], argTypes := #[tt, tt] }) (hdst : o.dst = some d) (ty : elB P tt e sz bytes = true) (hx : S.eval ⟨n, t, L, H⟩ x = .c (.a (.ts k z sz []))) (hy : S.eval ⟨n, t, L, H⟩ y = .c (.a (.os k2 0 m sz))) (hm : m = es.length) (hel : ∀ e ∈ es, e.length = sz) (hH : ¬ (AO.row e' sz (es.flatten.map .t)).empty → H k2 = some (.row e' sz (es.flatten.map .t))) (hb : es.length * bytes ≤ 140737488355328 ∧ es.length ≤ 9223372036854775807) (hd : Nat.blt d n = true) :
    LR P o (.h :: lk o) (dstT o) ⟨n, t, L, H⟩ ⟨n, upd t d (.c (.a (.t (.sl z sz es)))), L, H⟩ := by
  have := h_app0R (s := ⟨n, t, L, H⟩) ho ty hx hy hm hel hH hb (inb' hdst hd)
  rw [hdst] at this; exact this
/-- is a row nil? only memory knows -/
theorem SeqK.eqlNR {tt u : TypeId} {x y : Operand} {k off m sz : Nat} (ho : o.op = .binOp .eql tt x y u) (hg : o.guard = none) (hdst : o.dst = some d) (hd : Nat.blt d n = true) (hx : S.eval ⟨n, t, L, H⟩ x = .c (.a (.os k off m sz))) (hy : nilT (S.eval ⟨n, t, L, H⟩ y) = some (.sl, true)) (ty : nkB P tt .sl = true)
    (k : ∀ b, (b = true → m = 0) → SeqK P all K rest ⟨n, upd t d (bX b), L, H⟩) : SeqK P all K (o :: rest) ⟨n, t, L, H⟩ := by
  intro c a w g
  unfold opRun
  rw [if_pos (by simp [Region.wanted, hg])]
  have ha := g.eval x
  rw [hx] at ha
  have hb := nilT_rep (g.eval y) hy
  obtain ⟨b, hv, he⟩ : ∃ b, NV .sl b (a.eval x) ∧ (b = true → m = 0) := by
    generalize a.eval x = v at ha
    cases ha with
    | @os0 _ _ _ ad =>
      cases ad with
      | none => exact ⟨true, ⟨_, _, rfl⟩, fun _ => rfl⟩
      | some q => exact ⟨false, ⟨_, _, _, rfl⟩, fun h => by cases h⟩
    | os hk hp => exact ⟨false, ⟨_, _, _, rfl⟩, fun h => by cases h⟩
    | osub hk hp => exact ⟨false, ⟨_, _, _, rfl⟩, fun h => by cases h⟩
  have hrun : (execOp a.eval o).run P w = .ok (.value (.bool b)) w := by
    simp only [execOp, ho, Sem.run_bind, nil_guard hv, Result.andThen_ok, (nil_bin ty hv hb w).1]; rfl
  refine wp_to ?_
  unfold Oper.wp
  rw [hrun]
  refine ⟨_, c, k b he, ?_, .refl _ _ _⟩
  have := g.put (some d) (x := bX b) (v := .bool b) (by have h9 := inb' (o := o) hdst hd; rw [hdst] at h9; exact h9) (tv_rep rfl) (fun _ h => by cases h)
  rw [hdst]; exact this
/-- append onto nil: what it makes is a row of its own -/
theorem OpW.appNR {x y : Operand} {tt e : TypeId} {sz bytes : Nat} {es : List (List T)} (hg : o.guard = none) (ho : o.op = .call { callee := .builtin .append, args := #[x, y], argTypes := #[tt, tt] }) (ty : elB P tt e sz bytes = true) (hx : S.eval ⟨n, t, L, H⟩ x = tv (.slice none 0 0)) (hy : srcX (S.eval ⟨n, t, L, H⟩ y) = some (es, sz)) (hb : es.length * bytes ≤ 140737488355328 ∧ es.length ≤ 9223372036854775807) (hdst : o.dst = some d) (hd : Nat.blt d n = true)
    (hk : ∀ k', H k' = none → K ⟨n, upd t d (.c (.a (.os k' 0 es.length sz))), L, upd H k' (some (.row e sz (es.flatten.map .t)))⟩) : OpW P all o K ⟨n, t, L, H⟩ := by
  intro c a w g
  unfold opRun
  rw [if_pos (by simp [Region.wanted, hg])]
  obtain ⟨i, zz, g1, g2, g3, g4, g5, g6, g7⟩ := elB_get ty
  have ha : a.eval x = .slice none 0 0 := by have := g.eval x; rw [hx] at this; exact rep_tv this
  obtain ⟨ad, m, cp, hv, rfl, cs, hcl, hel, hr, hcs⟩ := src_cells (by omega) (src_rep (g.eval y) hy)
  rcases app0_run (P := P) w ty o.type none ad es.length cp cs hcl (fun j u hu => by
    obtain ⟨b, off, h, hc⟩ := hcs j u hu
    exact ⟨b, off, h, g.conc.mem _ _ _ hc⟩) (reps_one hr) hb.1 hb.2 with ⟨h0, hrun⟩ | ⟨h0, cap, w', hrun, hown, hgr⟩
  · have he : es = [] := List.eq_nil_of_length_eq_zero h0
    subst he
    simp only [List.length_nil] at hrun
    obtain ⟨k', q1, q3, q4⟩ := g.add0 (x := .row e sz (([] : List (List T)).flatten.map .t)) rfl
    have hrun' : (execOp a.eval o).run P w = .ok (.value (.slice none 0 0)) w := by simp [execOp, ho, ha, hv, resolve, invoke, builtin, hrun]
    refine wp_to ?_
    unfold Oper.wp
    rw [hrun']
    refine ⟨_, c, hk k' q1, ?_, q4⟩
    have := q3.put (some d) (x := .c (.a (.os k' 0 ([] : List (List T)).length sz))) (v := .slice none 0 0) (by simpa [inB] using inb hd) .os0 (fun _ h => by cases h)
    rw [hdst]; exact this
  · have hne : es ≠ [] := fun h => h0 (by rw [h]; rfl)
    obtain ⟨g0, cap1, cur, e1, k1, k2, k3, k4, k5⟩ := own_cells hown (by simp)
    injection e1 with e1 _ e2; injection e1 with e1; injection e1 with e1; subst e1 e2
    have hblk : ∀ b, b < w.heap.size → w'.heap[b]? = w.heap[b]? := fun b hb => hgr.block b hb (by simp)
    have hrun' : (execOp a.eval o).run P w = .ok (.value (.slice (some ⟨w.heap.size, 0, none⟩) es.length cap)) w' := by simp [execOp, ho, ha, hv, resolve, invoke, builtin, hrun]
    have mk := Mk.grew g.memOk hgr.os hgr.tape hgr.output hgr.size hblk
    have hfl : (es.flatten.map A.t).length = cs.length := by rw [List.length_map]; exact hr.1
    obtain ⟨k', q1, _, q3, q4⟩ := g.newE (x := .row e sz (es.flatten.map .t)) (b := w.heap.size) (n := cap) mk (Nat.le_refl _) ⟨cur, k1, k2, k3, ⟨by
      have hle : cs.length ≤ cur.size := by rw [k2, hcl]; exact Nat.mul_le_mul_right _ k4
      rw [List.length_take, hfl]; simp; omega, fun j q u hj hu => by
      rw [List.getElem?_take] at hu
      split at hu
      · rename_i hlt
        rw [hfl] at hlt
        have h8 := k5 j cs[j] (List.getElem?_eq_getElem hlt)
        unfold World.cell? at h8
        rw [k1] at h8
        have h9 : u = cs[j] := by simp at h8 hu; rw [h8] at hu; injection hu with hu; exact hu.symm
        rw [List.getElem?_map] at hj
        obtain ⟨q', hq', rfl⟩ := Option.map_eq_some_iff.1 hj
        rw [h9]
        exact .t (hr.2 j q' _ hq' (List.getElem?_eq_getElem hlt))
      · cases hu⟩, fun q => by
      cases hz : c.μ w.heap.size q with
      | none => rfl
      | some u => have := World.block_lt_of_cell? w _ (g.conc.mem _ q u hz); simp at this⟩
    refine wp_to ?_
    unfold Oper.wp
    rw [hrun']
    refine ⟨_, _, hk k' q1, ?_, q4⟩
    have := q3.put (some d) (x := .c (.a (.os k' 0 es.length sz))) (v := .slice (some ⟨w.heap.size, 0, none⟩) es.length cap) (by simpa [inB, S.setOwn] using inb hd) (.os (upd_same _ _ _) (by omega)) (fun _ h => by cases h)
    rw [hdst]; exact this
theorem SeqK.appNR {x y : Operand} {tt e : TypeId} {sz bytes : Nat} {es : List (List T)} (hg : o.guard = none) (ho : o.op = .call { callee := .builtin .append, args := #[x, y], argTypes := #[tt, tt] }) (ty : elB P tt e sz bytes = true) (hx : S.eval ⟨n, t, L, H⟩ x = tv (.slice none 0 0)) (hy : srcX (S.eval ⟨n, t, L, H⟩ y) = some (es, sz)) (hb : es.length * bytes ≤ 140737488355328 ∧ es.length ≤ 9223372036854775807) (hdst : o.dst = some d) (hd : Nat.blt d n = true)
    (hk : ∀ k', H k' = none → SeqK P all K rest ⟨n, upd t d (.c (.a (.os k' 0 es.length sz))), L, upd H k' (some (.row e sz (es.flatten.map .t)))⟩) : SeqK P all K (o :: rest) ⟨n, t, L, H⟩ := OpW.appNR hg ho ty hx hy hb hdst hd hk
end
end Go.Proofs.Ytikcmjamioopbaa.E
/- make of a slice; calls through a function value. Plain theorems, for any program. -/
namespace Go.Proofs.Ytikcmjamioopbaa.E
open Go.RowKit
set_option linter.unusedVariables false
section
variable {P : Program} {all : Array Oper} {o : Oper} {s : S} {K : S → Prop} {rest : List Oper} {n d : Nat} {t : Nat → X} {L : Nat → Option AO} {H : Heap}
/-- the zero value of a type, as cells -/
def zcB (P : Program) (e : TypeId) (z : Value) : Prop := (P.info? e).bind (·.zero) = some z
theorem made_cells {z : Value} {m sz : Nat} (hz : z.cells.size = sz) (h0 : 0 < sz) : (madeCells z.cells (m * sz)).toList = (List.replicate m z.cells.toList).flatten := by
  apply List.ext_getElem?
  intro j
  have hl : (List.replicate m z.cells.toList).flatten.length = m * sz := by simp [hz]
  by_cases hj : j < m * sz
  · have hmod : j % sz < sz := Nat.mod_lt _ h0
    have hdiv : j / sz < m := (Nat.div_lt_iff_lt_mul h0).2 hj
    have e1 : (madeCells z.cells (m * sz)).toList[j]? = some (z.cells[j % sz]'(by omega)) := by
      simp [madeCells, hj, hz]
      rw [getElem!_pos _ _ (by omega)]
    have e2 : ∀ (m j : Nat), j < m * sz → (List.replicate m z.cells.toList).flatten[j]? = z.cells.toList[j % sz]? := by
      intro m
      induction m with
      | zero => intro j h; simp at h
      | succ m ih =>
        intro j h
        rw [List.replicate_succ, List.flatten_cons]
        by_cases hjs : j < sz
        · rw [List.getElem?_append_left (by simpa [hz] using hjs), Nat.mod_eq_of_lt hjs]
        · rw [List.getElem?_append_right (by simp [hz]; omega)]
          have hlen : z.cells.toList.length = sz := by simpa using hz
          rw [hlen, ih (j - sz) (by rw [Nat.add_mul] at h; omega)]
          rw [← Nat.mod_eq_sub_mod (by omega)]
    rw [e1, e2 m j hj]
    rw [List.getElem?_eq_getElem (by simpa [hz] using hmod)]
    simp
  · have h1 : (List.replicate m z.cells.toList).flatten[j]? = none := List.getElem?_eq_none (by rw [hl]; omega)
    have h2 : (madeCells z.cells (m * sz)).toList[j]? = none := List.getElem?_eq_none (by rw [Array.length_toList, size_madeCells]; omega)
    rw [h1, h2]
theorem OpW.make {tt e : TypeId} {x y : Operand} {k : IntKind} {m sz bytes : Nat} {z : Value} {zc : List A} (hg : o.guard = none) (ho : o.op = .makeSlice tt x y) (ty : elB P tt e sz bytes = true) (hz : zeroIs P e z) (h1 : z.cells.toList.all Value.oneCell' = true) (hzc : z.cells.toList.map litA = zc)
    (hx : S.eval ⟨n, t, L, H⟩ x = iX k (m : Int)) (hy : S.eval ⟨n, t, L, H⟩ y = iX k (m : Int)) (hb : m * bytes ≤ 140737488355328 ∧ m ≤ 9223372036854775807) (hdst : o.dst = some d) (hd : Nat.blt d n = true)
    (hk : ∀ k', H k' = none → K ⟨n, upd t d (.c (.a (.os k' 0 m sz))), L, upd H k' (some (.row e sz (List.replicate m zc).flatten))⟩) : OpW P all o K ⟨n, t, L, H⟩ := by
  intro c a w g
  unfold opRun
  rw [if_pos (by simp [Region.wanted, hg])]
  refine wp_to ?_
  obtain ⟨i, zz, g1, g2, g3, g4, g5, g6, g7⟩ := elB_get ty
  have hzz : z = zz := by unfold zeroIs at hz; rw [g2] at hz; simp at hz; rw [g6] at hz; injection hz with hz; exact hz.symm
  subst hzz
  have ha : a.eval x = .int k m := by have := g.eval x; rw [hx] at this; exact rep_tv this
  have hb' : a.eval y = .int k m := by have := g.eval y; rw [hy] at this; exact rep_tv this
  have hbt : (i.bytes : Int) * (m : Int) ≤ 281474976710656 := by
    have h : ((i.bytes * m : Nat) : Int) ≤ 281474976710656 := by rw [g5, Nat.mul_comm]; omega
    rwa [Int.natCast_mul] at h
  have hr := run_make (P := P) w tt e i z g1 g2 g6 k k m m (by omega) (Int.le_refl _) hbt (by omega)
  simp only [Int.toNat_natCast, g3] at hr
  have hrun : (execOp a.eval o).run P w = .ok (.value (.slice (some ⟨w.heap.size, 0, none⟩) m m)) (w.alloc (.cells (madeCells z.cells (m * sz)) e)) := by
    simp [execOp, ho, ha, hb', hr]
  have hmc : (madeCells z.cells (m * sz)).size = m * sz := by simp [madeCells]
  have hlist := made_cells (m := m) g7 (by omega)
  have hone : ∀ u ∈ (List.replicate m z.cells.toList).flatten, u.oneCell' = true := fun u hu => by
    obtain ⟨l, hl, hu⟩ := List.mem_flatten.1 hu
    have := (List.mem_replicate.1 hl).2
    subst this
    exact List.all_eq_true.1 h1 u hu
  have hcells : (List.replicate m zc).flatten = (List.replicate m z.cells.toList).flatten.map litA := by
    rw [← hzc, List.map_flatten, List.map_replicate]
  have mk := Mk.alloc (c := c) g.memOk (.cells (madeCells z.cells (m * sz)) e)
  obtain ⟨k', q1, q2, q3, q4⟩ := g.newE (x := .row e sz (List.replicate m zc).flatten) (b := w.heap.size) (n := m) mk (Nat.le_refl _) ⟨_, heap_new w _, hmc, by unfold maxLen; omega, by
      rw [hlist, hcells, List.length_map, List.take_length]
      exact lits _ (by rw [List.all_eq_true]; exact hone), fun q => by
      cases hz : c.μ w.heap.size q with
      | none => rfl
      | some u => have := World.block_lt_of_cell? w _ (g.conc.mem _ q u hz); simp at this⟩
  unfold Oper.wp
  rw [hrun]
  refine ⟨_, _, hk k' q1, ?_, q4⟩
  have := q3.put (some d) (x := .c (.a (.os k' 0 m sz))) (v := .slice (some ⟨w.heap.size, 0, none⟩) m m) (decide_eq_true (inb hd)) (by
    rcases Nat.eq_zero_or_pos m with h | h
    · subst h; exact .os0
    · exact .os (upd_same _ _ _) h) (fun _ h => by cases h)
  rw [hdst]; exact this
theorem SeqK.make {tt e : TypeId} {x y : Operand} {k : IntKind} {m sz bytes : Nat} {z : Value} {zc : List A} (hg : o.guard = none) (ho : o.op = .makeSlice tt x y) (ty : elB P tt e sz bytes = true) (hz : zeroIs P e z) (h1 : z.cells.toList.all Value.oneCell' = true) (hzc : z.cells.toList.map litA = zc)
    (hx : S.eval ⟨n, t, L, H⟩ x = iX k (m : Int)) (hy : S.eval ⟨n, t, L, H⟩ y = iX k (m : Int)) (hb : m * bytes ≤ 140737488355328 ∧ m ≤ 9223372036854775807) (hdst : o.dst = some d) (hd : Nat.blt d n = true)
    (hk : ∀ k', H k' = none → SeqK P all K rest ⟨n, upd t d (.c (.a (.os k' 0 m sz))), L, upd H k' (some (.row e sz (List.replicate m zc).flatten))⟩) : SeqK P all K (o :: rest) ⟨n, t, L, H⟩ := OpW.make hg ho ty hz h1 hzc hx hy hb hdst hd hk

/-! ### function values -/
def fnX : X → Option (FuncId × List A)
  | .c (.a (.fn f cs)) => some (f, cs)
  | .c (.a (.t (.v (.func (.func f) fs vs)))) => if fs.size = 0 ∧ vs.size = 0 then some (f, []) else none
  | _ => none
theorem fn_rep {c : Ctx} {x : X} {v : Value} {f : FuncId} {cs : List A} (h : RepX c x v) (hf : fnX x = some (f, cs)) : ∃ vs : Array Value, v = .func (.func f) #[] vs ∧ Reps (RepC c.μ c.β) (cs.map C.a) vs.toList := by
  unfold fnX at hf
  split at hf
  · cases hf
    have h : RepA c.μ c.β (.fn f cs) v := h
    cases h with
    | @fn _ _ vs u hv h9 =>
      refine ⟨vs, rfl, by rw [hv]; simp, fun i x v h1 h2 => ?_⟩
      rw [List.getElem?_map] at h1
      obtain ⟨y, hy, rfl⟩ := Option.map_eq_some_iff.1 h1
      have hi : i < cs.length := (List.getElem?_eq_some_iff.1 hy).1
      have : v = u i := by rw [hv, List.getElem?_map, List.getElem?_range hi] at h2; simpa using h2.symm
      subst this
      exact h9 i y hy
  · split at hf
    · rename_i fs vs hs
      cases hf
      have := rep_tv h
      subst this
      have e1 : fs = #[] := Array.eq_empty_of_size_eq_zero hs.1
      have e2 : vs = #[] := Array.eq_empty_of_size_eq_zero hs.2
      subst e1 e2
      exact ⟨#[], rfl, .nil⟩
    · cases hf
  · cases hf
theorem callV_wp {z : Operand} {f : FuncId} {cs : List A} {ys : Array Operand} {ts : Array TypeId} {args : List C} {Q : X → Heap → Prop} {c : Ctx} {a : Act} {w : World} (g : Sat c s a w) (ho : o.op = .call { callee := .value z, args := ys, argTypes := ts }) (hz : fnX (s.eval z) = some (f, cs)) (hf : fnB P f = true) (ha : argsX s ys.toList = some args) (h : Spec P f (args ++ cs.map C.a) s.H Q) (hl : ∀ x H', Q x H' → x.loc = none) (hd : inB o.dst s.n = true) :
    o.wp P a w (fun a' w' => ∃ x H' c', Q x H' ∧ Sat c' ((⟨s.n, s.t, s.L, H'⟩ : S).put o.dst x) a' w' ∧ Ext c s.own w c' ((⟨s.n, s.t, s.L, H'⟩ : S).put o.dst x).own w') (fun _ _ _ => False) := by
  have hr : Reps (RepC c.μ c.β) args (ys.map a.eval).toList := by
    have := args_rep (c := c) (f := a.eval) ha fun y _ => g.eval y
    simpa using this
  obtain ⟨vs, hv, hvs⟩ := fn_rep (g.eval z) hz
  have hc : Conc c (ownH s.H) w := g.conc.sub fun i x h => by cases i with
    | e k => exact h
    | l d => cases h
  have hcall := h c w (ys.map a.eval ++ vs) hc (by rw [Array.toList_append]; exact hr.append hvs)
  have hrun : (execOp a.eval o).run P w = .ok (.enter f (ys.map a.eval ++ vs)) w := by
    simp [execOp, ho, resolve, hv, Deferred.ofValue, invoke, enter_run hf]
  unfold Oper.wp
  rw [hrun, Oper.upon_enter]
  refine hcall.mono ?_
  rintro e w' ⟨v, y, H', c', rfl, hq, hrx, hc', hx'⟩
  obtain ⟨g', x'⟩ := g.call hc' hx'
  exact ⟨y, H', _, hq, g'.put o.dst hd (hrx.relam (hl y H' hq)) (fun d e => by rw [hl y H' hq] at e; cases e), by rw [own_put]; exact x'⟩
theorem OpW.callV {z : Operand} {f : FuncId} {cs : List A} {ys : Array Operand} {ts : Array TypeId} {args : List C} {Q : X → Heap → Prop} (ho : o.op = .call { callee := .value z, args := ys, argTypes := ts }) (hg : o.guard = none) (hdst : o.dst = some d) (hd : Nat.blt d n = true) (hz : fnX (S.eval ⟨n, t, L, H⟩ z) = some (f, cs)) (hf : fnB P f = true) (ha : argsX ⟨n, t, L, H⟩ ys.toList = some args) (h : Spec P f (args ++ cs.map C.a) H Q) (hl : ∀ x H', Q x H' → x.loc = none)
    (k : ∀ x H', Q x H' → K ⟨n, upd t d x, L, H'⟩) : OpW P all o K ⟨n, t, L, H⟩ := fun c a w g => by
  unfold opRun
  rw [if_pos (by simp [Region.wanted, hg])]
  refine wp_weak (callV_wp g ho hz hf ha h hl (inb' hdst hd)) ?_
  rintro a' w' ⟨x, H', c', hq, g', x'⟩
  rw [hdst] at g' x'
  exact ⟨_, c', k x H' hq, g', x'⟩
theorem SeqK.callV {z : Operand} {f : FuncId} {cs : List A} {ys : Array Operand} {ts : Array TypeId} {args : List C} {Q : X → Heap → Prop} (ho : o.op = .call { callee := .value z, args := ys, argTypes := ts }) (hg : o.guard = none) (hdst : o.dst = some d) (hd : Nat.blt d n = true) (hz : fnX (S.eval ⟨n, t, L, H⟩ z) = some (f, cs)) (hf : fnB P f = true) (ha : argsX ⟨n, t, L, H⟩ ys.toList = some args) (h : Spec P f (args ++ cs.map C.a) H Q) (hl : ∀ x H', Q x H' → x.loc = none)
    (k : ∀ x H', Q x H' → SeqK P all K rest ⟨n, upd t d x, L, H'⟩) : SeqK P all K (o :: rest) ⟨n, t, L, H⟩ := SeqK.any (OpW.callV ho hg hdst hd hz hf ha h hl k)
end
end Go.Proofs.Ytikcmjamioopbaa.E
/- Rows of elements; a literal that will grow; a new row out of an append onto a literal without elements. Plain theorems, for any program. -/
namespace Go.Proofs.Ytikcmjamioopbaa.E
open Go.RowKit
set_option linter.unusedVariables false
/-! ### a row as a list of elements -/
abbrev rowE {α : Type} (F : α → List T) (l : List α) : List A := (l.map F).flatten.map .t
section
variable {α : Type} {F : α → List T} {sz : Nat}
theorem rowE_len (hF : ∀ x, (F x).length = sz) (l : List α) : (rowE F l).length = l.length * sz := by
  rw [List.length_map, flat_length (sz := sz) _ (fun e he => by obtain ⟨x, _, rfl⟩ := List.mem_map.1 he; exact hF x), List.length_map]
theorem rowE_app (a b : List α) : rowE F (a ++ b) = rowE F a ++ rowE F b := by simp [rowE]
theorem rowE_cons (x : α) (l : List α) : rowE F (x :: l) = (F x).map .t ++ rowE F l := by simp [rowE]
theorem rowE_split {l : List α} {i : Nat} (hi : i < l.length) : rowE F l = rowE F (l.take i) ++ (F l[i]).map .t ++ rowE F (l.drop (i + 1)) := by
  conv => lhs; rw [← List.take_append_drop i l, List.drop_eq_getElem_cons hi]
  rw [rowE_app, rowE_cons, List.append_assoc]
theorem mid_ld {α : Type} {P M Q : List α} {p f m : Nat} (hP : P.length = p) (hf : f + m ≤ M.length) : ((P ++ M ++ Q).drop (p + f)).take m = (M.drop f).take m := by
  subst hP
  rw [List.append_assoc, List.drop_append, List.drop_eq_nil_of_le (by omega), List.nil_append, show P.length + f - P.length = f by omega, List.drop_append_of_le_length (by omega), List.take_append_of_le_length (by simp; omega)]
theorem mid_st {α : Type} {P M Q v : List α} {p f : Nat} (hP : P.length = p) (hf : f + v.length ≤ M.length) : splice (P ++ M ++ Q) (p + f) v = P ++ splice M f v ++ Q := by
  subst hP
  unfold splice
  have h1 : (P ++ M ++ Q).take (P.length + f) = P ++ M.take f := by
    rw [List.append_assoc, List.take_append, List.take_of_length_le (by omega), show P.length + f - P.length = f by omega, List.take_append_of_le_length (by omega)]
  have h2 : (P ++ M ++ Q).drop (P.length + f + v.length) = M.drop (f + v.length) ++ Q := by
    rw [List.append_assoc, List.drop_append, List.drop_eq_nil_of_le (by omega), List.nil_append, show P.length + f + v.length - P.length = f + v.length by omega, List.drop_append_of_le_length (by omega)]
  rw [h1, h2]; simp [List.append_assoc]
theorem rowE_take (hF : ∀ x, (F x).length = sz) {l : List α} {i : Nat} (hi : i < l.length) : (rowE F (l.take i)).length = 0 + i * sz := by
  rw [rowE_len hF, List.length_take, Nat.min_eq_left (by omega), Nat.zero_add]
/-- a whole element is read -/
theorem row_load (hF : ∀ x, (F x).length = sz) {l : List α} {i : Nat} (hi : i < l.length) : ((rowE F l).drop (0 + i * sz)).take sz = (F l[i]).map .t := by
  rw [rowE_split hi]
  have := mid_ld (M := (F l[i]).map A.t) (Q := rowE F (l.drop (i + 1))) (rowE_take hF hi) (f := 0) (m := sz) (by simp [hF])
  rw [Nat.add_zero] at this
  rw [this, List.drop_zero, List.take_of_length_le (by simp [hF])]
/-- a field is read -/
theorem row_ldf (hF : ∀ x, (F x).length = sz) {l : List α} {i f m : Nat} (hi : i < l.length) (hf : f + m ≤ sz) : ((rowE F l).drop (0 + i * sz + f)).take m = (((F l[i]).map .t).drop f).take m := by
  rw [rowE_split hi]
  exact mid_ld (rowE_take hF hi) (by simp [hF]; exact hf)
/-- a field, or a whole element, is written -/
theorem row_stf (hF : ∀ x, (F x).length = sz) {l : List α} {i f : Nat} {v : List A} (hi : i < l.length) (hf : f + v.length ≤ sz) (x : α) (hx : splice ((F l[i]).map .t) f v = (F x).map .t) : splice (rowE F l) (0 + i * sz + f) v = rowE F (l.set i x) := by
  have h1 : rowE F (l.set i x) = rowE F (l.take i) ++ (F x).map .t ++ rowE F (l.drop (i + 1)) := by
    rw [rowE_split (l := l.set i x) (i := i) (by simpa using hi)]
    simp [List.take_set_of_le, List.drop_set_of_lt]
  rw [h1, rowE_split hi, mid_st (rowE_take hF hi) (by simp [hF]; exact hf), hx]
theorem row_st (hF : ∀ x, (F x).length = sz) {l : List α} {i : Nat} (hi : i < l.length) (x : α) : splice (rowE F l) (0 + i * sz) ((F x).map .t) = rowE F (l.set i x) := by
  have := row_stf hF hi (f := 0) (v := (F x).map .t) (by simp [hF]) x (by
    unfold splice
    have e : ((F l[i]).map A.t).drop (0 + ((F x).map A.t).length) = [] := List.drop_eq_nil_of_le (by simp [hF])
    rw [e]; simp)
  rwa [Nat.add_zero] at this
theorem row_in (hF : ∀ x, (F x).length = sz) {l : List α} {i f m : Nat} (hi : i < l.length) (hf : f + m ≤ sz) : 0 + i * sz + f + m ≤ (rowE F l).length := by
  rw [rowE_len hF]
  have : (i + 1) * sz ≤ l.length * sz := Nat.mul_le_mul_right _ hi
  rw [Nat.add_mul] at this; omega
theorem row_in0 (hF : ∀ x, (F x).length = sz) {l : List α} {i : Nat} (hi : i < l.length) : 0 + i * sz + sz ≤ (rowE F l).length := by
  have := row_in hF hi (f := 0) (m := sz) (by omega)
  omega
theorem rowE_rep (x : α) (m : Nat) : (List.replicate m ((F x).map A.t)).flatten = rowE F (List.replicate m x) := by
  simp [rowE, List.map_flatten]
end
section
variable {P : Program} {all : Array Oper} {o : Oper} {s : S} {K : S → Prop} {rest : List Oper} {n d : Nat} {t : Nat → X} {L : Nat → Option AO} {H : Heap}
/-- a literal that will grow -/
theorem OpW.buildTip {tt e : TypeId} {m sz bytes : Nat} {parts : Array (Nat × Operand)} {es : List (List T)} (hg : o.guard = none) (ho : o.op = .buildSlice tt m parts) (ty : elB P tt e sz bytes = true) (hn : parts.size = m) (hm0 : m ≠ 0) (hsm : m * sz ≤ 16777216) (he : elemsX ⟨n, t, L, H⟩ sz 0 parts.toList = some es) (hdst : o.dst = some d) (hd : Nat.blt d n = true)
    (hk : ∀ k', H k' = none → K ⟨n, upd t d (.c (.a (.ts k' .nn sz es))), L, upd H k' (some (.tip e sz es.length))⟩) : OpW P all o K ⟨n, t, L, H⟩ := by
  intro c a w g
  unfold opRun
  rw [if_pos (by simp [Region.wanted, hg])]
  refine wp_to ?_
  obtain ⟨i, z, h1, h2, h3, h4, h5, h6, h7⟩ := elB_get ty
  have h7' : (parts.map fun (i, x) => (i, a.eval x)).toList = parts.toList.map fun p => (p.1, a.eval p.2) := by simp
  have hpos : 0 < m * sz := Nat.mul_pos (by omega) (by omega)
  have hlen : parts.toList.length = m := by simpa using hn
  obtain ⟨us, g1, g2, _, g4, g5, g6⟩ := elems_fill (s := ⟨n, t, L, H⟩) (c := c) (f := a.eval) (sz := sz) (ps := parts.toList) (k := 0) (cs := (Array.range (m * sz)).map (z.cells[· % z.cells.size]!)) he (fun p hp => g.eval p.2) (by simp [hn])
  have hrun := run_buildSlice (P := P) w tt e m (parts.map fun (i, x) => (i, a.eval x)) us i z h1 h2 h6 (by rw [h3]; omega) (by rw [h3]; omega) (by rw [h3, h7']; exact g1)
  have hus : us.toList.length = m * sz := by simp [g2]
  have hes : es ≠ [] := fun e => by subst e; simp at g6; omega
  have hrun' : (execOp a.eval o).run P w = .ok (.value (.slice (some ⟨w.heap.size, 0, none⟩) m m)) (w.alloc (.cells us e)) := by simp only [execOp, ho, Sem.run_bind, hrun]; rfl
  have mk : Mk c w { c with μ := c.μ.add w.heap.size us.toList } (w.alloc (.cells us e)) := Mk.block (w1 := w.alloc (.cells us e)) g.memOk rfl rfl rfl (by simp) (fun b hb => Below.heap_alloc w (.cells us e) b hb) (Nat.le_refl _) (fun o u hu => by rw [World.cell?_alloc_new]; simpa using hu)
  have hml : m ≤ m * sz := Nat.le_mul_of_pos_right _ (by omega)
  obtain ⟨k', q1, q2, q3, q4⟩ := g.newE (x := .tip e sz es.length) (b := w.heap.size) (n := m) mk (Nat.le_refl _) ⟨us, heap_new w _, by simpa using hus, by unfold maxLen; omega, fun q hq => by
    cases hz : c.μ.add w.heap.size us.toList w.heap.size q with
    | none => exact hz
    | some u =>
      exfalso
      rcases Mem.add_new hz with h | ⟨_, h⟩
      · have := World.block_lt_of_cell? w _ (g.conc.mem _ q u h); simp at this
      · have := (List.getElem?_eq_some_iff.1 h).1
        rw [hus] at this
        have h9 : m * sz ≤ q := by rw [g6, hlen] at hq; exact hq
        omega⟩
  unfold Oper.wp
  rw [hrun']
  refine ⟨_, _, hk k' q1, ?_, q4⟩
  have hrep : RepT (c.μ.add w.heap.size us.toList) (.sl .un sz es) (.slice (some ⟨w.heap.size, 0, none⟩) es.length m) := by
    simp only [Nat.zero_mul, List.drop_zero] at g4
    exact flat_sl (z := .un) (c := m) (b := w.heap.size) (off := 0) hes (by rw [g6, hlen]; omega) g5 (g4.monoT mk.mem) (fun j u hu => by rw [Nat.zero_add]; exact Mem.add_in hu)
  have := q3.put (some d) (x := .c (.a (.ts k' .nn sz es))) (v := .slice (some ⟨w.heap.size, 0, none⟩) es.length m) (decide_eq_true (inb hd)) (RepA.ts (upd_same _ _ _) hes rfl hrep) (fun _ h => by cases h)
  have e2 : Value.slice (some ⟨w.heap.size, 0, none⟩) es.length m = .slice (some ⟨w.heap.size, 0, none⟩) m m := by rw [g6, hlen]
  rw [e2] at this
  rw [hdst]; exact this
theorem SeqK.buildTip {tt e : TypeId} {m sz bytes : Nat} {parts : Array (Nat × Operand)} {es : List (List T)} (hg : o.guard = none) (ho : o.op = .buildSlice tt m parts) (ty : elB P tt e sz bytes = true) (hn : parts.size = m) (hm0 : m ≠ 0) (hsm : m * sz ≤ 16777216) (he : elemsX ⟨n, t, L, H⟩ sz 0 parts.toList = some es) (hdst : o.dst = some d) (hd : Nat.blt d n = true)
    (hk : ∀ k', H k' = none → SeqK P all K rest ⟨n, upd t d (.c (.a (.ts k' .nn sz es))), L, upd H k' (some (.tip e sz es.length))⟩) : SeqK P all K (o :: rest) ⟨n, t, L, H⟩ := OpW.buildTip hg ho ty hn hm0 hsm he hdst hd hk
/-- append onto a literal without elements: what it makes is a row of its own -/
theorem OpW.appZR {x y : Operand} {tt e : TypeId} {k sz bytes : Nat} {z : Nz} {es : List (List T)} (hg : o.guard = none) (ho : o.op = .call { callee := .builtin .append, args := #[x, y], argTypes := #[tt, tt] }) (ty : elB P tt e sz bytes = true) (hx : S.eval ⟨n, t, L, H⟩ x = .c (.a (.ts k z sz []))) (hy : srcX (S.eval ⟨n, t, L, H⟩ y) = some (es, sz)) (hb : es.length * bytes ≤ 140737488355328 ∧ es.length ≤ 9223372036854775807) (hdst : o.dst = some d) (hd : Nat.blt d n = true)
    (hk : ∀ k', H k' = none → K ⟨n, upd t d (.c (.a (.os k' 0 es.length sz))), L, upd H k' (some (.row e sz (es.flatten.map .t)))⟩) : OpW P all o K ⟨n, t, L, H⟩ := by
  intro c a w g
  unfold opRun
  rw [if_pos (by simp [Region.wanted, hg])]
  refine wp_to ?_
  obtain ⟨i, zz, g1, g2, g3, g4, g5, g6, g7⟩ := elB_get ty
  obtain ⟨b0, ha⟩ : ∃ b0, a.eval x = .slice b0 0 0 := by
    have ha := g.eval x
    rw [hx] at ha
    generalize a.eval x = v at ha
    cases ha with
    | ts0 => exact ⟨none, rfl⟩
    | tsE => exact ⟨some _, rfl⟩
    | ts hk hne => exact absurd rfl hne
  obtain ⟨ad, m, cp, hv, rfl, cs, hcl, hel, hr, hcs⟩ := src_cells (by omega) (src_rep (g.eval y) hy)
  rcases app0_run (P := P) w ty o.type b0 ad es.length cp cs hcl (fun j u hu => by
    obtain ⟨b, off, h, hc⟩ := hcs j u hu
    exact ⟨b, off, h, g.conc.mem _ _ _ hc⟩) (reps_one hr) hb.1 hb.2 with ⟨h0, hrun⟩ | ⟨h0, cap, w', hrun, hown, hgr⟩
  · have he : es = [] := List.eq_nil_of_length_eq_zero h0
    subst he
    simp only [List.length_nil] at hrun
    obtain ⟨k', q1, q3, q4⟩ := g.add0 (x := .row e sz (([] : List (List T)).flatten.map .t)) rfl
    have hrun' : (execOp a.eval o).run P w = .ok (.value (.slice b0 0 0)) w := by simp [execOp, ho, ha, hv, resolve, invoke, builtin, hrun]
    unfold Oper.wp
    rw [hrun']
    refine ⟨_, c, hk k' q1, ?_, q4⟩
    have := q3.put (some d) (x := .c (.a (.os k' 0 ([] : List (List T)).length sz))) (v := .slice b0 0 0) (decide_eq_true (inb hd)) .os0 (fun _ h => by cases h)
    rw [hdst]; exact this
  · have hne : es ≠ [] := fun h => h0 (by rw [h]; rfl)
    obtain ⟨g0, cap1, cur, e1, k1, k2, k3, k4, k5⟩ := own_cells hown (by simp)
    injection e1 with e1 _ e2; injection e1 with e1; injection e1 with e1; subst e1 e2
    have hblk : ∀ b, b < w.heap.size → w'.heap[b]? = w.heap[b]? := fun b hb => hgr.block b hb (by simp)
    have hrun' : (execOp a.eval o).run P w = .ok (.value (.slice (some ⟨w.heap.size, 0, none⟩) es.length cap)) w' := by simp [execOp, ho, ha, hv, resolve, invoke, builtin, hrun]
    have mk := Mk.grew g.memOk hgr.os hgr.tape hgr.output hgr.size hblk
    have hfl : (es.flatten.map A.t).length = cs.length := by rw [List.length_map]; exact hr.1
    obtain ⟨k', q1, _, q3, q4⟩ := g.newE (x := .row e sz (es.flatten.map .t)) (b := w.heap.size) (n := cap) mk (Nat.le_refl _) ⟨cur, k1, k2, k3, ⟨by
      have hle : cs.length ≤ cur.size := by rw [k2, hcl]; exact Nat.mul_le_mul_right _ k4
      rw [List.length_take, hfl]; simp; omega, fun j q u hj hu => by
      rw [List.getElem?_take] at hu
      split at hu
      · rename_i hlt
        rw [hfl] at hlt
        have h8 := k5 j cs[j] (List.getElem?_eq_getElem hlt)
        unfold World.cell? at h8
        rw [k1] at h8
        have h9 : u = cs[j] := by simp at h8 hu; rw [h8] at hu; injection hu with hu; exact hu.symm
        rw [List.getElem?_map] at hj
        obtain ⟨q', hq', rfl⟩ := Option.map_eq_some_iff.1 hj
        rw [h9]
        exact .t (hr.2 j q' _ hq' (List.getElem?_eq_getElem hlt))
      · cases hu⟩, fun q => by
      cases hz : c.μ w.heap.size q with
      | none => rfl
      | some u => have := World.block_lt_of_cell? w _ (g.conc.mem _ q u hz); simp at this⟩
    unfold Oper.wp
    rw [hrun']
    refine ⟨_, _, hk k' q1, ?_, q4⟩
    have := q3.put (some d) (x := .c (.a (.os k' 0 es.length sz))) (v := .slice (some ⟨w.heap.size, 0, none⟩) es.length cap) (decide_eq_true (inb hd)) (.os (upd_same _ _ _) (by omega)) (fun _ h => by cases h)
    rw [hdst]; exact this
theorem SeqK.appZR {x y : Operand} {tt e : TypeId} {k sz bytes : Nat} {z : Nz} {es : List (List T)} (hg : o.guard = none) (ho : o.op = .call { callee := .builtin .append, args := #[x, y], argTypes := #[tt, tt] }) (ty : elB P tt e sz bytes = true) (hx : S.eval ⟨n, t, L, H⟩ x = .c (.a (.ts k z sz []))) (hy : srcX (S.eval ⟨n, t, L, H⟩ y) = some (es, sz)) (hb : es.length * bytes ≤ 140737488355328 ∧ es.length ≤ 9223372036854775807) (hdst : o.dst = some d) (hd : Nat.blt d n = true)
    (hk : ∀ k', H k' = none → SeqK P all K rest ⟨n, upd t d (.c (.a (.os k' 0 es.length sz))), L, upd H k' (some (.row e sz (es.flatten.map .t)))⟩) : SeqK P all K (o :: rest) ⟨n, t, L, H⟩ := OpW.appZR hg ho ty hx hy hb hdst hd hk
end
end Go.Proofs.Ytikcmjamioopbaa.E
/- Moves of maps that are not shared yet; a slice that may be nil against nil. Plain theorems, for any program. -/
namespace Go.Proofs.Ytikcmjamioopbaa.E
open Go.RowKit
set_option linter.unusedVariables false
theorem q_mvM {P : Program} {o : Oper} {s : S} {y : Operand} {d : Nat} (ho : o.op = .move y) (hy : s.eval y = .lmp d) : QV P o s (.lmp d) := hy ▸ q_move ho
theorem q_asM {P : Program} {o : Oper} {s : S} {y : Operand} {d : Nat} (ho : o.op = .assign y) (hy : s.eval y = .lmp d) : QV P o s (.lmp d) := hy ▸ q_assign ho
theorem SeqK.eqlNZ {P : Program} {all : Array Oper} {K : S → Prop} {rest : List Oper} {o : Oper} {n d : Nat} {t : Nat → X} {L : Nat → Option AO} {H : Heap} {tt u : TypeId} {x y : Operand} {z : Nz} {sz : Nat} {es : List (List T)} (ho : o.op = .binOp .eql tt x y u) (hg : o.guard = none) (hdst : o.dst = some d) (hd : Nat.blt d n = true) (hx : S.eval ⟨n, t, L, H⟩ x = .c (.a (.t (.sl z sz es)))) (hy : nilT (S.eval ⟨n, t, L, H⟩ y) = some (.sl, true)) (ty : nkB P tt .sl = true)
    (k : ∀ b, (b = true → es = []) → (z = .ne → es = [] → b = true) → SeqK P all K rest ⟨n, upd t d (bX b), L, H⟩) : SeqK P all K (o :: rest) ⟨n, t, L, H⟩ := by
  intro c a w g
  unfold opRun
  rw [if_pos (by simp [Region.wanted, hg])]
  refine wp_to ?_
  have ha := g.eval x
  rw [hx] at ha
  have hb := nilT_rep (g.eval y) hy
  obtain ⟨b, hv, he, he2⟩ : ∃ b, NV .sl b (a.eval x) ∧ (b = true → es = []) ∧ (z = .ne → es = [] → b = true) := by
    generalize a.eval x = v at ha
    cases ha with | t ha =>
    cases ha with
    | nil h => exact ⟨true, ⟨_, _, rfl⟩, (fun _ => rfl), (fun _ _ => rfl)⟩
    | emp h => exact ⟨false, ⟨_, _, _, rfl⟩, (fun h => by cases h), (fun e => absurd e h)⟩
    | sl u ne => exact ⟨false, ⟨_, _, _, rfl⟩, (fun h => by cases h), (fun _ e => absurd e ne)⟩
  have hrun : (execOp a.eval o).run P w = .ok (.value (.bool b)) w := by
    simp only [execOp, ho, Sem.run_bind, nil_guard hv, Result.andThen_ok, (nil_bin ty hv hb w).1]; rfl
  unfold Oper.wp
  rw [hrun]
  refine ⟨_, c, k b he he2, ?_, .refl _ _ _⟩
  have := g.put (some d) (x := bX b) (v := .bool b) (by have h9 := inb' (o := o) hdst hd; rw [hdst] at h9; exact h9) (tv_rep rfl) (fun _ h => by cases h)
  rw [hdst]; exact this
end Go.Proofs.Ytikcmjamioopbaa.E
/- Regions that draw, with operations whose result is not determined. Plain theorems, for any program. -/
namespace Go.Proofs.Ytikcmjamioopbaa.E
open Go.RowKit
set_option linter.unusedVariables false
/-- an operation that looks at the places R alone and turns the places W alone, to one of several states -/
def NOp (P : Program) (all : Array Oper) (o : Oper) (R W : List Loc) (s : S) (K : S → Prop) : Prop :=
  ∀ s1, Len s1 s → (∀ ℓ, ℓ ∈ R → Same ℓ s1 s) → OpW P all o (fun s2 => ∃ s', Len s' s ∧ (∀ ℓ, ℓ ∉ W → Same ℓ s' s) ∧ s2 = s1.over W s' ∧ K s') s1
abbrev Hi := Nat × Fp
def okO (all : Array Oper) (hs : List Hi) : Bool :=
  (List.range hs.length).all fun j => (List.range j).all fun i => !conflict (hs.getD i default).2 (hs.getD j default).2 || reach all 8 (hs.getD j default).1 (hs.getD i default).1
def aheadO (all : Array Oper) (dn : List Nat) (j : Nat) : Bool := (all.getD j default).after.all fun e => !Region.binds .any e || dn.contains e.on
def okX (all : Array Oper) (j : Nat) (rest : List Nat) : Bool := rest.all fun i => reach all 8 i j
def LexO (P : Program) (all : Array Oper) (K : S → Prop) : List Nat → S → List Hi → Prop
  | [], s, hs => okO all hs = true ∧ K s
  | j :: rest, s, hs => aheadO all (hs.map (·.1)) j = true ∧ ∃ o, all[j]? = some o ∧
      ((∃ R W s', LOp P all o R W s s' ∧ LexO P all K rest s' (hs ++ [(j, (R, W))])) ∨
       (okX all j rest = true ∧ ∃ R W, okO all (hs ++ [(j, (R, W))]) = true ∧ NOp P all o R W s fun s' => LexO P all K rest s' (hs ++ [(j, (R, W))])))
section
variable {P : Program} {all : Array Oper} {K : S → Prop}
/-- the places as they stand when the operations Lm have been carried out -/
def standO (hs : List Hi) (sq : Nat → S) (Lm : Array Bool) : Nat → S
  | 0 => sq 0
  | i + 1 => if Lm.getD (hs.getD i default).1 false = true then (standO hs sq Lm i).over (hs.getD i default).2.2 (sq (i + 1)) else standO hs sq Lm i
/-- a step of a history: one that may be run, or one that has been -/
structure StepO (P : Program) (all : Array Oper) (hs : List Hi) (sq : Nat → S) (Lm : Array Bool) (i : Nat) : Prop where
  len : Len (sq (i + 1)) (sq i)
  out : ∀ ℓ, ℓ ∉ (hs.getD i default).2.2 → Same ℓ (sq (i + 1)) (sq i)
  run : Lm.getD (hs.getD i default).1 false = true ∨ ∃ o, all[(hs.getD i default).1]? = some o ∧ LOp P all o (hs.getD i default).2.1 (hs.getD i default).2.2 (sq i) (sq (i + 1))
variable {hs : List Hi} {sq : Nat → S} {Lm : Array Bool}
theorem standO_len : ∀ k, Len (standO hs sq Lm k) (sq 0)
  | 0 => rfl
  | k + 1 => by
    simp only [standO]
    split
    · exact (over_len (hs.getD k default).2.2 (standO hs sq Lm k) (sq (k + 1))).trans (standO_len k)
    · exact standO_len k
theorem sqO_len (hL : ∀ i, i < hs.length → StepO P all hs sq Lm i) : ∀ k, k ≤ hs.length → Len (sq k) (sq 0)
  | 0, _ => rfl
  | k + 1, h => (hL k (by omega)).len.trans (sqO_len hL k (by omega))
theorem standO_same (hL : ∀ i, i < hs.length → StepO P all hs sq Lm i) {ℓ : Loc} :
    ∀ k, k ≤ hs.length → (∀ i, i < k → ℓ ∈ (hs.getD i default).2.2 → Lm.getD (hs.getD i default).1 false = true) → Same ℓ (standO hs sq Lm k) (sq k)
  | 0, _, _ => .refl _ _
  | k + 1, hk, h => by
    have ho := hL k (by omega)
    simp only [standO]
    by_cases hw : ℓ ∈ (hs.getD k default).2.2
    · rw [if_pos (h k (by omega) hw)]
      exact over_in hw
    · have ih := standO_same hL k (by omega) (fun i hi => h i (by omega)) (ℓ := ℓ)
      split
      · exact (over_out hw).trans (ih.trans (ho.out ℓ hw).symm)
      · exact ih.trans (ho.out ℓ hw).symm
theorem standO_later {ℓ : Loc} {j : Nat} : ∀ k, j ≤ k → (∀ i, j ≤ i → i < k → ℓ ∈ (hs.getD i default).2.2 → Lm.getD (hs.getD i default).1 false = false) → Same ℓ (standO hs sq Lm k) (standO hs sq Lm j)
  | 0, hk, h => by obtain rfl : j = 0 := by omega
                   exact .refl _ _
  | k + 1, hk, h => by
    by_cases e : j = k + 1
    · subst e; exact .refl _ _
    · simp only [standO]
      have ih := standO_later (ℓ := ℓ) (j := j) k (by omega) (fun i h1 h2 => h i h1 (by omega))
      split
      · rename_i hl
        refine (over_out fun hw => ?_).trans ih
        rw [h k (by omega) (by omega) hw] at hl; cases hl
      · exact ih
theorem okO_at (h : okO all hs = true) {j : Nat} (hj : j < hs.length) : ∀ i, i < j → conflict (hs.getD i default).2 (hs.getD j default).2 = false ∨ reach all 8 (hs.getD j default).1 (hs.getD i default).1 = true := by
  simp only [okO, List.all_eq_true, List.mem_range, Bool.or_eq_true, Bool.not_eq_true'] at h
  exact h j hj
def Aheads (all : Array Oper) (hs : List Hi) : Prop := ∀ k, k < hs.length → aheadO all ((hs.take k).map (·.1)) (hs.getD k default).1 = true
/-- where a history ends: nothing is left, or the next operation's result is not determined -/
def EndO (P : Program) (all : Array Oper) (K : S → Prop) (hs : List Hi) (rest : List Nat) (s : S) : Prop :=
  (rest = [] ∧ okO all hs = true ∧ K s) ∨ ∃ j r o R W, rest = j :: r ∧ aheadO all (hs.map (·.1)) j = true ∧ all[j]? = some o ∧ okX all j r = true ∧ okO all (hs ++ [(j, (R, W))]) = true ∧ NOp P all o R W s fun s' => LexO P all K r s' (hs ++ [(j, (R, W))])
theorem getD_app1 {t : List Hi} {i : Nat} (h : i < hs.length) : (hs ++ t).getD i default = hs.getD i default := by
  rw [List.getD_eq_getElem?_getD, List.getD_eq_getElem?_getD, List.getElem?_append_left h]
theorem getD_app2 {x : Hi} : (hs ++ [x]).getD hs.length default = x := by
  rw [List.getD_eq_getElem?_getD, List.getElem?_append_right (Nat.le_refl _)]; simp
theorem StepO.app {t : List Hi} {sq' : Nat → S} {i : Nat} (h : StepO P all hs sq Lm i) (hi : i < hs.length) (h1 : sq' i = sq i) (h2 : sq' (i + 1) = sq (i + 1)) : StepO P all (hs ++ t) sq' Lm i := by
  obtain ⟨a, b, c⟩ := h
  rw [← h1, ← h2] at a
  refine ⟨a, ?_, ?_⟩
  · rw [getD_app1 hi, h1, h2]; exact b
  · rw [getD_app1 hi, h1, h2]; exact c
theorem Aheads.snoc (h : Aheads all hs) {x : Hi} (hx : aheadO all (hs.map (·.1)) x.1 = true) : Aheads all (hs ++ [x]) := fun k hk => by
  by_cases e : k < hs.length
  · rw [getD_app1 e, List.take_append_of_le_length (by omega)]; exact h k e
  · have : k = hs.length := by simp at hk; omega
    subst this
    rw [getD_app2, List.take_append_of_le_length (Nat.le_refl _), List.take_length]; exact hx
theorem LexO.ext : ∀ (rest : List Nat) (hs : List Hi) (sq : Nat → S), LexO P all K rest (sq hs.length) hs → (∀ i, i < hs.length → StepO P all hs sq Lm i) → Aheads all hs →
    ∃ (t : List Hi) (sq' : Nat → S) (rest' : List Nat), rest = t.map (·.1) ++ rest' ∧ (∀ i, i ≤ hs.length → sq' i = sq i) ∧ (∀ i, i < (hs ++ t).length → StepO P all (hs ++ t) sq' Lm i) ∧ Aheads all (hs ++ t) ∧ EndO P all K (hs ++ t) rest' (sq' (hs ++ t).length)
  | [], hs, sq, h, hL, ha => ⟨[], sq, [], rfl, fun _ _ => rfl, by simpa using hL, by simpa using ha, .inl ⟨rfl, by simpa using h.1, by simpa using h.2⟩⟩
  | j :: rest, hs, sq, h, hL, ha => by
    obtain ⟨h1, o, ho, ⟨R, W, s', hop, k⟩ | ⟨hx, R, W, hok, hn⟩⟩ := h
    · let sq1 : Nat → S := fun i => if i ≤ hs.length then sq i else s'
      have e1 : ∀ i, i ≤ hs.length → sq1 i = sq i := fun i hi => if_pos hi
      have e2 : sq1 (hs.length + 1) = s' := if_neg (by omega)
      have hlen : (hs ++ [(j, (R, W))]).length = hs.length + 1 := by simp
      have hL1 : ∀ i, i < (hs ++ [(j, (R, W))]).length → StepO P all (hs ++ [(j, (R, W))]) sq1 Lm i := fun i hi => by
        by_cases e : i < hs.length
        · exact (hL i e).app e (e1 i (by omega)) (e1 (i + 1) (by omega))
        · have : i = hs.length := by omega
          subst this
          refine ⟨?_, ?_, .inr ⟨o, ?_, ?_⟩⟩
          · rw [e2, e1 _ (Nat.le_refl _)]; exact hop.len
          · rw [getD_app2, e2, e1 _ (Nat.le_refl _)]; exact hop.out
          · rw [getD_app2]; exact ho
          · rw [getD_app2, e2, e1 _ (Nat.le_refl _)]; exact hop
      obtain ⟨t, sq', rest', g1, g2, g3, g4, g5⟩ := LexO.ext rest (hs ++ [(j, (R, W))]) sq1 (by rw [hlen, e2]; exact k) hL1 (ha.snoc h1)
      have ea : hs ++ [(j, (R, W))] ++ t = hs ++ ((j, (R, W)) :: t) := by simp
      rw [ea] at g3 g4 g5
      exact ⟨(j, (R, W)) :: t, sq', rest', by rw [g1]; rfl, fun i hi => (g2 i (by rw [hlen]; omega)).trans (e1 i hi), g3, g4, g5⟩
    · exact ⟨[], sq, j :: rest, rfl, fun _ _ => rfl, by simpa using hL, by simpa using ha, .inr ⟨j, rest, o, R, W, rfl, by simpa using h1, ho, hx, by simpa using hok, by simpa using hn⟩⟩
theorem hi_at {hs : List Hi} {i : Nat} (h : i < hs.length) : (hs.getD i default).1 ∈ hs.map (·.1) := by
  rw [List.getD_eq_getElem?_getD, List.getElem?_eq_getElem h]; exact List.mem_map.2 ⟨_, List.getElem_mem h, rfl⟩
theorem okO_pre {x : Hi} (h : okO all (hs ++ [x]) = true) {j : Nat} (hj : j < hs.length) : ∀ i, i < j → conflict (hs.getD i default).2 (hs.getD j default).2 = false ∨ reach all 8 (hs.getD j default).1 (hs.getD i default).1 = true := fun i hi => by
  have := okO_at h (j := j) (by simp; omega) i hi
  rwa [getD_app1 hj, getD_app1 (by omega)] at this
theorem EndO.ok {rest : List Nat} {s : S} (h : EndO P all K hs rest s) {j : Nat} (hj : j < hs.length) : ∀ i, i < j → conflict (hs.getD i default).2 (hs.getD j default).2 = false ∨ reach all 8 (hs.getD j default).1 (hs.getD i default).1 = true := by
  rcases h with ⟨_, h, _⟩ | ⟨j', r, o, R, W, _, _, _, _, h, _⟩
  · exact okO_at h hj
  · exact okO_pre h hj
/-- different places of a history are different operations -/
theorem hi_inj {hs : List Hi} {rest : List Nat} (h : (hs.map (·.1) ++ rest).Nodup) {i k : Nat} (hi : i < hs.length) (hk : k < hs.length) (hne : i ≠ k) : (hs.getD i default).1 ≠ (hs.getD k default).1 := fun e => by
  have h1 := (List.nodup_append.1 h).1
  have h2 := List.pairwise_iff_getElem.1 h1
  rw [List.getD_eq_getElem?_getD, List.getElem?_eq_getElem hi, List.getD_eq_getElem?_getD, List.getElem?_eq_getElem hk] at e
  rcases Nat.lt_or_gt_of_ne hne with h3 | h3
  · exact h2 i k (by simpa using hi) (by simpa using hk) h3 (by simpa using e)
  · exact h2 k i (by simpa using hk) (by simpa using hi) h3 (by simpa using e.symm)
/-- what it looks at stands as in the canonical order -/
theorem standO_read {rest : List Nat} {s : S} {q : Nat} {R : List Loc} (hq : q ≤ hs.length) (hL : ∀ i, i < hs.length → StepO P all hs sq Lm i)
    (hbefore : ∀ i, i < q → ∀ ℓ, ℓ ∈ (hs.getD i default).2.2 → ℓ ∈ R → Lm.getD (hs.getD i default).1 false = true)
    (hlater : ∀ i, q ≤ i → i < hs.length → Lm.getD (hs.getD i default).1 false = true → ∀ ℓ, ℓ ∈ R → ℓ ∉ (hs.getD i default).2.2) :
    ∀ ℓ, ℓ ∈ R → Same ℓ (standO hs sq Lm hs.length) (sq q) := fun ℓ hℓ =>
  (standO_later (j := q) hs.length hq fun i h1 h2 hw => by
    cases h3 : Lm.getD (hs.getD i default).1 false with
    | false => rfl
    | true => exact absurd hw (hlater i h1 h2 h3 ℓ hℓ)).trans (standO_same hL q hq fun i hi hw => hbefore i hi ℓ hw hℓ)
/-- one more is carried out -/
theorem standO_set {rest : List Nat} (hnd : (hs.map (·.1) ++ rest).Nodup) {q : Nat} (hq : q < hs.length) (hsz : (hs.getD q default).1 < Lm.size) (hL : ∀ i, i < hs.length → StepO P all hs sq Lm i) (hun : Lm.getD (hs.getD q default).1 false = false)
    (hbefore : ∀ i, i < q → ∀ ℓ, ℓ ∈ (hs.getD i default).2.2 → ℓ ∈ (hs.getD q default).2.2 → Lm.getD (hs.getD i default).1 false = true)
    (hlater : ∀ i, q < i → i < hs.length → Lm.getD (hs.getD i default).1 false = true → ∀ ℓ, ℓ ∈ (hs.getD q default).2.2 → ℓ ∉ (hs.getD i default).2.2) :
    (standO hs sq Lm hs.length).over (hs.getD q default).2.2 (sq (q + 1)) = standO hs sq (Lm.setIfInBounds (hs.getD q default).1 true) hs.length := by
  have hne : ∀ i, i < hs.length → i ≠ q → (hs.getD q default).1 ≠ (hs.getD i default).1 := fun i hi e => hi_inj hnd hq hi (Ne.symm e)
  have hself : (Lm.setIfInBounds (hs.getD q default).1 true).getD (hs.getD q default).1 false = true := getD_set_self hsz
  have hL1 : ∀ i, i < hs.length → StepO P all hs sq (Lm.setIfInBounds (hs.getD q default).1 true) i := fun i hi => ⟨(hL i hi).len, (hL i hi).out, (hL i hi).run.imp (fun h => getD_set_true h) id⟩
  refine S.ext' ((over_len _ _ _).trans ((standO_len _).trans (standO_len _).symm)) fun ℓ => ?_
  by_cases hw : ℓ ∈ (hs.getD q default).2.2
  · refine (over_in hw).trans ?_
    refine Same.symm ((standO_later (j := q + 1) hs.length (by omega) fun i h1 h2 hwi => ?_).trans (standO_same hL1 (q + 1) (by omega) fun i hi hwi => ?_))
    · rw [getD_set_ne false (hne i h2 (by omega))]
      cases h3 : Lm.getD (hs.getD i default).1 false with
      | false => rfl
      | true => exact absurd hwi (hlater i (by omega) h2 h3 ℓ hw)
    · by_cases hij : i = q
      · subst hij; exact hself
      · exact getD_set_true (hbefore i (by omega) ℓ hwi hw)
  · refine (over_out hw).trans ?_
    have key : ∀ k, k ≤ hs.length → Same ℓ (standO hs sq Lm k) (standO hs sq (Lm.setIfInBounds (hs.getD q default).1 true) k) := by
      intro k
      induction k with
      | zero => intro _; exact .refl _ _
      | succ k ihk =>
        intro hk
        have ihk := ihk (by omega)
        simp only [standO]
        by_cases hkj : k = q
        · subst hkj
          rw [if_neg (by rw [hun]; simp), if_pos hself]
          exact ihk.trans (over_out hw).symm
        · rw [getD_set_ne false (hne k (by omega) hkj)]
          split
          · by_cases hwk : ℓ ∈ (hs.getD k default).2.2
            · exact (over_in hwk).trans (over_in hwk).symm
            · exact (over_out hwk).trans (ihk.trans (over_out hwk).symm)
          · exact ihk
    exact key hs.length (Nat.le_refl _)
/-- a history that grew, of which the new part is not done -/
theorem standO_grow {t : List Hi} {sq' : Nat → S} {Lm' : Array Bool} (h1 : ∀ i, i ≤ hs.length → sq' i = sq i) (h2 : ∀ i, i < hs.length → Lm'.getD (hs.getD i default).1 false = Lm.getD (hs.getD i default).1 false) : ∀ k, k ≤ hs.length → standO (hs ++ t) sq' Lm' k = standO hs sq Lm k
  | 0, _ => h1 0 (Nat.zero_le _)
  | k + 1, hk => by
    simp only [standO]
    rw [getD_app1 (by omega), h2 k (by omega), standO_grow h1 h2 k (by omega), h1 (k + 1) hk]
theorem standO_idle {t : List Hi} {sq' : Nat → S} (h : ∀ i, i < t.length → Lm.getD ((hs ++ t).getD (hs.length + i) default).1 false = false) : ∀ k, k ≤ t.length → standO (hs ++ t) sq' Lm (hs.length + k) = standO (hs ++ t) sq' Lm hs.length
  | 0, _ => rfl
  | k + 1, hk => by
    rw [show hs.length + (k + 1) = hs.length + k + 1 by omega]
    simp only [standO]
    rw [h k (by omega), if_neg (by simp), standO_idle h k (by omega)]
theorem ready_iffO {Lm : Array Bool} {j : Nat} (hj : j ∈ Region.ready .any all Lm) : Lm.getD j true = false ∧ ∀ i, waits all j i = true → Lm.getD i false = true := by
  obtain ⟨h0, o, ho, hall⟩ := mem_ready.1 hj
  refine ⟨h0, fun i hi => ?_⟩
  have : all.getD j default = o := by simp [ho]
  unfold waits at hi
  rw [this, Array.any_eq_true] at hi
  obtain ⟨q, hq, hi⟩ := hi
  simp only [Bool.and_eq_true, beq_iff_eq] at hi
  have := hall _ (Array.getElem_mem hq) hi.1
  rwa [hi.2] at this
theorem ready_ofO {Lm : Array Bool} {n j : Nat} {dn : List Nat} (hn : all.size = n) (hj : j < n) (h0 : Lm.getD j true = false) (ha : aheadO all dn j = true) (hb : ∀ i, i ∈ dn → Lm.getD i false = true) : j ∈ Region.ready .any all Lm := by
  refine mem_ready.2 ⟨h0, all[j]'(by omega), Array.getElem?_eq_getElem (by omega), fun e he hbnd => ?_⟩
  have : all.getD j default = all[j]'(by omega) := by simp [show j < all.size by omega]
  unfold aheadO at ha
  rw [this] at ha
  have h1 := Array.all_eq_true_iff_forall_mem.1 ha e he
  simp only [hbnd, Bool.not_true, Bool.false_or] at h1
  exact hb _ (by simpa using h1)
theorem okO_last {x : Hi} (h : okO all (hs ++ [x]) = true) : ∀ i, i < hs.length → conflict (hs.getD i default).2 x.2 = false ∨ reach all 8 x.1 (hs.getD i default).1 = true := fun i hi => by
  have := okO_at h (j := hs.length) (by simp) i hi
  rwa [getD_app2, getD_app1 hi] at this
theorem getD_mem {hs : List Hi} {j : Nat} (h : j ∈ hs.map (·.1)) : ∃ q, q < hs.length ∧ (hs.getD q default).1 = j := by
  obtain ⟨x, hx, rfl⟩ := List.mem_map.1 h
  obtain ⟨q, hq⟩ := List.getElem?_of_mem hx
  exact ⟨q, (List.getElem?_eq_some_iff.1 hq).1, by rw [List.getD_eq_getElem?_getD, hq]; rfl⟩
theorem StepO.done {Lm' : Array Bool} {i : Nat} (h : StepO P all hs sq Lm i) (hm : ∀ j, Lm.getD j false = true → Lm'.getD j false = true) : StepO P all hs sq Lm' i := ⟨h.len, h.out, h.run.imp (hm _) id⟩
theorem drawO_key {n : Nat} (hn : all.size = n) {Q' : Exit → Act → World → Prop} {c0 : Ctx} {own0 : Own} {w0 : World}
    (hQ : ∀ s c a w, K s → Sat c s a w → Ext c0 own0 w0 c s.own w → Q' .normal a w) :
    ∀ (fuel : Nat) (Lm : Array Bool) (hs : List Hi) (sq : Nat → S) (rest : List Nat) (c : Ctx) (a : Act) (w : World), Lm.size = n → Lm.toList.count false = fuel → shut all Lm →
      (hs.map (·.1) ++ rest).Nodup → (∀ j, j ∈ hs.map (·.1) ++ rest ↔ j < n) → (∀ i, i < hs.length → StepO P all hs sq Lm i) → Aheads all hs → EndO P all K hs rest (sq hs.length) → (∀ j, j ∈ rest → Lm.getD j false = false) →
      Sat c (standO hs sq Lm hs.length) a w → Ext c0 own0 w0 c (standO hs sq Lm hs.length).own w → wpAnyIn Fence.wide 0 P .any all Q' fuel Lm a w := by
  have getlt : ∀ {Lm : Array Bool} {j : Nat}, Lm.getD j true = false → j < Lm.size := fun {Lm j} h => by
    rcases Nat.lt_or_ge j Lm.size with h' | h'
    · exact h'
    · simp [Array.getElem?_eq_none h'] at h
  have count0 : ∀ {Lm : Array Bool} {j : Nat}, Lm.toList.count false = 0 → Lm.getD j true ≠ false := by
    intro Lm j hc h
    have hj := getlt h
    have hm : false ∈ Lm.toList := by
      have : Lm[j] = false := by simpa [hj] using h
      rw [← this]; simp
    exact absurd (List.count_pos_iff.2 hm) (by omega)
  intro fuel
  induction fuel with
  | zero =>
    intro Lm hs sq rest c a w hsz hc hsh hnd hmem hL ha hend hrest g x
    have hall : ∀ i, i < n → Lm.getD i false = true := fun i hi => by
      have := count0 (j := i) hc
      cases h : Lm[i]? with
      | none => simp at h; omega
      | some b => cases b <;> simp [h] at this ⊢
    have hr : Region.ready .any all Lm = [] := by
      cases hr : Region.ready .any all Lm with
      | nil => rfl
      | cons j r =>
        have hj : j ∈ Region.ready .any all Lm := by rw [hr]; simp
        exact absurd (ready_iffO hj).1 (count0 hc)
    have e : standO hs sq Lm hs.length = sq hs.length := S.ext' ((standO_len _).trans (sqO_len hL _ (Nat.le_refl _)).symm) fun ℓ => standO_same hL _ (Nat.le_refl _) fun i hi _ => hall _ ((hmem _).1 (List.mem_append_left _ (hi_at hi)))
    rw [e] at g x
    rcases hend with ⟨_, _, k⟩ | ⟨j, r, _, _, _, hj, _⟩
    · exact ⟨hr, hQ _ _ _ _ k g x⟩
    · have h1 := hrest j (by rw [hj]; simp)
      rw [hall j ((hmem j).1 (by rw [hj]; simp))] at h1; cases h1
  | succ fuel ih =>
    intro Lm hs sq rest c a w hsz hc hsh hnd hmem hL ha hend hrest g x
    have setfacts : ∀ {j : Nat}, Lm.getD j true = false → (Lm.setIfInBounds j true).size = n ∧ (Lm.setIfInBounds j true).toList.count false = fuel := by
      intro j hj
      have hlt := getlt hj
      refine ⟨by simpa using hsz, ?_⟩
      have h1 : Lm.toList[j]? = some false := by
        have : Lm[j] = false := by simpa [hlt] using hj
        rw [Array.getElem?_toList, Array.getElem?_eq_getElem hlt, this]
      have := cnt_set Lm.toList j h1
      rw [Array.toList_setIfInBounds]
      omega
    have unl : ∀ {j : Nat}, j < n → (Lm.getD j true = false ↔ Lm.getD j false = false) := fun {j} hj => by
      have hlt : j < Lm.size := by omega
      simp [hlt]
    refine ⟨fun hr => ?_, fun j hj => ?_⟩
    · -- nothing is ready, yet one is not carried out: the least of these is ready
      exfalso
      have hex : ∃ j, j < n ∧ Lm.getD j true = false := by
        have hm : false ∈ Lm.toList := List.count_pos_iff.1 (by omega)
        obtain ⟨j, hj⟩ := List.getElem?_of_mem hm
        have hj' : Lm[j]? = some false := by simpa using hj
        refine ⟨j, ?_, by simp [hj']⟩
        have := (Array.getElem?_eq_some_iff.1 hj').1
        omega
      have least : ∀ m, m ≤ hs.length → (∀ i, i < m → Lm.getD (hs.getD i default).1 false = true) ∨ ∃ q, q < m ∧ Lm.getD (hs.getD q default).1 false = false ∧ ∀ i, i < q → Lm.getD (hs.getD i default).1 false = true := by
        intro m
        induction m with
        | zero => intro _; exact .inl fun i hi => absurd hi (Nat.not_lt_zero i)
        | succ m ihm =>
          intro hm
          rcases ihm (by omega) with h | ⟨q, h1, h2, h3⟩
          · cases h4 : Lm.getD (hs.getD m default).1 false with
            | false => exact .inr ⟨m, by omega, h4, h⟩
            | true =>
              refine .inl fun i hi => ?_
              by_cases e : i = m
              · rw [e]; exact h4
              · exact h i (by omega)
          · exact .inr ⟨q, by omega, h2, h3⟩
      rcases least hs.length (Nat.le_refl _) with h | ⟨q, h1, h2, h3⟩
      · have hdone : ∀ i, i ∈ hs.map (·.1) → Lm.getD i false = true := fun i hi => by
          obtain ⟨q, hq, rfl⟩ := getD_mem hi
          exact h q hq
        rcases hend with ⟨h1, _, _⟩ | ⟨j, r, _, _, _, hj, hah, _⟩
        · obtain ⟨j, h4, h5⟩ := hex
          have hm := (hmem j).2 h4
          rw [h1, List.append_nil] at hm
          have h6 := hdone j hm
          rw [(unl h4).1 h5] at h6; cases h6
        · have hjr : j ∈ rest := by rw [hj]; simp
          have hjn : j < n := (hmem j).1 (List.mem_append_right _ hjr)
          have := ready_ofO hn hjn ((unl hjn).2 (hrest j hjr)) hah hdone
          rw [hr] at this; cases this
      · have hqn : (hs.getD q default).1 < n := (hmem _).1 (List.mem_append_left _ (hi_at h1))
        have := ready_ofO hn hqn ((unl hqn).2 h2) (ha q h1) (fun i hi => by
          obtain ⟨k, hk, rfl⟩ := getD_mem hi
          rw [List.length_take] at hk
          have e : (hs.take q).getD k default = hs.getD k default := by
            rw [List.getD_eq_getElem?_getD, List.getD_eq_getElem?_getD, List.getElem?_take, if_pos (by omega)]
          rw [e]; exact h3 k (by omega))
        rw [hr] at this; cases this
    · obtain ⟨hun, hwt⟩ := ready_iffO hj
      have hjn : j < n := by have := getlt hun; omega
      obtain ⟨hs1, hc1⟩ := setfacts hun
      have hunf := (unl hjn).1 hun
      have hrch : ∀ {i}, reach all 8 j i = true → Lm.getD i false = true := fun h => reach_pre hsh 8 j _ hwt h
      have hsh1 : shut all (Lm.setIfInBounds j true) := by
        intro q hq i hi
        by_cases hqj : j = q
        · subst hqj; exact getD_set_true (hwt i hi)
        · rw [getD_set_ne false hqj] at hq
          exact getD_set_true (hsh q hq i hi)
      rcases List.mem_append.1 ((hmem j).2 hjn) with hjh | hjr
      · obtain ⟨q, hqf, rfl⟩ := getD_mem hjh
        obtain ⟨o, ho, hop⟩ := (hL q hqf).run.resolve_left (by rw [hunf]; simp)
        have hcf := hend.ok hqf
        have nolater : ∀ i, q < i → i < hs.length → Lm.getD (hs.getD i default).1 false = true → conflict (hs.getD q default).2 (hs.getD i default).2 = false := by
          intro i h1 h2 h3
          rcases hend.ok h2 q h1 with h | h
          · exact h
          · have := reach_shut hsh h3 h; rw [hunf] at this; cases this
        have hread : ∀ ℓ, ℓ ∈ (hs.getD q default).2.1 → Same ℓ (standO hs sq Lm hs.length) (sq q) :=
          standO_read (rest := rest) (s := sq 0) (by omega) hL (fun i hi ℓ hw hℓ => by
            rcases hcf i hi with h | h
            · exact absurd hℓ ((conflict_of h (l := ℓ)).1 hw).1
            · exact hrch h) fun i h1 h2 h3 ℓ hℓ hw => by
            by_cases e : i = q
            · subst e; rw [hunf] at h3; cases h3
            · exact (conflict_of (nolater i (by omega) h2 h3) (l := ℓ)).2 hℓ hw
        have hlen : Len (standO hs sq Lm hs.length) (sq q) := (standO_len _).trans (sqO_len hL q (by omega)).symm
        have hafter := standO_set hnd hqf (by omega) hL hunf (fun i hi ℓ h1 h2 => by
            rcases hcf i hi with h | h
            · exact absurd h2 ((conflict_of h (l := ℓ)).1 h1).2
            · exact hrch h) fun i h1 h2 h3 ℓ hℓ hw => ((conflict_of (nolater i h1 h2 h3) (l := ℓ)).1 hℓ).2 hw
        have hrun := hop.run _ hlen hread c a w g
        unfold wpOpIn
        rw [ho]
        have go : ∀ a' w', (∃ s' c', s' = (standO hs sq Lm hs.length).over (hs.getD q default).2.2 (sq (q + 1)) ∧ Sat c' s' a' w' ∧ Ext c (standO hs sq Lm hs.length).own w c' s'.own w') → wpAnyIn Fence.wide 0 P .any all Q' fuel (Lm.setIfInBounds (hs.getD q default).1 true) a' w' := by
          rintro a' w' ⟨s', c', rfl, g', x'⟩
          rw [hafter] at g' x'
          exact ih _ hs sq rest c' a' w' hs1 hc1 hsh1 hnd hmem (fun i hi => (hL i hi).done fun j h => getD_set_true h) ha hend (fun i hi => by
            rw [getD_set_ne false (fun e => (List.nodup_append.1 hnd).2.2 _ (hi_at hqf) _ hi e)]; exact hrest i hi) g' (x.trans x')
        unfold opRun at hrun
        simp only []
        split
        · rename_i hw; rw [if_pos hw] at hrun; exact wpIn_weak hrun go
        · rename_i hw; rw [if_neg hw] at hrun; exact ⟨fun _ _ => trivial, go _ _ hrun⟩
      · rcases hend with ⟨h1, _, _⟩ | ⟨j', r, o, R, W, hr, hah, ho, hx, hok, hno⟩
        · rw [h1] at hjr; cases hjr
        · have hjj : j = j' := by
            rw [hr] at hjr
            rcases List.mem_cons.1 hjr with h | h
            · exact h
            · have h1 := hrch (List.all_eq_true.1 hx j h)
              rw [hrest j' (by rw [hr]; simp)] at h1; cases h1
          subst hjj
          have hlast := okO_last hok
          have hread : ∀ ℓ, ℓ ∈ R → Same ℓ (standO hs sq Lm hs.length) (sq hs.length) :=
            standO_read (rest := rest) (s := sq 0) (Nat.le_refl _) hL (fun i hi ℓ hw hℓ => by
              rcases hlast i hi with h | h
              · exact absurd hℓ ((conflict_of h (l := ℓ)).1 hw).1
              · exact hrch h) fun i h1 h2 => by omega
          have hlen : Len (standO hs sq Lm hs.length) (sq hs.length) := (standO_len _).trans (sqO_len hL _ (Nat.le_refl _)).symm
          have hrun := hno _ hlen hread c a w g
          unfold wpOpIn
          rw [ho]
          have go : ∀ a' w', (∃ s2 c', (∃ s', Len s' (sq hs.length) ∧ (∀ ℓ, ℓ ∉ W → Same ℓ s' (sq hs.length)) ∧ s2 = (standO hs sq Lm hs.length).over W s' ∧ LexO P all K r s' (hs ++ [(j, (R, W))])) ∧ Sat c' s2 a' w' ∧ Ext c (standO hs sq Lm hs.length).own w c' s2.own w') → wpAnyIn Fence.wide 0 P .any all Q' fuel (Lm.setIfInBounds j true) a' w' := by
            rintro a' w' ⟨s2, c', ⟨s', hl', ho', rfl, hk⟩, g', x'⟩
            let sq1 : Nat → S := fun i => if i ≤ hs.length then sq i else s'
            have e1 : ∀ i, i ≤ hs.length → sq1 i = sq i := fun i hi => if_pos hi
            have e2 : sq1 (hs.length + 1) = s' := if_neg (by omega)
            have hlen1 : (hs ++ [(j, (R, W))]).length = hs.length + 1 := by simp
            have hself : (Lm.setIfInBounds j true).getD j false = true := getD_set_self (by omega)
            have hL1 : ∀ i, i < (hs ++ [(j, (R, W))]).length → StepO P all (hs ++ [(j, (R, W))]) sq1 (Lm.setIfInBounds j true) i := fun i hi => by
              by_cases e : i < hs.length
              · exact ((hL i e).app e (e1 i (by omega)) (e1 (i + 1) (by omega))).done fun j h => getD_set_true h
              · have : i = hs.length := by omega
                subst this
                refine ⟨?_, ?_, .inl ?_⟩
                · rw [e2, e1 _ (Nat.le_refl _)]; exact hl'
                · rw [getD_app2, e2, e1 _ (Nat.le_refl _)]; exact ho'
                · rw [getD_app2]; exact hself
            obtain ⟨t, sq', rest', f1, f2, f3, f4, f5⟩ := LexO.ext r (hs ++ [(j, (R, W))]) sq1 (by rw [hlen1, e2]; exact hk) hL1 (ha.snoc hah)
            have hsplit : (hs ++ [(j, (R, W))] ++ t).map (·.1) ++ rest' = hs.map (·.1) ++ rest := by rw [hr, f1]; simp
            have hne : ∀ i, i ∈ r → j ≠ i := fun i hi e => by
              have h1 := (List.nodup_append.1 hnd).2.1
              rw [hr] at h1
              exact (List.nodup_cons.1 h1).1 (e ▸ hi)
            have hidle : ∀ i, i < t.length → (Lm.setIfInBounds j true).getD ((hs ++ [(j, (R, W))] ++ t).getD ((hs ++ [(j, (R, W))]).length + i) default).1 false = false := fun i hi => by
              have hm : ((hs ++ [(j, (R, W))] ++ t).getD ((hs ++ [(j, (R, W))]).length + i) default).1 ∈ r := by
                rw [f1, List.getD_eq_getElem?_getD, List.getElem?_append_right (by omega)]
                rw [Nat.add_sub_cancel_left, List.getElem?_eq_getElem hi]
                exact List.mem_append_left _ (List.mem_map.2 ⟨_, List.getElem_mem hi, rfl⟩)
              rw [getD_set_ne false (hne _ hm)]
              exact hrest _ (by rw [hr]; exact List.mem_cons_of_mem _ hm)
            have hstand : standO (hs ++ [(j, (R, W))] ++ t) sq' (Lm.setIfInBounds j true) (hs ++ [(j, (R, W))] ++ t).length = (standO hs sq Lm hs.length).over W s' := by
              rw [List.length_append, standO_idle hidle _ (Nat.le_refl _), standO_grow (hs := hs ++ [(j, (R, W))]) (sq := sq1) (Lm := Lm.setIfInBounds j true) f2 (fun _ _ => rfl) _ (Nat.le_refl _), hlen1]
              simp only [standO]
              rw [getD_app2, if_pos hself, e2, standO_grow (sq := sq) (Lm := Lm) e1 (fun i hi => ?_) _ (Nat.le_refl _)]
              rw [getD_set_ne false]
              intro e
              refine (List.nodup_append.1 hnd).2.2 _ (hi_at hi) j (by rw [hr]; simp) e.symm
            rw [← hstand] at g' x'
            refine ih _ (hs ++ [(j, (R, W))] ++ t) sq' rest' c' a' w' hs1 hc1 hsh1 (by rw [hsplit]; exact hnd) (by rw [hsplit]; exact hmem) f3 f4 f5 (fun i hi => ?_) g' (x.trans x')
            have hir : i ∈ r := by rw [f1]; exact List.mem_append_right _ hi
            rw [getD_set_ne false (hne i hir)]
            exact hrest i (by rw [hr]; exact List.mem_cons_of_mem _ hir)
          unfold opRun at hrun
          simp only []
          split
          · rename_i hw; rw [if_pos hw] at hrun; exact wpIn_weak hrun go
          · rename_i hw; rw [if_neg hw] at hrun; exact ⟨fun _ _ => trivial, go _ _ hrun⟩
def permB (n : Nat) (l : List Nat) : Bool := decide l.Nodup && l.all (fun j => Nat.blt j n) && (List.range n).all (l.contains ·)
end
theorem lexO_start {P : Program} {Q : Exit → S → Prop} {s : S} {l : List Oper} (pi : List Nat) (hp : permB l.length pi = true) (h : LexO P l.toArray (Q .normal) pi s []) {c : Ctx} {a : Act} {w : World} (g : Sat c s a w) : wpAnyIn Fence.wide 0 P .any l.toArray (fun e a' w' => ∃ s' c', Q e s' ∧ Sat c' s' a' w' ∧ Ext c s.own w c' s'.own w') l.toArray.size (Array.replicate l.toArray.size false) a { w with drawn := w.drawn + 1 } := by
  simp only [permB, Bool.and_eq_true, decide_eq_true_eq, List.all_eq_true, List.mem_range, List.contains_iff_mem] at hp
  obtain ⟨⟨hp1, hp2⟩, hp3⟩ := hp
  obtain ⟨t, sq, rest, f1, f2, f3, f4, f5⟩ := LexO.ext (Lm := Array.replicate l.toArray.size false) pi [] (fun _ => s) h (fun i hi => absurd hi (Nat.not_lt_zero i)) (fun k hk => absurd hk (Nat.not_lt_zero k))
  simp only [List.nil_append] at f3 f4 f5
  have hno : ∀ i, (Array.replicate l.toArray.size false).getD i false = false := fun j => by simp [Array.getElem?_replicate]; split <;> simp
  have e0 : standO t sq (Array.replicate l.toArray.size false) t.length = s := by
    have := standO_idle (hs := []) (t := t) (sq' := sq) (fun i _ => hno _) t.length (Nat.le_refl _)
    simp only [List.nil_append, List.length_nil, Nat.zero_add] at this
    rw [this]; exact f2 0 (Nat.le_refl _)
  refine drawO_key (P := P) (all := l.toArray) (K := Q .normal) (c0 := c) (own0 := s.own) (w0 := w) rfl (fun s' c' a' w' k g' x' => ⟨s', c', k, g', x'⟩) _ _ t sq rest c a _ (by simp) ?_ (fun j hj => by rw [hno j] at hj; cases hj) (by rw [← f1]; exact hp1) (fun j => ?_) f3 f4 f5 (fun j _ => hno j) ?_ ?_
  · simp
  · rw [← f1]; exact ⟨fun h => by have h1 := Nat.le_of_ble_eq_true (hp2 j h); simpa using Nat.lt_of_succ_le h1, fun h => hp3 j (by simpa using h)⟩
  · rw [e0]; exact ⟨⟨g.conc.mem, g.conc.obj, g.conc.inj, g.conc.fin⟩, g.size, g.tmps, g.defers, g.wf⟩
  · rw [e0]; exact ⟨rfl, rfl, rfl, Nat.le_refl _, fun _ _ _ => rfl, fun _ _ _ h => h, fun _ _ _ h => .inl h, fun _ _ h => h, fun i x b n h1 he h2 => .inr ⟨i, x, n, h1, he, h2⟩, rfl, fun k x h => .inl (by rw [h]; simp)⟩
theorem AW.drawO {P : Program} {Q : Exit → S → Prop} {s : S} {id : Nat} {l : List Oper} (pi : List Nat) (hm : P.follows .mixedOrders = true) (hp : permB l.length pi = true) (h : LexO P l.toArray (Q .normal) pi s []) : AW P (.region id l.toArray true) Q s := fun c a w g => (wpIn_wide (n := 0)).1 (wpIn_region_any hm (lexO_start pi hp h g))
end Go.Proofs.Ytikcmjamioopbaa.E
/- Steps of a region that draws, in an order of the proof's own; operations whose result is one of several. Plain theorems, for any program. -/
namespace Go.Proofs.Ytikcmjamioopbaa.E
open Go.RowKit
set_option linter.unusedVariables false
section
variable {P : Program} {all : Array Oper} {o : Oper} {s s' : S} {K : S → Prop} {rest : List Nat} {hs : List Hi} {R W : List Loc} {j d n : Nat} {t : Nat → X} {L : Nat → Option AO} {H : Heap} {x : X}
theorem LexO.nil (h : okO all hs = true) (k : K s) : LexO P all K [] s hs := ⟨h, k⟩
theorem LexO.cons (hj : all[j]? = some o) (ha : aheadO all (hs.map (·.1)) j = true) (h : LOp P all o R W s s') (k : LexO P all K rest s' (hs ++ [(j, (R, W))])) : LexO P all K (j :: rest) s hs := ⟨ha, o, hj, .inl ⟨R, W, s', h, k⟩⟩
theorem LexO.nop (hj : all[j]? = some o) (ha : aheadO all (hs.map (·.1)) j = true) (hx : okX all j rest = true) (hok : okO all (hs ++ [(j, (R, W))]) = true) (h : NOp P all o R W s fun s' => LexO P all K rest s' (hs ++ [(j, (R, W))])) : LexO P all K (j :: rest) s hs := ⟨ha, o, hj, .inr ⟨hx, R, W, hok, h⟩⟩
theorem LexO.q (hj : all[j]? = some o) (ha : aheadO all (hs.map (·.1)) j = true) (h : QV P o ⟨n, t, L, H⟩ x) (hg : o.guard = none) (hdst : o.dst = some d) (hd : Nat.blt d n = true) (k : LexO P all K rest ⟨n, upd t d x, L, H⟩ (hs ++ [(j, (lookT all o, dstT o))])) : LexO P all K (j :: rest) ⟨n, t, L, H⟩ hs :=
  .cons hj ha (.q h hg (inb' hdst hd)) (by rw [hdst]; exact k)
theorem LexO.q0 (hj : all[j]? = some o) (ha : aheadO all (hs.map (·.1)) j = true) (h : QV P o s x) (hg : o.guard = none) (hdst : o.dst = none) (k : LexO P all K rest s (hs ++ [(j, (lookT all o, dstT o))])) : LexO P all K (j :: rest) s hs := .cons hj ha (.q0 h hg hdst) k
theorem LexO.on {i i' : Nat} {b : Bool} (hj : all[j]? = some o) (ha : aheadO all (hs.map (·.1)) j = true) (h : QV P o ⟨n, t, L, H⟩ x) (hg : o.guard = some (i', b)) (hi : (all[i']?).bind (·.dst) = some i) (hb : t i = tv (.bool b)) (hdst : o.dst = some d) (hd : Nat.blt d n = true) (k : LexO P all K rest ⟨n, upd t d x, L, H⟩ (hs ++ [(j, (lookT all o, dstT o))])) : LexO P all K (j :: rest) ⟨n, t, L, H⟩ hs :=
  .cons hj ha (.on h hg hi hb (inb' hdst hd)) (by rw [hdst]; exact k)
theorem LexO.off {i i' : Nat} {b b' : Bool} (hj : all[j]? = some o) (ha : aheadO all (hs.map (·.1)) j = true) (hg : o.guard = some (i', b)) (hi : (all[i']?).bind (·.dst) = some i) (hb : t i = tv (.bool b')) (hne : (b' == b) = false) (hdst : o.dst = some d) (hd : Nat.blt d n = true) (k : LexO P all K rest ⟨n, upd t d (.tup []), L, H⟩ (hs ++ [(j, (lookT all o, dstT o))])) : LexO P all K (j :: rest) ⟨n, t, L, H⟩ hs :=
  .cons hj ha (.off hg hi hb (fun e => by subst e; simp at hne) (inb' hdst hd)) (by rw [hdst]; exact k)
theorem LexO.offU {i i' : Nat} {b : Bool} (hj : all[j]? = some o) (ha : aheadO all (hs.map (·.1)) j = true) (hg : o.guard = some (i', b)) (hi : (all[i']?).bind (·.dst) = some i) (hb : t i = .tup []) (hdst : o.dst = some d) (hd : Nat.blt d n = true) (k : LexO P all K rest ⟨n, upd t d (.tup []), L, H⟩ (hs ++ [(j, (lookT all o, dstT o))])) : LexO P all K (j :: rest) ⟨n, t, L, H⟩ hs :=
  .cons hj ha (.offU hg hi hb (inb' hdst hd)) (by rw [hdst]; exact k)
theorem LexO.r {s' : S} (hj : all[j]? = some o) (ha : aheadO all (hs.map (·.1)) j = true) (h : LR P o R W ⟨n, t, L, H⟩ s') (hg : o.guard = none) (k : LexO P all K rest s' (hs ++ [(j, (R, W))])) : LexO P all K (j :: rest) ⟨n, t, L, H⟩ hs := .cons hj ha (.r h hg) k
theorem LexO.rOn {s' : S} {i i' : Nat} {b : Bool} (hj : all[j]? = some o) (ha : aheadO all (hs.map (·.1)) j = true) (h : LR P o R W ⟨n, t, L, H⟩ s') (hg : o.guard = some (i', b)) (hi : (all[i']?).bind (·.dst) = some i) (hb : t i = tv (.bool b)) (k : LexO P all K rest s' (hs ++ [(j, (.t i :: R, W))])) : LexO P all K (j :: rest) ⟨n, t, L, H⟩ hs := .cons hj ha (.rOn h hg hi hb) k
theorem LexO.consD {q : Prop} [Decidable q] {e : Option Nat} (hj : all[j]? = some o) (ha : aheadO all (hs.map (·.1)) j = true) (h : LOp P all o R W s (s.put e (bX (decide q)))) (ht : q → LexO P all K rest (s.put e (bX true)) (hs ++ [(j, (R, W))])) (he : ¬ q → LexO P all K rest (s.put e (bX false)) (hs ++ [(j, (R, W))])) : LexO P all K (j :: rest) s hs := by
  by_cases hq : q
  · rw [decide_eq_true hq] at h; exact .cons hj ha h (ht hq)
  · rw [decide_eq_false hq] at h; exact .cons hj ha h (he hq)
theorem LexO.consB {b : Bool} {e : Option Nat} (hj : all[j]? = some o) (ha : aheadO all (hs.map (·.1)) j = true) (h : LOp P all o R W s (s.put e (bX b))) (ht : b = true → LexO P all K rest (s.put e (bX true)) (hs ++ [(j, (R, W))])) (he : b = false → LexO P all K rest (s.put e (bX false)) (hs ++ [(j, (R, W))])) : LexO P all K (j :: rest) s hs := by
  cases b
  · exact .cons hj ha h (he rfl)
  · exact .cons hj ha h (ht rfl)
theorem LexO.qD {q : Prop} [Decidable q] (hj : all[j]? = some o) (ha : aheadO all (hs.map (·.1)) j = true) (h : QV P o ⟨n, t, L, H⟩ (bX (decide q))) (hg : o.guard = none) (hdst : o.dst = some d) (hd : Nat.blt d n = true) (ht : q → LexO P all K rest ⟨n, upd t d (bX true), L, H⟩ (hs ++ [(j, (lookT all o, dstT o))])) (he : ¬ q → LexO P all K rest ⟨n, upd t d (bX false), L, H⟩ (hs ++ [(j, (lookT all o, dstT o))])) : LexO P all K (j :: rest) ⟨n, t, L, H⟩ hs :=
  LexO.consD hj ha (.q h hg (inb' hdst hd)) (fun hq => by rw [hdst]; exact ht hq) (fun hq => by rw [hdst]; exact he hq)
theorem LexO.qB {b : Bool} (hj : all[j]? = some o) (ha : aheadO all (hs.map (·.1)) j = true) (h : QV P o ⟨n, t, L, H⟩ (bX b)) (hg : o.guard = none) (hdst : o.dst = some d) (hd : Nat.blt d n = true) (ht : b = true → LexO P all K rest ⟨n, upd t d (bX true), L, H⟩ (hs ++ [(j, (lookT all o, dstT o))])) (he : b = false → LexO P all K rest ⟨n, upd t d (bX false), L, H⟩ (hs ++ [(j, (lookT all o, dstT o))])) : LexO P all K (j :: rest) ⟨n, t, L, H⟩ hs :=
  LexO.consB hj ha (.q h hg (inb' hdst hd)) (fun hq => by rw [hdst]; exact ht hq) (fun hq => by rw [hdst]; exact he hq)
theorem LexO.onD {i i' : Nat} {b : Bool} {q : Prop} [Decidable q] (hj : all[j]? = some o) (ha : aheadO all (hs.map (·.1)) j = true) (h : QV P o ⟨n, t, L, H⟩ (bX (decide q))) (hg : o.guard = some (i', b)) (hi : (all[i']?).bind (·.dst) = some i) (hb : t i = tv (.bool b)) (hdst : o.dst = some d) (hd : Nat.blt d n = true) (ht : q → LexO P all K rest ⟨n, upd t d (bX true), L, H⟩ (hs ++ [(j, (lookT all o, dstT o))])) (he : ¬ q → LexO P all K rest ⟨n, upd t d (bX false), L, H⟩ (hs ++ [(j, (lookT all o, dstT o))])) : LexO P all K (j :: rest) ⟨n, t, L, H⟩ hs :=
  LexO.consD hj ha (.on h hg hi hb (inb' hdst hd)) (fun hq => by rw [hdst]; exact ht hq) (fun hq => by rw [hdst]; exact he hq)
theorem LexO.onB {i i' : Nat} {b c : Bool} (hj : all[j]? = some o) (ha : aheadO all (hs.map (·.1)) j = true) (h : QV P o ⟨n, t, L, H⟩ (bX c)) (hg : o.guard = some (i', b)) (hi : (all[i']?).bind (·.dst) = some i) (hb : t i = tv (.bool b)) (hdst : o.dst = some d) (hd : Nat.blt d n = true) (ht : c = true → LexO P all K rest ⟨n, upd t d (bX true), L, H⟩ (hs ++ [(j, (lookT all o, dstT o))])) (he : c = false → LexO P all K rest ⟨n, upd t d (bX false), L, H⟩ (hs ++ [(j, (lookT all o, dstT o))])) : LexO P all K (j :: rest) ⟨n, t, L, H⟩ hs :=
  LexO.consB hj ha (.on h hg hi hb (inb' hdst hd)) (fun hq => by rw [hdst]; exact ht hq) (fun hq => by rw [hdst]; exact he hq)
/-! ### one of several results -/
/-- whatever state agrees with s where the operation looks: a value in its slot, and the objects turned, as Q says -/
def EOp (P : Program) (all : Array Oper) (o : Oper) (R : List Loc) (d : Nat) (s : S) (Q : X → Heap → Prop) : Prop :=
  ∀ s1, Len s1 s → (∀ ℓ, ℓ ∈ R → Same ℓ s1 s) → OpW P all o (fun s2 => ∃ x H', Q x H' ∧ s2 = ⟨s1.n, upd s1.t d x, s1.L, H'⟩) s1
theorem NOp.e {Q : X → Heap → Prop} (h : EOp P all o R d ⟨n, t, L, H⟩ Q) (k : ∀ x H', Q x H' → K ⟨n, upd t d x, L, H'⟩) : NOp P all o R [.t d, .h] ⟨n, t, L, H⟩ K := fun s1 hl hs => (h s1 hl hs).mono fun s2 ⟨x, H', q, e⟩ => by
  refine ⟨⟨n, upd t d x, L, H'⟩, rfl, fun ℓ hℓ => ?_, ?_, k x H' q⟩
  · cases ℓ with
    | t i =>
      have h : i ≠ d := fun e => hℓ (by simp [e])
      simp [Same, upd_ne _ _ h]
    | b i => rfl
    | h => exact absurd (by simp) hℓ
  · subst e
    refine S.ext' rfl fun ℓ => ?_
    cases ℓ with
    | t i =>
      by_cases h : i = d
      · subst h; simp [Same, S.over, upd_same]
      · simp [Same, S.over, upd_ne _ _ h, h]
    | b i => simp [Same, S.over]
    | h => simp [Same, S.over]
/-- a value alone -/
def VOp (P : Program) (all : Array Oper) (o : Oper) (R : List Loc) (d : Nat) (s : S) (Q : X → Prop) : Prop :=
  ∀ s1, Len s1 s → (∀ ℓ, ℓ ∈ R → Same ℓ s1 s) → OpW P all o (fun s2 => ∃ x, Q x ∧ s2 = ⟨s1.n, upd s1.t d x, s1.L, s1.H⟩) s1
theorem NOp.v {Q : X → Prop} (h : VOp P all o R d ⟨n, t, L, H⟩ Q) (k : ∀ x, Q x → K ⟨n, upd t d x, L, H⟩) : NOp P all o R [.t d] ⟨n, t, L, H⟩ K := fun s1 hl hs => (h s1 hl hs).mono fun s2 ⟨x, q, e⟩ => by
  refine ⟨⟨n, upd t d x, L, H⟩, rfl, fun ℓ hℓ => ?_, ?_, k x q⟩
  · cases ℓ with
    | t i =>
      have h : i ≠ d := fun e => hℓ (by simp [e])
      simp [Same, upd_ne _ _ h]
    | b i => rfl
    | h => rfl
  · subst e
    refine S.ext' rfl fun ℓ => ?_
    cases ℓ with
    | t i =>
      by_cases h : i = d
      · subst h; simp [Same, S.over, upd_same]
      · simp [Same, S.over, upd_ne _ _ h, h]
    | b i => simp [Same, S.over]
    | h => simp [Same, S.over]
theorem evO {s1 s : S} (hs : ∀ ℓ, ℓ ∈ Loc.h :: lk o → Same ℓ s1 s) {y : Operand} (hy : y ∈ o.op.operands) : s1.eval y = s.eval y := evs hs (fun _ h => List.mem_cons_of_mem _ h) hy
theorem argsX_same {s1 s : S} : ∀ {l : List Operand}, (∀ y ∈ l, s1.eval y = s.eval y) → argsX s1 l = argsX s l
  | [], _ => rfl
  | y :: l, h => by
    have h1 := h y (by simp)
    have h2 := argsX_same (s1 := s1) (s := s) (l := l) fun z hz => h z (List.mem_cons_of_mem _ hz)
    simp only [argsX, h1, h2]
theorem elemsX_same {s1 s : S} {sz : Nat} : ∀ {l : List (Nat × Operand)} {k : Nat}, (∀ p ∈ l, s1.eval p.2 = s.eval p.2) → elemsX s1 sz k l = elemsX s sz k l
  | [], k, _ => rfl
  | (i, y) :: l, k, h => by
    have h1 := h (i, y) (by simp)
    have h2 := elemsX_same (s1 := s1) (s := s) (sz := sz) (l := l) (k := k + 1) fun z hz => h z (List.mem_cons_of_mem _ hz)
    simp only at h1
    simp only [elemsX, h1, h2]
/-- .. from a rule for each state of that kind -/
theorem EOp.of {Q : X → Heap → Prop} (h : ∀ (t1 : Nat → X) (L1 : Nat → Option AO), (∀ y, y ∈ o.op.operands → S.eval ⟨n, t1, L1, H⟩ y = S.eval ⟨n, t, L, H⟩ y) → OpW P all o (fun s2 => ∃ x H', Q x H' ∧ s2 = ⟨n, upd t1 d x, L1, H'⟩) ⟨n, t1, L1, H⟩) : EOp P all o (.h :: lk o) d ⟨n, t, L, H⟩ Q := by
  intro s1 hl hs
  obtain ⟨n1, t1, L1, H1⟩ := s1
  have e1 : n1 = n := hl
  have e2 : H1 = H := hs .h (by simp)
  subst e1 e2
  exact h t1 L1 fun y hy => evO hs hy
theorem VOp.of {Q : X → Prop} (h : ∀ (t1 : Nat → X) (L1 : Nat → Option AO), (∀ y, y ∈ o.op.operands → S.eval ⟨n, t1, L1, H⟩ y = S.eval ⟨n, t, L, H⟩ y) → OpW P all o (fun s2 => ∃ x, Q x ∧ s2 = ⟨n, upd t1 d x, L1, H⟩) ⟨n, t1, L1, H⟩) : VOp P all o (.h :: lk o) d ⟨n, t, L, H⟩ Q := by
  intro s1 hl hs
  obtain ⟨n1, t1, L1, H1⟩ := s1
  have e1 : n1 = n := hl
  have e2 : H1 = H := hs .h (by simp)
  subst e1 e2
  exact h t1 L1 fun y hy => evO hs hy
abbrev fpE (o : Oper) (d : Nat) : Fp := (.h :: lk o, [.t d, .h])
theorem LexO.e {Q : X → Heap → Prop} (hj : all[j]? = some o) (ha : aheadO all (hs.map (·.1)) j = true) (hx : okX all j rest = true) (hok : okO all (hs ++ [(j, fpE o d)]) = true) (h : EOp P all o (.h :: lk o) d ⟨n, t, L, H⟩ Q) (k : ∀ x H', Q x H' → LexO P all K rest ⟨n, upd t d x, L, H'⟩ (hs ++ [(j, fpE o d)])) : LexO P all K (j :: rest) ⟨n, t, L, H⟩ hs :=
  .nop hj ha hx hok (.e h k)
variable {x0 y : Operand} {tt e : TypeId} {sz bytes k m : Nat} {z : Nz} {cells r : List A} {es es' : List (List T)} {H0 : Heap} {c : C}
theorem LexO.newBox (hj : all[j]? = some o) (ha : aheadO all (hs.map (·.1)) j = true) (hx : okX all j rest = true) (hok : okO all (hs ++ [(j, fpE o d)]) = true) (ho : o.op = .box e y) (hg : o.guard = none) (hdst : o.dst = some d) (hy : S.eval ⟨n, t, L, H⟩ y = .c c) (hr : c.cells = r) (hd : Nat.blt d n = true)
    (k : ∀ k, H k = none → LexO P all K rest ⟨n, upd t d (.c (.a (.bp k 0))), L, upd H k (some (.box r))⟩ (hs ++ [(j, fpE o d)])) : LexO P all K (j :: rest) ⟨n, t, L, H⟩ hs :=
  .e (Q := fun x H' => ∃ k, H k = none ∧ x = .c (.a (.bp k 0)) ∧ H' = upd H k (some (.box r))) hj ha hx hok (.of fun t1 L1 ev => e_box r hg ho (by rw [ev y (by rw [ho]; simp [Op.operands])]; exact hy) hr (inb' hdst hd) fun k' hk' => ⟨_, _, ⟨k', hk', rfl, rfl⟩, by rw [hdst]; rfl⟩) fun x H' ⟨k', h1, h2, h3⟩ => by subst h2 h3; exact k k' h1
theorem LexO.newAlloc {zv : Value} (hj : all[j]? = some o) (ha : aheadO all (hs.map (·.1)) j = true) (hx : okX all j rest = true) (hok : okO all (hs ++ [(j, fpE o d)]) = true) (ho : o.op = .alloc e) (hg : o.guard = none) (hdst : o.dst = some d) (hz : zeroIs P e zv) (h1 : zv.cells.toList.all Value.oneCell' = true) (hr : zv.cells.toList.map litA = r) (hd : Nat.blt d n = true)
    (k : ∀ k, H k = none → LexO P all K rest ⟨n, upd t d (.c (.a (.bp k 0))), L, upd H k (some (.box r))⟩ (hs ++ [(j, fpE o d)])) : LexO P all K (j :: rest) ⟨n, t, L, H⟩ hs :=
  .e (Q := fun x H' => ∃ k, H k = none ∧ x = .c (.a (.bp k 0)) ∧ H' = upd H k (some (.box r))) hj ha hx hok (.of fun t1 L1 ev => e_alloc r hg ho hz h1 hr (inb' hdst hd) fun k' hk' => ⟨_, _, ⟨k', hk', rfl, rfl⟩, by rw [hdst]; rfl⟩) fun x H' ⟨k', h1, h2, h3⟩ => by subst h2 h3; exact k k' h1
theorem LexO.newMap (kk : KK) (hj : all[j]? = some o) (ha : aheadO all (hs.map (·.1)) j = true) (hx : okX all j rest = true) (hok : okO all (hs ++ [(j, fpE o d)]) = true) (ho : o.op = .makeMap e none) (hg : o.guard = none) (hdst : o.dst = some d) (hd : Nat.blt d n = true)
    (k : ∀ k, H k = none → LexO P all K rest ⟨n, upd t d (.c (.a (.mp k))), L, upd H k (some (.map kk [] 0))⟩ (hs ++ [(j, fpE o d)])) : LexO P all K (j :: rest) ⟨n, t, L, H⟩ hs :=
  .e (Q := fun x H' => ∃ k, H k = none ∧ x = .c (.a (.mp k)) ∧ H' = upd H k (some (.map kk [] 0))) hj ha hx hok (.of fun t1 L1 ev => e_makeMap kk hg ho (inb' hdst hd) fun k' hk' => ⟨_, _, ⟨k', hk', rfl, rfl⟩, by rw [hdst]; rfl⟩) fun x H' ⟨k', h1, h2, h3⟩ => by subst h2 h3; exact k k' h1
theorem LexO.app (hj : all[j]? = some o) (ha : aheadO all (hs.map (·.1)) j = true) (hok1 : okX all j rest = true) (hok : okO all (hs ++ [(j, fpE o d)]) = true) (hg : o.guard = none) (ho : o.op = .call { callee := .builtin .append, args := #[x0, y], argTypes := #[tt, tt] }) (ty : elB P tt e sz bytes = true) (hx : S.eval ⟨n, t, L, H⟩ x0 = .c (.a (.ts k z sz es))) (hH : H k = some (.tip e sz es.length)) (hy : srcX (S.eval ⟨n, t, L, H⟩ y) = some (es', sz)) (hb : (es.length + es'.length) * bytes ≤ 140737488355328 ∧ es.length + es'.length ≤ 9223372036854775807) (hdst : o.dst = some d) (hd : Nat.blt d n = true)
    (hk : ∀ k', H k' = none → LexO P all K rest ⟨n, upd t d (.c (.a (.ts k' z sz (es ++ es')))), L, upd (upd H k none) k' (some (.tip e sz (es ++ es').length))⟩ (hs ++ [(j, fpE o d)])) : LexO P all K (j :: rest) ⟨n, t, L, H⟩ hs :=
  .e (Q := fun x H' => ∃ k', H k' = none ∧ x = .c (.a (.ts k' z sz (es ++ es'))) ∧ H' = upd (upd H k none) k' (some (.tip e sz (es ++ es').length))) hj ha hok1 hok (.of fun t1 L1 ev => e_app hg ho ty (by rw [ev x0 (by rw [ho]; simp [Op.operands, Call.operands])]; exact hx) hH (by rw [ev y (by rw [ho]; simp [Op.operands, Call.operands])]; exact hy) hb hdst hd fun k' hk' => ⟨_, _, ⟨k', hk', rfl, rfl⟩, rfl⟩) fun x H' ⟨k', h1, h2, h3⟩ => by subst h2 h3; exact hk k' h1
theorem LexO.app1 (hj : all[j]? = some o) (ha : aheadO all (hs.map (·.1)) j = true) (hok1 : okX all j rest = true) (hok : okO all (hs ++ [(j, fpE o d)]) = true) (hg : o.guard = none) (h0 : H0 k = none) (ho : o.op = .call { callee := .builtin .append, args := #[x0, y], argTypes := #[tt, tt] }) (ty : elB P tt e sz bytes = true) (hx : S.eval ⟨n, t, L, upd H0 k (some (.tip e sz es.length))⟩ x0 = .c (.a (.ts k z sz es))) (hy : srcX (S.eval ⟨n, t, L, upd H0 k (some (.tip e sz es.length))⟩ y) = some (es', sz)) (hb : (es.length + es'.length) * bytes ≤ 140737488355328 ∧ es.length + es'.length ≤ 9223372036854775807) (hdst : o.dst = some d) (hd : Nat.blt d n = true)
    (hk : ∀ k', H0 k' = none → LexO P all K rest ⟨n, upd t d (.c (.a (.ts k' z sz (es ++ es')))), L, upd H0 k' (some (.tip e sz (es ++ es').length))⟩ (hs ++ [(j, fpE o d)])) : LexO P all K (j :: rest) ⟨n, t, L, upd H0 k (some (.tip e sz es.length))⟩ hs :=
  .app hj ha hok1 hok hg ho ty hx (upd_same _ _ _) hy hb hdst hd fun k' h' => by rw [upd_back h0]; exact hk k' (upd_lt h').2
theorem LexO.appR (hj : all[j]? = some o) (ha : aheadO all (hs.map (·.1)) j = true) (hok1 : okX all j rest = true) (hok : okO all (hs ++ [(j, fpE o d)]) = true) (hg : o.guard = none) (ho : o.op = .call { callee := .builtin .append, args := #[x0, y], argTypes := #[tt, tt] }) (ty : elB P tt e sz bytes = true) (hx : S.eval ⟨n, t, L, H⟩ x0 = .c (.a (.os k 0 m sz))) (hH : H k = some (.row e sz cells)) (hm : cells.length = m * sz) (hy : srcX (S.eval ⟨n, t, L, H⟩ y) = some (es', sz)) (hb : (m + es'.length) * bytes ≤ 140737488355328 ∧ m + es'.length ≤ 9223372036854775807) (hdst : o.dst = some d) (hd : Nat.blt d n = true)
    (hk : ∀ k', H k' = none → LexO P all K rest ⟨n, upd t d (.c (.a (.os k' 0 (m + es'.length) sz))), L, upd (upd H k none) k' (some (.row e sz (cells ++ es'.flatten.map .t)))⟩ (hs ++ [(j, fpE o d)])) : LexO P all K (j :: rest) ⟨n, t, L, H⟩ hs :=
  .e (Q := fun x H' => ∃ k', H k' = none ∧ x = .c (.a (.os k' 0 (m + es'.length) sz)) ∧ H' = upd (upd H k none) k' (some (.row e sz (cells ++ es'.flatten.map .t)))) hj ha hok1 hok (.of fun t1 L1 ev => e_appR hg ho ty (by rw [ev x0 (by rw [ho]; simp [Op.operands, Call.operands])]; exact hx) hH hm (by rw [ev y (by rw [ho]; simp [Op.operands, Call.operands])]; exact hy) hb hdst hd fun k' hk' => ⟨_, _, ⟨k', hk', rfl, rfl⟩, rfl⟩) fun x H' ⟨k', h1, h2, h3⟩ => by subst h2 h3; exact hk k' h1
theorem LexO.appR1 (hj : all[j]? = some o) (ha : aheadO all (hs.map (·.1)) j = true) (hok1 : okX all j rest = true) (hok : okO all (hs ++ [(j, fpE o d)]) = true) (hg : o.guard = none) (h0 : H0 k = none) (ho : o.op = .call { callee := .builtin .append, args := #[x0, y], argTypes := #[tt, tt] }) (ty : elB P tt e sz bytes = true) (hx : S.eval ⟨n, t, L, upd H0 k (some (.row e sz cells))⟩ x0 = .c (.a (.os k 0 m sz))) (hm : cells.length = m * sz) (hy : srcX (S.eval ⟨n, t, L, upd H0 k (some (.row e sz cells))⟩ y) = some (es', sz)) (hb : (m + es'.length) * bytes ≤ 140737488355328 ∧ m + es'.length ≤ 9223372036854775807) (hdst : o.dst = some d) (hd : Nat.blt d n = true)
    (hk : ∀ k', H0 k' = none → LexO P all K rest ⟨n, upd t d (.c (.a (.os k' 0 (m + es'.length) sz))), L, upd H0 k' (some (.row e sz (cells ++ es'.flatten.map .t)))⟩ (hs ++ [(j, fpE o d)])) : LexO P all K (j :: rest) ⟨n, t, L, upd H0 k (some (.row e sz cells))⟩ hs :=
  .appR hj ha hok1 hok hg ho ty hx (upd_same _ _ _) hm hy hb hdst hd fun k' h' => by rw [upd_back h0]; exact hk k' (upd_lt h').2
theorem LexO.appNR (hj : all[j]? = some o) (ha : aheadO all (hs.map (·.1)) j = true) (hok1 : okX all j rest = true) (hok : okO all (hs ++ [(j, fpE o d)]) = true) (hg : o.guard = none) (ho : o.op = .call { callee := .builtin .append, args := #[x0, y], argTypes := #[tt, tt] }) (ty : elB P tt e sz bytes = true) (hx : S.eval ⟨n, t, L, H⟩ x0 = tv (.slice none 0 0)) (hy : srcX (S.eval ⟨n, t, L, H⟩ y) = some (es, sz)) (hb : es.length * bytes ≤ 140737488355328 ∧ es.length ≤ 9223372036854775807) (hdst : o.dst = some d) (hd : Nat.blt d n = true)
    (hk : ∀ k', H k' = none → LexO P all K rest ⟨n, upd t d (.c (.a (.os k' 0 es.length sz))), L, upd H k' (some (.row e sz (es.flatten.map .t)))⟩ (hs ++ [(j, fpE o d)])) : LexO P all K (j :: rest) ⟨n, t, L, H⟩ hs :=
  .e (Q := fun x H' => ∃ k', H k' = none ∧ x = .c (.a (.os k' 0 es.length sz)) ∧ H' = upd H k' (some (.row e sz (es.flatten.map .t)))) hj ha hok1 hok (.of fun t1 L1 ev => OpW.appNR hg ho ty (by rw [ev x0 (by rw [ho]; simp [Op.operands, Call.operands])]; exact hx) (by rw [ev y (by rw [ho]; simp [Op.operands, Call.operands])]; exact hy) hb hdst hd fun k' hk' => ⟨_, _, ⟨k', hk', rfl, rfl⟩, rfl⟩) fun x H' ⟨k', h1, h2, h3⟩ => by subst h2 h3; exact hk k' h1
theorem LexO.appZR (hj : all[j]? = some o) (ha : aheadO all (hs.map (·.1)) j = true) (hok1 : okX all j rest = true) (hok : okO all (hs ++ [(j, fpE o d)]) = true) (hg : o.guard = none) (ho : o.op = .call { callee := .builtin .append, args := #[x0, y], argTypes := #[tt, tt] }) (ty : elB P tt e sz bytes = true) (hx : S.eval ⟨n, t, L, H⟩ x0 = .c (.a (.ts k z sz []))) (hy : srcX (S.eval ⟨n, t, L, H⟩ y) = some (es, sz)) (hb : es.length * bytes ≤ 140737488355328 ∧ es.length ≤ 9223372036854775807) (hdst : o.dst = some d) (hd : Nat.blt d n = true)
    (hk : ∀ k', H k' = none → LexO P all K rest ⟨n, upd t d (.c (.a (.os k' 0 es.length sz))), L, upd H k' (some (.row e sz (es.flatten.map .t)))⟩ (hs ++ [(j, fpE o d)])) : LexO P all K (j :: rest) ⟨n, t, L, H⟩ hs :=
  .e (Q := fun x H' => ∃ k', H k' = none ∧ x = .c (.a (.os k' 0 es.length sz)) ∧ H' = upd H k' (some (.row e sz (es.flatten.map .t)))) hj ha hok1 hok (.of fun t1 L1 ev => OpW.appZR hg ho ty (by rw [ev x0 (by rw [ho]; simp [Op.operands, Call.operands])]; exact hx) (by rw [ev y (by rw [ho]; simp [Op.operands, Call.operands])]; exact hy) hb hdst hd fun k' hk' => ⟨_, _, ⟨k', hk', rfl, rfl⟩, rfl⟩) fun x H' ⟨k', h1, h2, h3⟩ => by subst h2 h3; exact hk k' h1
theorem LexO.callE {f : FuncId} {ys : Array Operand} {ts : Array TypeId} {args : List C} {Q : X → Heap → Prop} (hj : all[j]? = some o) (ha : aheadO all (hs.map (·.1)) j = true) (hok1 : okX all j rest = true) (hok : okO all (hs ++ [(j, fpE o d)]) = true) (ho : o.op = .call { callee := .value (.func f), args := ys, argTypes := ts }) (hg : o.guard = none) (hdst : o.dst = some d) (hd : Nat.blt d n = true) (hf : fnB P f = true) (hargs : argsX ⟨n, t, L, H⟩ ys.toList = some args) (h : Spec P f args H Q) (hl : ∀ x H', Q x H' → x.loc = none)
    (k : ∀ x H', Q x H' → LexO P all K rest ⟨n, upd t d x, L, H'⟩ (hs ++ [(j, fpE o d)])) : LexO P all K (j :: rest) ⟨n, t, L, H⟩ hs :=
  .e (Q := Q) hj ha hok1 hok (.of fun t1 L1 ev => OpW.callE ho hg hdst hd hf (by rw [argsX_same fun y hy => ev y (by rw [ho]; simp only [Op.operands, Call.operands]; simpa using .inr (by simpa using hy))]; exact hargs) h hl fun x H' q => ⟨x, H', q, rfl⟩) k
theorem LexO.callV {zf : Operand} {f : FuncId} {cs : List A} {ys : Array Operand} {ts : Array TypeId} {args : List C} {Q : X → Heap → Prop} (hj : all[j]? = some o) (ha : aheadO all (hs.map (·.1)) j = true) (hok1 : okX all j rest = true) (hok : okO all (hs ++ [(j, fpE o d)]) = true) (ho : o.op = .call { callee := .value zf, args := ys, argTypes := ts }) (hg : o.guard = none) (hdst : o.dst = some d) (hd : Nat.blt d n = true) (hz : fnX (S.eval ⟨n, t, L, H⟩ zf) = some (f, cs)) (hf : fnB P f = true) (hargs : argsX ⟨n, t, L, H⟩ ys.toList = some args) (h : Spec P f (args ++ cs.map C.a) H Q) (hl : ∀ x H', Q x H' → x.loc = none)
    (k : ∀ x H', Q x H' → LexO P all K rest ⟨n, upd t d x, L, H'⟩ (hs ++ [(j, fpE o d)])) : LexO P all K (j :: rest) ⟨n, t, L, H⟩ hs :=
  .e (Q := Q) hj ha hok1 hok (.of fun t1 L1 ev => OpW.callV ho hg hdst hd (by rw [ev zf (by rw [ho]; simp [Op.operands, Call.operands])]; exact hz) hf (by rw [argsX_same fun y hy => ev y (by rw [ho]; simp only [Op.operands, Call.operands]; simpa using .inr (by simpa using hy))]; exact hargs) h hl fun x H' q => ⟨x, H', q, rfl⟩) k
end
end Go.Proofs.Ytikcmjamioopbaa.E
/- Loops over functions: the rounds' code, the call that makes a round, the loop. Plain theorems, for any program. -/
namespace Go.Proofs.Ytikcmjamioopbaa.E
open Go.RowKit
set_option linter.unusedVariables false
/-! ### no operation defers a call: a round's frame runs it as any other -/
def ndB (ops : Array Oper) : Bool := ops.toList.all fun o => match o.op with | .defer _ => false | _ => true
section
variable {P : Program} {l : Nat} {o : Oper} {ops : Array Oper} {md : Region.Mode} {Q : Exit → Act → World → Prop}
theorem wpIn_round (hnd : ∀ c, o.op ≠ .defer c) {a : Act} {w : World} {K : Act → World → Prop} (h : o.wpIn Fence.wide 0 P a w K Q) : o.wpIn (Fence.wide.inRound l) 0 P a w K Q := by
  unfold Oper.wpIn at *
  refine ⟨fun _ _ => trivial, ?_⟩
  have h := h.2
  rw [Oper.semAt_eq _ _ _ hnd] at h ⊢
  generalize (execOp a.eval o).run P w = r at *
  cases r with
  | ok n w' => cases n <;> exact h
  | halt x w' => cases x <;> exact h
theorem nd_at (h : ndB ops = true) {i : Nat} {o : Oper} (ho : ops[i]? = some o) : ∀ c, o.op ≠ .defer c := fun c e => by
  have := List.all_eq_true.1 h o (by have := Array.mem_of_getElem? ho; simpa using this)
  rw [e] at this; cases this
theorem wpOpIn_round (h : ndB ops = true) {i : Nat} {K : Act → World → Prop} {a : Act} {w : World} (hh : wpOpIn Fence.wide 0 P ops Q i K a w) : wpOpIn (Fence.wide.inRound l) 0 P ops Q i K a w := by
  unfold wpOpIn at *
  cases ho : ops[i]? with
  | none => rw [ho] at hh; exact hh
  | some o =>
    rw [ho] at hh
    simp only at hh ⊢
    split
    · rename_i hw; rw [if_pos hw] at hh; exact wpIn_round (nd_at h ho) hh
    · rename_i hw; rw [if_neg hw] at hh; exact hh
theorem wpAnyIn_round (h : ndB ops = true) : ∀ (fuel : Nat) (Lm : Array Bool) (a : Act) (w : World), wpAnyIn Fence.wide 0 P md ops Q fuel Lm a w → wpAnyIn (Fence.wide.inRound l) 0 P md ops Q fuel Lm a w
  | 0, _, _, _, hh => hh
  | fuel + 1, Lm, a, w, hh => ⟨hh.1, fun i hi => wpOpIn_round h (wpOpIn_mono (fun a' w' h' => wpAnyIn_round h fuel _ a' w' h') (hh.2 i hi))⟩
theorem wpOpsIn_round (h : ndB ops = true) : ∀ (is : List Nat) (a : Act) (w : World), wpOpsIn Fence.wide 0 P ops Q is a w → wpOpsIn (Fence.wide.inRound l) 0 P ops Q is a w
  | [], _, _, hh => hh
  | i :: is, a, w, hh => by
    rw [wpOpsIn_cons] at hh ⊢
    exact wpOpIn_round h (wpOpIn_mono (fun a' w' h' => wpOpsIn_round h is a' w' h') hh)
end
/-! ### code in a round's frame -/
def AWR (P : Program) (l : Nat) (cd : Code) (Q : Exit → S → Prop) (s : S) : Prop :=
  ∀ c a w, Sat c s a w → cd.wpIn (Fence.wide.inRound l) 0 P (fun e a' w' => ∃ s' c', Q e s' ∧ Sat c' s' a' w' ∧ Ext c s.own w c' s'.own w') a w
section
variable {P : Program} {l : Nat} {Q Q' : Exit → S → Prop} {s : S}
theorem AWR.skip (h : Q .normal s) : AWR P l .skip Q s := fun c a w g => wpIn_skip ⟨s, c, h, g, .refl _ _ _⟩
theorem AWR.exit {id : Nat} (h : Q (.exit id) s) : AWR P l (.exit id) Q s := fun c a w g => wpIn_exit ⟨s, c, h, g, .refl _ _ _⟩
theorem AWR.ret (h : Q .ret s) : AWR P l .ret Q s := fun c a w g => wpIn_ret ⟨s, c, h, g, .refl _ _ _⟩
theorem AWR.seq {x y : Code} (h : AWR P l x (Eth (AWR P l y Q) Q) s) : AWR P l (.seq x y) Q s := by
  intro c a w g
  refine wpIn_seq (wpIn_mono (h c a w g) ?_)
  rintro e a1 w1 ⟨s1, c1, q, g1, x1⟩
  cases e with
  | normal => exact wpIn_mono (q c1 a1 w1 g1) fun e a2 w2 ⟨s2, c2, q2, g2, x2⟩ => ⟨s2, c2, q2, g2, x1.trans x2⟩
  | _ => exact ⟨s1, c1, q, g1, x1⟩
theorem AWR.mono {cd : Code} (h : AWR P l cd Q s) (hq : ∀ e s', Q e s' → Q' e s') : AWR P l cd Q' s :=
  fun c a w g => wpIn_mono (h c a w g) fun _ _ _ ⟨s', c', q, r⟩ => ⟨s', c', hq _ _ q, r⟩
theorem AWR.cond {y : Operand} {t e : Code} (b : Bool) (hy : s.eval y = tv (.bool b)) (ht : b = true → AWR P l t Q s) (he : b = false → AWR P l e Q s) : AWR P l (.cond y t e) Q s := by
  intro c a w g
  have hv := g.eval y
  rw [hy] at hv
  have hv : a.eval y = .bool b := rep_tv hv
  refine wpIn_cond hv ?_
  cases b
  · exact he rfl c a w g
  · exact ht rfl c a w g
theorem AWR.condD {y : Operand} {t e : Code} {p : Prop} [Decidable p] (hy : s.eval y = tv (.bool (decide p))) (ht : p → AWR P l t Q s) (he : ¬ p → AWR P l e Q s) : AWR P l (.cond y t e) Q s :=
  AWR.cond _ hy (fun h => ht (of_decide_eq_true h)) (fun h => he (of_decide_eq_false h))
theorem AWR.condT {y : Operand} {t e : Code} (hy : s.eval y = bX true) (ht : AWR P l t Q s) : AWR P l (.cond y t e) Q s := AWR.cond true hy (fun _ => ht) (fun h => by cases h)
theorem AWR.condF {y : Operand} {t e : Code} (hy : s.eval y = bX false) (he : AWR P l e Q s) : AWR P l (.cond y t e) Q s := AWR.cond false hy (fun h => by cases h) (fun _ => he)
theorem AWR.block {id : Nat} {cd : Code} (h : AWR P l cd (EBlock id Q) s) : AWR P l (.block id cd) Q s := by
  intro c a w g
  refine wpIn_block (wpIn_mono (h c a w g) ?_)
  rintro e a1 w1 ⟨s1, c1, q, g1, x1⟩
  cases e with
  | exit id' =>
    simp only [Exit.inBlock, EBlock] at q ⊢
    split
    · rename_i he; rw [if_pos he] at q; exact ⟨s1, c1, q, g1, x1⟩
    · rename_i he; rw [if_neg he] at q; exact ⟨s1, c1, q, g1, x1⟩
  | _ => exact ⟨s1, c1, q, g1, x1⟩
theorem AWR.wk {cd : Code} {s' : S} (hw : Wk s s') (h : AWR P l cd Q s') : AWR P l cd Q s := fun c a w g => by
  obtain ⟨c', g', x'⟩ := hw c a w g
  exact wpIn_mono (h c' a w g') fun e a1 w1 ⟨s1, c1, q, g1, x1⟩ => ⟨s1, c1, q, g1, x'.trans x1⟩
theorem AWR.gh {cd : Code} {F : S → Prop} (hg : Gh s F) (h : ∀ s', F s' → AWR P l cd Q s') : AWR P l cd Q s := fun c a w g => by
  obtain ⟨s', c', hf, g', x'⟩ := hg c a w g
  exact wpIn_mono (h s' hf c' a w g') fun e a1 w1 ⟨s1, c1, q, g1, x1⟩ => ⟨s1, c1, q, g1, x'.trans x1⟩
theorem AWR.seqM {x y : Code} (M : S → Prop) (h : AWR P l x (Eth (fun s' => ∃ s'', Wk s' s'' ∧ M s'') Q) s) (hy : ∀ s', M s' → AWR P l y Q s') : AWR P l (.seq x y) Q s :=
  AWR.seq (h.mono fun e s' q => by
    cases e with
    | normal => obtain ⟨s'', hk, hm⟩ := q; exact (hy s'' hm).wk hk
    | _ => exact q)
theorem AWR.reg {id : Nat} {ops : List Oper} (nd : ndB ops.toArray = true) (h : SeqK P ops.toArray (Q .normal) ops s) : AWR P l (.region id ops.toArray false) Q s := fun c a w g => wpIn_region (wpOpsIn_round nd _ _ _ (seq_start h g))
theorem AWR.draw {id : Nat} {ops : List Oper} (nd : ndB ops.toArray = true) (hm : P.follows .mixedOrders = true) (h : LexK P ops.toArray (Q .normal) ops s 0 []) : AWR P l (.region id ops.toArray true) Q s := fun c a w g => wpIn_region_any hm (wpAnyIn_round nd _ _ _ _ (lex_start h g))
theorem AWR.drawO {id : Nat} {ops : List Oper} (pi : List Nat) (nd : ndB ops.toArray = true) (hm : P.follows .mixedOrders = true) (hp : permB ops.length pi = true) (h : LexO P ops.toArray (Q .normal) pi s []) : AWR P l (.region id ops.toArray true) Q s := fun c a w g => wpIn_region_any hm (wpAnyIn_round nd _ _ _ _ (lexO_start pi hp h g))
end
end Go.Proofs.Ytikcmjamioopbaa.E
/- Loops over functions: the call that makes a round, what an iterator promises, the loop. Plain theorems, for any program. -/
namespace Go.Proofs.Ytikcmjamioopbaa.E
open Go.RowKit
set_option linter.unusedVariables false
/-! ### a call of yield -/
def YSpec (P : Program) (kl : Nat) (args : List C) (H : Heap) (Q : Bool → Heap → Prop) : Prop :=
  ∀ (c : Ctx) (w : World) (vs : Array Value) (b m : Nat), Conc c (ownH H) w → c.β kl = some (b, m) → Reps (RepC c.μ c.β) args vs.toList →
    YieldAt Fence.wide 0 P b vs w fun e w' => ∃ r H' c', e = .returned (.bool r) ∧ Q r H' ∧ Conc c' (ownH H') w' ∧ Ext c (ownH H) w c' (ownH H') w'
section
variable {P : Program} {all : Array Oper} {o : Oper} {K : S → Prop} {rest : List Oper} {n d : Nat} {t : Nat → X} {L : Nat → Option AO} {H : Heap}
theorem OpW.callY {z : Operand} {kl : Nat} {ys : Array Operand} {ts : Array TypeId} {args : List C} {Q : Bool → Heap → Prop} (ho : o.op = .call { callee := .value z, args := ys, argTypes := ts }) (hg : o.guard = none) (hdst : o.dst = some d) (hd : Nat.blt d n = true) (hz : S.eval ⟨n, t, L, H⟩ z = .c (.a (.yl kl))) (ha : argsX ⟨n, t, L, H⟩ ys.toList = some args) (h : YSpec P kl args H Q)
    (k : ∀ r H', Q r H' → K ⟨n, upd t d (bX r), L, H'⟩) : OpW P all o K ⟨n, t, L, H⟩ := fun c a w g => by
  unfold opRun
  rw [if_pos (by simp [Region.wanted, hg])]
  have hr : Reps (RepC c.μ c.β) args (ys.map a.eval).toList := by
    have := args_rep (c := c) (f := a.eval) ha fun y _ => g.eval y
    simpa using this
  have hzv := g.eval z
  rw [hz] at hzv
  have hzv : RepA c.μ c.β (.yl kl) (a.eval z) := hzv
  obtain ⟨b, m, hb, hv⟩ : ∃ b m, c.β kl = some (b, m) ∧ a.eval z = .func (.yield b) #[] #[] := by
    generalize a.eval z = v at hzv
    cases hzv with
    | yl h => exact ⟨_, _, h, rfl⟩
  have hc : Conc c (ownH H) w := g.conc.sub fun i x h => by cases i with
    | e k => exact h
    | l d => cases h
  obtain ⟨fn, tmps, as, bd, hrun, hround⟩ := h c w (ys.map a.eval) b m hc hb hr
  have hex : (execOp a.eval o).run P w = .ok (.round b fn tmps as bd) w := by
    simp [execOp, ho, resolve, hv, Deferred.ofValue, invoke, hrun]
  refine ⟨fun _ _ => trivial, ?_⟩
  rw [show o.semAt Fence.wide.round a.eval = execOp a.eval o from rfl, hex, Oper.uponIn_round]
  refine ⟨fun e => by simp [Fence.wide] at e, RoundIn.mono hround ?_⟩
  rintro e w' ⟨r, H', c', rfl, hq, hc', hx'⟩
  obtain ⟨g', x'⟩ := g.call hc' hx'
  refine ⟨_, { c' with lam := c.lam }, k r H' hq, ?_, x'⟩
  · have := g'.put (some d) (x := bX r) (v := .bool r) (by have h9 := inb' (o := o) hdst hd; rw [hdst] at h9; exact h9) (tv_rep rfl) (fun _ h => by cases h)
    rw [hdst]; exact this
theorem SeqK.callY {z : Operand} {kl : Nat} {ys : Array Operand} {ts : Array TypeId} {args : List C} {Q : Bool → Heap → Prop} (ho : o.op = .call { callee := .value z, args := ys, argTypes := ts }) (hg : o.guard = none) (hdst : o.dst = some d) (hd : Nat.blt d n = true) (hz : S.eval ⟨n, t, L, H⟩ z = .c (.a (.yl kl))) (ha : argsX ⟨n, t, L, H⟩ ys.toList = some args) (h : YSpec P kl args H Q)
    (k : ∀ r H', Q r H' → SeqK P all K rest ⟨n, upd t d (bX r), L, H'⟩) : SeqK P all K (o :: rest) ⟨n, t, L, H⟩ := SeqK.any (OpW.callY ho hg hdst hd hz ha h k)
end
/-! ### a round -/
def keepC : X → Option C
  | .c x => some x
  | _ => none
def cX : X → X
  | .c x => .c x
  | _ => .any
/-- the slots of a round: as they stood when the loop was entered, then yield's arguments -/
def roundT (t : Nat → X) : List Nat → List C → Nat → X
  | p :: ps, x :: xs => roundT (upd t p (.c x)) ps xs
  | _, _ => t
def jumpOf : Exit → Option Code
  | .ret => some .ret
  | .exit id => some (.exit id)
  | _ => none
def RPost (J : Heap → Prop) (Jx : Exit → Heap → Prop) : Exit → S → Prop
  | .normal, s => ∃ H', (∀ k o, H' k = some o → s.H k = some o) ∧ J H'
  | .exit id, s => ∃ H', (∀ k o, H' k = some o → s.H k = some o) ∧ Jx (.exit id) H'
  | .ret, s => ∃ H', (∀ k o, H' k = some o → s.H k = some o) ∧ Jx .ret H'
  | _, _ => False
theorem roundT_rep {c : Ctx} : ∀ (ps : List Nat) (xs : List C) (vs : List Value) (t : Nat → X) (tm : Array Value), Reps (RepC c.μ c.β) xs vs → ps.length = xs.length → (∀ p, p ∈ ps → p < tm.size) → (∀ i, RepX c (t i) (tm.getD i undef)) →
    ∀ i, RepX c (roundT t ps xs i) (((ps.zip vs).foldl (fun tm q => tm.setIfInBounds q.1 q.2) tm).getD i undef)
  | [], [], vs, t, tm, hr, hl, hp, h => by
    have : vs = [] := List.eq_nil_of_length_eq_zero hr.1.symm
    subst this
    exact h
  | [], _ :: _, _, _, _, _, hl, _, _ => by simp at hl
  | _ :: _, [], _, _, _, _, hl, _, _ => by simp at hl
  | p :: ps, x :: xs, vs, t, tm, hr, hl, hp, h => by
    cases vs with
    | nil => have := hr.1; simp at this
    | cons v vs =>
      have h1 : RepC c.μ c.β x v := hr.2 0 x v rfl rfl
      have h2 : Reps (RepC c.μ c.β) xs vs := ⟨by have := hr.1; simpa using this, fun i y u hy hu => hr.2 (i + 1) y u (by simpa using hy) (by simpa using hu)⟩
      have hlt := hp p (by simp)
      simp only [List.zip_cons_cons, List.foldl_cons, roundT]
      refine roundT_rep ps xs vs (upd t p (.c x)) (tm.setIfInBounds p v) h2 (by simpa using hl) (fun q hq => by rw [Array.size_setIfInBounds]; exact hp q (by simp [hq])) fun i => ?_
      simp only [Array.getD_eq_getD_getElem?, Array.getElem?_setIfInBounds]
      by_cases e : p = i
      · subst e
        rw [upd_same, if_pos rfl, if_pos hlt]
        exact h1
      · rw [upd_ne _ _ (Ne.symm e), if_neg e]
        have := h i
        rwa [Array.getD_eq_getD_getElem?] at this
theorem roundT_loc : ∀ (ps : List Nat) (xs : List C) (t : Nat → X), (∀ i, (t i).loc = none) → ∀ i, (roundT t ps xs i).loc = none
  | [], _, t, h, i => h i
  | _ :: _, [], t, h, i => h i
  | p :: ps, x :: xs, t, h, i => roundT_loc ps xs _ (fun j => by
    by_cases e : j = p
    · subst e; rw [upd_same]; rfl
    · rw [upd_ne _ _ e]; exact h j) i
theorem foldl_size : ∀ (l : List (Nat × Value)) (tm : Array Value), (l.foldl (fun tm q => tm.setIfInBounds q.1 q.2) tm).size = tm.size
  | [], _ => rfl
  | q :: l, tm => by rw [List.foldl_cons, foldl_size l, Array.size_setIfInBounds]
section
variable {P : Program}
/-- one round: yield's call, out of the body's walk -/
theorem round_spec {kl : Nat} {r : Loop} {t : Nat → X} {H1 : Heap} {args : List C} {J : Heap → Prop} {Jx : Exit → Heap → Prop} (hst : r.state = .ready) (hpd : r.pending = none) (hk : H1 kl = none) (hsz : args.length = r.params.size) (hin : ∀ p, p ∈ r.params.toList → p < r.tmps.size)
    (hbody : ∀ l, AWR P l r.assign (fun e s1 => e = .normal ∧ AWR P l r.body (RPost J Jx) s1) ⟨r.tmps.size, roundT (fun i => cX (t i)) r.params.toList args, fun _ => none, H1⟩) :
    YSpec P kl args (upd H1 kl (some (.loop r fun i => keepC (t i)))) fun b H' => (b = true ∧ ∃ H2, J H2 ∧ H2 kl = none ∧ H' = upd H2 kl (some (.loop r fun i => keepC (t i)))) ∨
      (b = false ∧ ∃ e cd H2, jumpOf e = some cd ∧ Jx e H2 ∧ H2 kl = none ∧ H' = upd H2 kl (some (.loop { r with state := .done, pending := some cd } fun i => keepC (t i)))) := by
  intro c w vs lb m hc hβ hrep
  obtain ⟨b0, m0, hp, hrec, htm⟩ := hc.obj (.e kl) _ (show upd H1 kl (some (.loop r fun i => keepC (t i))) kl = _ from upd_same _ _ _) (by simp [AO.empty])
  have hp : c.β kl = some (b0, m0) := hp
  rw [hβ] at hp; injection hp with hp; injection hp with e1 e2; subst e1 e2
  have hlt : lb < w.heap.size := (Array.getElem?_eq_some_iff.1 hrec).1
  have hvs : vs.size = r.params.size := by rw [← hsz, hrep.1, Array.length_toList]
  refine ⟨r.fn, _, r.assign, r.body, run_yield hrec hvs, roundIn_of_wpIn trivial ?_⟩
  obtain ⟨c0, hc0⟩ : ∃ c0 : Ctx, c0 = { c with base := w.heap.size } := ⟨_, rfl⟩
  -- the objects without the record
  have sub1 : ∀ i x, ownH H1 i = some x → ownH (upd H1 kl (some (.loop r fun i => keepC (t i)))) i = some x := fun i x h => by
    cases i with
    | l d => cases h
    | e k =>
      have h : H1 k = some x := h
      show upd H1 kl _ k = some x
      rw [upd_ne _ _ (fun e => by subst e; rw [hk] at h; cases h)]; exact h
  have hkne : ∀ k x, H1 k = some x → k ≠ kl := fun k x h e => by subst e; rw [hk] at h; cases h
  have un0 : ∀ i x n, ownH H1 i = some x → ¬ x.empty → c.pos i ≠ some (lb, n) := fun i x n hi hx hpos => by
    have := hc.inj i (.e kl) x _ lb n m (sub1 i x hi) (show upd H1 kl _ kl = _ from upd_same _ _ _) hx (by simp [AO.empty]) hpos hβ
    subst this
    have hi : H1 kl = some x := hi
    rw [hk] at hi; cases hi
  have hcn : Conc c0 (ownH H1) w := by subst hc0; exact (hc.sub sub1).rebase
  have hown : S.own ⟨r.tmps.size, roundT (fun i => cX (t i)) r.params.toList args, fun _ => none, H1⟩ = ownH H1 := by funext i; cases i <;> rfl
  have hloc0 : ∀ i, (cX (t i)).loc = none := fun i => by cases t i <;> rfl
  have htoks : ((r.params.zip vs).foldl (fun t (x : Nat × Value) => t.setIfInBounds x.1 x.2) r.tmps) = ((r.params.toList.zip vs.toList).foldl (fun tm q => tm.setIfInBounds q.1 q.2) r.tmps) := by
    rw [← Array.foldl_toList, Array.toList_zip]
  have g0 : Sat c0 ⟨r.tmps.size, roundT (fun i => cX (t i)) r.params.toList args, fun _ => none, H1⟩ { tmps := (r.params.zip vs).foldl (fun t (x : Nat × Value) => t.setIfInBounds x.1 x.2) r.tmps, defers := [] } w := by
    refine ⟨by rw [hown]; exact hcn, by rw [htoks]; exact foldl_size _ _, fun i => ?_, .nil (by subst hc0; exact Nat.le_refl _), fun i d h => ?_⟩
    · rw [htoks]
      refine roundT_rep (c := c0) _ _ _ _ _ (by subst hc0; exact hrep) (by simpa using hsz.symm) (fun p hp => hin p hp) (fun i => ?_) i
      cases ht : t i with
      | c x =>
        have := htm i x (by show keepC (t i) = some x; rw [ht]; rfl)
        subst hc0
        exact this
      | _ => trivial
    · have h : (roundT (fun i => cX (t i)) r.params.toList args i).loc = some d := h
      rw [roundT_loc _ _ _ hloc0 i] at h; cases h
  refine wpIn_mono (hbody lb c0 _ w g0) ?_
  rintro e a1 w1 ⟨s1, c1, ⟨rfl, hb⟩, g1, x1⟩
  rw [hown] at x1
  have pos0 : ∀ i, c0.pos i = c.pos i := fun i => by subst hc0; cases i <;> rfl
  have hl1 : w1.heap[lb]? = some (.loop r) := (x1.blk lb hlt fun i x n hi hx hpos => un0 i x n hi hx (by rw [← pos0]; exact hpos)).trans hrec
  have un1 : ∀ i x n, s1.own i = some x → ¬ x.empty → c1.pos i ≠ some (lb, n) := fun i x n hi hx hpos => by
    rcases x1.own i x lb n hi hx hpos with h1 | ⟨j, y, q, h1, h2, h3⟩
    · omega
    · exact un0 j y q h1 h2 (by rw [← pos0]; exact h3)
  have hlt1 : lb < w1.heap.size := (Array.getElem?_eq_some_iff.1 hl1).1
  refine ⟨_, run_beginRound hl1 hst, ?_⟩
  obtain ⟨w2, hw2⟩ : ∃ w2, w2 = w1.putObj lb (.loop { r with state := .busy }) := ⟨_, rfl⟩
  rw [← hw2]
  have hl2 : w2.heap[lb]? = some (.loop { r with state := .busy }) := by rw [hw2]; exact World.putObj_heap_same hlt1
  have hne : ∀ {u : World} {x : Loop} {b o v}, u.heap[lb]? = some (.loop x) → u.cell? ⟨b, o, none⟩ = some v → b ≠ lb := fun {u x b o v} h1 h2 e => by
    subst e; simp only [World.cell?, h1] at h2; cases h2
  have g2 : Sat c1 s1 a1 w2 := by
    refine ⟨⟨fun b o u hu => ?_, fun i x hi hx => ?_, g1.conc.inj, g1.conc.fin⟩, g1.size, g1.tmps, g1.defers.blk (by rw [hw2, World.putObj_size]; exact Nat.le_refl _) (fun D hD => ?_), g1.wf⟩
    · have h1 := g1.conc.mem b o u hu
      have h2 := hne hl1 h1
      rw [hw2]
      unfold World.cell? at h1 ⊢
      rw [World.putObj_heap_other h2]; exact h1
    · obtain ⟨b, n, h1, h2⟩ := g1.conc.obj i x hi hx
      exact ⟨b, n, h1, h2.keep (by rw [hw2]; exact World.putObj_heap_other fun e => un1 i x n hi hx (by rw [← e]; exact h1)) (fun _ _ _ h => h) (fun _ _ h => h) (fun _ _ h => h)⟩
    · rw [hw2]; exact World.putObj_heap_other fun e => by subst e; rw [hl1] at hD; cases hD
  refine wpIn_mono (hb c1 a1 w2 g2) ?_
  rintro e a2 w3 ⟨s2, c2, q, g3, x2⟩
  have hlt2 : lb < w2.heap.size := (Array.getElem?_eq_some_iff.1 hl2).1
  have hl3 : w3.heap[lb]? = some (.loop { r with state := .busy }) := (x2.blk lb hlt2 fun i x n hi hx => un1 i x n hi hx).trans hl2
  have hlt3 : lb < w3.heap.size := (Array.getElem?_eq_some_iff.1 hl3).1
  have un2 : ∀ i x n, s2.own i = some x → ¬ x.empty → c2.pos i ≠ some (lb, n) := fun i x n hi hx hpos => by
    rcases x2.own i x lb n hi hx hpos with h1 | ⟨j, y, q, h1, h2, h3⟩
    · omega
    · exact un1 j y q h1 h2 h3
  -- the same with the record as it was
  have xR : Ext c0 (ownH H1) w c2 s2.own (w3.putObj lb (.loop r)) := by
    refine x1.trans ⟨x2.os.trans (by rw [hw2]; rfl), x2.tape.trans (by rw [hw2]; rfl), x2.output.trans (by rw [hw2]; rfl), ?_, fun b hb hn => ?_, x2.mem, fun b o u hu => ?_, x2.ext, fun i x b n h1 h2 h3 => ?_, x2.base, x2.nm⟩
    · have := x2.size; rw [hw2, World.putObj_size] at this; rw [World.putObj_size]; exact this
    · by_cases e : b = lb
      · subst e; rw [World.putObj_heap_same hlt3, hl1]
      · rw [World.putObj_heap_other e, x2.blk b (by rw [hw2, World.putObj_size]; exact hb) hn, hw2, World.putObj_heap_other e]
    · rcases x2.new b o u hu with h1 | h1 | h1
      · exact .inl h1
      · exact .inr (.inl (by rw [hw2, World.putObj_size] at h1; exact h1))
      · exact .inr (.inr h1)
    · rcases x2.own i x b n h1 h2 h3 with h4 | h4
      · exact .inl (by rw [hw2, World.putObj_size] at h4; exact h4)
      · exact .inr h4
  have hβ2 : c2.β kl = some (lb, m) := xR.ext kl _ (by subst hc0; exact hβ)
  have hkl2 : ∀ H2 : Heap, (∀ k o, H2 k = some o → s2.H k = some o) → H2 kl = none := fun H2 hs => by
    cases h2 : H2 kl with
    | none => rfl
    | some y =>
      rcases xR.nm kl y (hs kl y h2) with h1 | h1
      · exact absurd hk h1
      · subst hc0; rw [show c.β kl = _ from hβ] at h1; cases h1
  have fin : ∀ (r' : Loop) (H2 : Heap), r'.tmps = r.tmps → (∀ k o, H2 k = some o → s2.H k = some o) →
      ∃ c', Conc c' (ownH (upd H2 kl (some (.loop r' fun i => keepC (t i))))) (w3.putObj lb (.loop r')) ∧ Ext c (ownH (upd H1 kl (some (.loop r fun i => keepC (t i))))) w c' (ownH (upd H2 kl (some (.loop r' fun i => keepC (t i))))) (w3.putObj lb (.loop r')) := by
    intro r' H2 htmps hs
    have hk2 := hkl2 H2 hs
    have own2 : ∀ i x, ownH (upd H2 kl (some (.loop r' fun i => keepC (t i)))) i = some x → (i = .e kl ∧ x = .loop r' fun i => keepC (t i)) ∨ (i ≠ .e kl ∧ s2.own i = some x) := fun i x h => by
      cases i with
      | l d => cases h
      | e k =>
        have h : upd H2 kl _ k = some x := h
        by_cases e : k = kl
        · subst e; rw [upd_same] at h; injection h with h; exact .inl ⟨rfl, h.symm⟩
        · rw [upd_ne _ _ e] at h; exact .inr ⟨by simpa using e, hs k x h⟩
    refine ⟨{ c2 with base := c.base }, Conc.rebase (c := c2) ⟨fun b o u hu => ?_, fun i x hi hx => ?_, fun i j x y b n1 n2 hi hj hx hy h1 h2 => ?_, ?_⟩, ?_⟩
    · have h1 := g3.conc.mem b o u hu
      have h2 := hne hl3 h1
      unfold World.cell? at h1 ⊢
      rw [World.putObj_heap_other h2]; exact h1
    · rcases own2 i x hi with ⟨rfl, rfl⟩ | ⟨hne', h1⟩
      · refine ⟨lb, m, hβ2, World.putObj_heap_same hlt3, fun j y hy => ?_⟩
        rw [htmps]
        exact RepC.mono xR.mem xR.ext (by subst hc0; exact htm j y hy)
      · obtain ⟨b, n, h2, h3⟩ := g3.conc.obj i x h1 hx
        exact ⟨b, n, h2, h3.keep (World.putObj_heap_other fun e => un2 i x n h1 hx (by rw [← e]; exact h2)) (fun _ _ _ h => h) (fun _ _ h => h) (fun _ _ h => h)⟩
    · rcases own2 i x hi with ⟨rfl, rfl⟩ | ⟨hni, hi'⟩
      · rcases own2 j y hj with ⟨rfl, rfl⟩ | ⟨hnj, hj'⟩
        · rfl
        · have h1 : c2.β kl = some (b, n1) := h1
          rw [hβ2] at h1; injection h1 with h1; injection h1 with e1 e2; subst e1
          exact absurd h2 (un2 j y n2 hj' hy)
      · rcases own2 j y hj with ⟨rfl, rfl⟩ | ⟨hnj, hj'⟩
        · have h2 : c2.β kl = some (b, n2) := h2
          rw [hβ2] at h2; injection h2 with h2; injection h2 with e1 e2; subst e1
          exact absurd h1 (un2 i x n1 hi' hx)
        · exact g3.conc.inj i j x y b n1 n2 hi' hj' hx hy h1 h2
    · obtain ⟨N, hN⟩ := g3.conc.fin
      refine ⟨N, fun k hkN => ⟨(hN k hkN).1, ?_⟩⟩
      have e : k ≠ kl := fun e => by subst e; rw [(hN k hkN).1] at hβ2; cases hβ2
      show upd H2 kl _ k = none
      rw [upd_ne _ _ e]
      cases h2 : H2 k with
      | none => rfl
      | some y => have := hs k y h2; rw [show s2.H k = none from (hN k hkN).2] at this; cases this
    · have own1 : ∀ i x, ownH H1 i = some x → ownH (upd H1 kl (some (.loop r fun i => keepC (t i)))) i = some x := sub1
      refine ⟨xR.os, xR.tape, xR.output, ?_, fun b hb hn => ?_, fun b o u hu => xR.mem b o u (by subst hc0; exact hu), fun b o u hu => ?_, fun k p hp => xR.ext k p (by subst hc0; exact hp), fun i x b n hi hx hpos => ?_, rfl, fun k x hx => ?_⟩
      · have := xR.size; rw [World.putObj_size] at this ⊢; exact this
      · have e : b ≠ lb := fun e => by
          subst e
          exact hn (.e kl) _ m (show upd H1 kl _ kl = _ from upd_same _ _ _) (by simp [AO.empty]) hβ
        have := xR.blk b hb fun i x n hi hx hpos => hn i x n (own1 i x hi) hx (by rw [← pos0]; exact hpos)
        rw [World.putObj_heap_other e] at this ⊢
        exact this
      · rcases xR.new b o u hu with h1 | h1 | ⟨i, x, n, h1, h2, h3⟩
        · exact .inl (by subst hc0; exact h1)
        · exact .inr (.inl h1)
        · exact .inr (.inr ⟨i, x, n, own1 i x h1, h2, by rw [← pos0]; exact h3⟩)
      · have hpos' : c2.pos i = some (b, n) := by cases i <;> exact hpos
        rcases own2 i x hi with ⟨rfl, rfl⟩ | ⟨hni, hi'⟩
        · have hpos' : c2.β kl = some (b, n) := hpos'
          rw [hβ2] at hpos'; injection hpos' with h1; injection h1 with e1 e2; subst e1
          exact .inr ⟨.e kl, _, m, show upd H1 kl _ kl = _ from upd_same _ _ _, by simp [AO.empty], hβ⟩
        · rcases xR.own i x b n hi' hx hpos' with h1 | ⟨j, y, q, h1, h2, h3⟩
          · exact .inl h1
          · exact .inr ⟨j, y, q, own1 j y h1, h2, by rw [← pos0]; exact h3⟩
      · rcases own2 _ x hx with ⟨e, _⟩ | ⟨hni, hi'⟩
        · injection e with e; subst e
          exact .inl (by show upd H1 k _ k ≠ none; rw [upd_same]; simp)
        · have e : k ≠ kl := by simpa using hni
          rcases xR.nm k x hi' with h1 | h1
          · exact .inl (by show upd H1 kl _ k ≠ none; rw [upd_ne _ _ e]; exact h1)
          · exact .inr (by subst hc0; exact h1)
  have hrr : ∀ (st : LoopState) (pd : Option Code), ({ { r with state := .busy } with state := st, pending := pd } : Loop) = { r with state := st, pending := pd } := fun _ _ => rfl
  have hr0 : ({ r with state := .ready, pending := none } : Loop) = r := by cases r; simp at hst hpd; subst hst hpd; rfl
  cases e with
  | normal =>
    obtain ⟨H2, hs, hJ⟩ := q
    obtain ⟨c', h1, h2⟩ := fin r H2 rfl hs
    refine ⟨_, _, run_endRound none hl3, true, _, c', rfl, .inl ⟨rfl, H2, hJ, hkl2 H2 hs, rfl⟩, ?_, ?_⟩
    · show Conc c' _ (w3.putObj lb (.loop { r with state := .ready, pending := none }))
      rw [hr0]; exact h1
    · show Ext c _ w c' _ (w3.putObj lb (.loop { r with state := .ready, pending := none }))
      rw [hr0]; exact h2
  | ret =>
    obtain ⟨H2, hs, hJ⟩ := q
    obtain ⟨c', h1, h2⟩ := fin { r with state := .done, pending := some .ret } H2 rfl hs
    exact ⟨_, _, run_endRound (some .ret) hl3, false, _, c', rfl, .inr ⟨rfl, .ret, .ret, H2, rfl, hJ, hkl2 H2 hs, rfl⟩, h1, h2⟩
  | exit id =>
    obtain ⟨H2, hs, hJ⟩ := q
    obtain ⟨c', h1, h2⟩ := fin { r with state := .done, pending := some (.exit id) } H2 rfl hs
    exact ⟨_, _, run_endRound (some (.exit id)) hl3, false, _, c', rfl, .inr ⟨rfl, .exit id, .exit id, H2, rfl, hJ, hkl2 H2 hs, rfl⟩, h1, h2⟩
  | goto => exact q.elim
  | panic => exact q.elim
  | outgrown => exact q.elim
end
end Go.Proofs.Ytikcmjamioopbaa.E
/- Loops over functions: what an iterator promises, the loop. Plain theorems, for any program. -/
namespace Go.Proofs.Ytikcmjamioopbaa.E
open Go.RowKit
set_option linter.unusedVariables false
/-- the function g, over what it has captured, hands the elements of one of the lists Xs to whoever asks, in turn, as long as I is true of the objects -/
def IterS (P : Program) (g : FuncId) (cs : List A) {α : Type} (enc : α → List C) (Xs : List α → Prop) (I : Heap → Prop) : Prop :=
  ∀ (kl : Nat) (J : List α → Heap → Prop) (Jx : Heap → Prop) (H : Heap), J [] H → (∀ pre H, J pre H → I H) →
    (∀ xs pre x H, Xs xs → (pre ++ [x]) <+: xs → J pre H → YSpec P kl (enc x) H fun b H' => (b = true ∧ J (pre ++ [x]) H') ∨ (b = false ∧ Jx H')) →
    Spec P g (.a (.yl kl) :: cs.map C.a) H fun _ H' => (∃ xs, Xs xs ∧ J xs H') ∨ Jx H'
section
variable {P : Program} {Q : Exit → S → Prop} {n : Nat} {t : Nat → X} {L : Nat → Option AO} {H : Heap}
theorem Sat.unloop {c c' : Ctx} {a : Act} {w w1 w' : World} {kl : Nat} {lo lo' : AO} {r' : Loop} {H1 : Heap} {o' : Obj} (g : Sat c ⟨n, t, L, H⟩ a w) (hL : ∀ d, L d = none) (hk : H kl = none) (hβ : c.β kl = none)
    (hw1 : w1.os = w.os ∧ w1.tape = w.tape ∧ w1.output = w.output) (hsz1 : w1.heap.size = w.heap.size + 2) (hblk : ∀ b, b < w.heap.size → w1.heap[b]? = w.heap[b]?) (hD : w1.heap[w.heap.size]? = some (.deferred (some []))) (hlo : ¬ lo.empty)
    (hc1 : Conc { c with β := upd c.β kl (some (w.heap.size + 1, 0)) } (ownH (upd H kl (some lo))) w1) (hk1 : H1 kl = none) (hlo' : ¬ lo'.empty) (hc' : Conc c' (ownH (upd H1 kl (some lo'))) w') (hE : Ext { c with β := upd c.β kl (some (w.heap.size + 1, 0)) } (ownH (upd H kl (some lo))) w1 c' (ownH (upd H1 kl (some lo'))) w') (hl : w'.heap[w.heap.size + 1]? = some (.loop r')) :
    Sat { c' with lam := c.lam } ⟨n, t, L, H1⟩ { a with defers := mark w.heap.size :: a.defers } (w'.putObj (w.heap.size + 1) o') ∧ Ext c (S.own ⟨n, t, L, H⟩) w { c' with lam := c.lam } (S.own ⟨n, t, L, H1⟩) (w'.putObj (w.heap.size + 1) o') := by
  have hβ' : c'.β kl = some (w.heap.size + 1, 0) := hE.ext kl _ (upd_same _ _ _)
  have up : ∀ k p, c.β k = some p → upd c.β kl (some (w.heap.size + 1, 0)) k = some p := fun k p h => by
    rw [upd_ne _ _ (fun e => by subst e; rw [hβ] at h; cases h)]; exact h
  have ext : ∀ k p, c.β k = some p → c'.β k = some p := fun k p h => hE.ext k p (up k p h)
  have own1 : ∀ i x, S.own ⟨n, t, L, H1⟩ i = some x → ownH (upd H1 kl (some lo')) i = some x ∧ ∃ k, i = .e k ∧ k ≠ kl := fun i x h => by
    cases i with
    | l d => rw [show S.own ⟨n, t, L, H1⟩ (.l d) = L d from rfl, hL d] at h; cases h
    | e k =>
      have h : H1 k = some x := h
      have e : k ≠ kl := fun e => by subst e; rw [hk1] at h; cases h
      exact ⟨by show upd H1 kl _ k = some x; rw [upd_ne _ _ e]; exact h, k, rfl, e⟩
  have own0 : ∀ i x, ownH (upd H kl (some lo)) i = some x → (i = .e kl ∧ x = lo) ∨ (∃ k, i = .e k ∧ k ≠ kl ∧ S.own ⟨n, t, L, H⟩ i = some x) := fun i x h => by
    cases i with
    | l d => cases h
    | e k =>
      have h : upd H kl _ k = some x := h
      by_cases e : k = kl
      · subst e; rw [upd_same] at h; injection h with h; exact .inl ⟨rfl, h.symm⟩
      · rw [upd_ne _ _ e] at h; exact .inr ⟨k, rfl, e, h⟩
  have un : ∀ i x b m, S.own ⟨n, t, L, H1⟩ i = some x → ¬ x.empty → c'.pos i = some (b, m) → b ≠ w.heap.size + 1 := fun i x b m hi hx hp e => by
    subst e
    obtain ⟨h1, k, rfl, hne⟩ := own1 i x hi
    have := hc'.inj (.e k) (.e kl) x _ _ m 0 h1 (show upd H1 kl _ kl = _ from upd_same _ _ _) hx hlo' hp hβ'
    injection this with this; exact hne this
  have keepD : ∀ D : Nat, w1.heap[D]? = some (.deferred (some [])) → w'.heap[D]? = w1.heap[D]? := fun D hDD => hE.blk D (Array.getElem?_eq_some_iff.1 hDD).1 fun i x m hi hx hp => by
    obtain ⟨b, q, h1, h2⟩ := hc1.obj i x hi hx
    rw [hp] at h1; injection h1 with h1; injection h1 with h1; subst h1
    exact h2.nd hDD
  have hlt1 : w.heap.size + 1 < w'.heap.size := (Array.getElem?_eq_some_iff.1 hl).1
  have notl : ∀ D : Nat, w1.heap[D]? = some (.deferred (some [])) → D ≠ w.heap.size + 1 := fun D hDD e => by
    have := keepD D hDD
    rw [hDD] at this; subst e; rw [hl] at this; cases this
  refine ⟨⟨⟨fun b o u hu => ?_, fun i x hi hx => ?_, fun i j x y b m q hi hj hx hy h1 h2 => ?_, ?_⟩, g.size, fun i => ?_, ?_, fun i d h => ?_⟩, ?_⟩
  · have h1 := hc'.mem b o u hu
    have h2 : b ≠ w.heap.size + 1 := fun e => by subst e; simp only [World.cell?, hl] at h1; cases h1
    unfold World.cell? at h1 ⊢
    rw [World.putObj_heap_other h2]; exact h1
  · obtain ⟨h1, k, rfl, hne⟩ := own1 i x hi
    obtain ⟨b, m, h2, h3⟩ := hc'.obj (.e k) x h1 hx
    exact ⟨b, m, h2, h3.keep (World.putObj_heap_other (un (.e k) x b m hi hx h2)) (fun _ _ _ h => h) (fun _ _ h => h) (fun _ _ h => h)⟩
  · obtain ⟨h3, k, rfl, _⟩ := own1 i x hi
    obtain ⟨h4, k', rfl, _⟩ := own1 j y hj
    exact hc'.inj _ _ x y b m q h3 h4 hx hy h1 h2
  · obtain ⟨N, hN⟩ := hc'.fin
    refine ⟨N, fun k hk' => ⟨(hN k hk').1, ?_⟩⟩
    cases h2 : S.own ⟨n, t, L, H1⟩ (.e k) with
    | none => rfl
    | some y => have := (own1 _ y h2).1; rw [(hN k hk').2] at this; cases this
  · exact RepX.mono (c := c) (c' := { c' with lam := c.lam }) hE.mem ext rfl (g.tmps i)
  · obtain ⟨h0, Ds, h1, h2, h3⟩ := g.defers
    have hb : ({ c' with lam := c.lam } : Ctx).base = c.base := hE.base
    have hs : w1.heap.size ≤ w'.heap.size := hE.size
    refine ⟨by rw [hb, World.putObj_size]; omega, w.heap.size :: Ds, by rw [h1]; rfl, List.nodup_cons.2 ⟨fun hm => ?_, h2⟩, fun D hm => ?_⟩
    · have := (Array.getElem?_eq_some_iff.1 (h3 _ hm).2).1; omega
    · rw [hb]
      rcases List.mem_cons.1 hm with rfl | hm
      · exact ⟨h0, by rw [World.putObj_heap_other (notl _ hD), keepD _ hD, hD]⟩
      · obtain ⟨h4, h5⟩ := h3 D hm
        have h6 := (hblk D (Array.getElem?_eq_some_iff.1 h5).1).trans h5
        exact ⟨h4, by rw [World.putObj_heap_other (notl _ h6), keepD _ h6, h6]⟩
  · exact g.wf i d h
  · refine ⟨hE.os.trans hw1.1, hE.tape.trans hw1.2.1, hE.output.trans hw1.2.2, ?_, fun b hb hn => ?_, hE.mem, fun b o u hu => ?_, ext, fun i x b m hi hx hp => ?_, hE.base, fun k x hx => ?_⟩
    · have := hE.size; rw [World.putObj_size]; omega
    · rw [World.putObj_heap_other (by omega), hE.blk b (by omega) fun i x m hi hx hp => ?_, hblk b hb]
      rcases own0 i x hi with ⟨rfl, rfl⟩ | ⟨k, rfl, hne, h1⟩
      · have hp : upd c.β kl (some (w.heap.size + 1, 0)) kl = some (b, m) := hp
        rw [upd_same] at hp; injection hp with hp; injection hp with hp; omega
      · have hp : upd c.β kl (some (w.heap.size + 1, 0)) k = some (b, m) := hp
        rw [upd_ne _ _ hne] at hp
        exact hn (.e k) x m h1 hx hp
    · rcases hE.new b o u hu with h1 | h1 | ⟨i, x, m, h1, h2, h3⟩
      · exact .inl h1
      · exact .inr (.inl (by omega))
      · rcases own0 i x h1 with ⟨rfl, rfl⟩ | ⟨k, rfl, hne, h4⟩
        · have h3 : upd c.β kl (some (w.heap.size + 1, 0)) kl = some (b, m) := h3
          rw [upd_same] at h3; injection h3 with h3; injection h3 with h3
          exact .inr (.inl (by omega))
        · have h3 : upd c.β kl (some (w.heap.size + 1, 0)) k = some (b, m) := h3
          rw [upd_ne _ _ hne] at h3
          exact .inr (.inr ⟨.e k, x, m, h4, h2, h3⟩)
    · obtain ⟨h1, k, rfl, hne⟩ := own1 i x hi
      rcases hE.own (.e k) x b m h1 hx hp with h2 | ⟨j, y, q, h2, h3, h4⟩
      · exact .inl (by omega)
      · rcases own0 j y h2 with ⟨rfl, rfl⟩ | ⟨k', rfl, hne', h5⟩
        · have h4 : upd c.β kl (some (w.heap.size + 1, 0)) kl = some (b, q) := h4
          rw [upd_same] at h4; injection h4 with h4; injection h4 with h4
          exact .inl (by omega)
        · have h4 : upd c.β kl (some (w.heap.size + 1, 0)) k' = some (b, q) := h4
          rw [upd_ne _ _ hne'] at h4
          exact .inr ⟨.e k', y, q, h5, h3, h4⟩
    · obtain ⟨h1, k', hk', hne⟩ := own1 (.e k) x hx
      injection hk' with hk'; subst hk'
      rcases hE.nm k x h1 with h2 | h2
      · refine .inl ?_
        have h2 : upd H kl (some lo) k ≠ none := h2
        rw [upd_ne _ _ hne] at h2; exact h2
      · refine .inr ?_
        have h2 : upd c.β kl (some (w.heap.size + 1, 0)) k = none := h2
        rw [upd_ne _ _ hne] at h2; exact h2
/-- a loop over a function -/
theorem AW.rangeF {fo : Operand} {ps : Array Nat} {as bd : Code} {gf : FuncId} {cs : List A} {α : Type} {enc : α → List C} {Xs : List α → Prop} {I : Heap → Prop}
    (hfo : fnX (S.eval ⟨n, t, L, H⟩ fo) = some (gf, cs)) (hfn : fnB P gf = true) (hL : ∀ d, L d = none) (hps : ∀ x, (enc x).length = ps.size) (hin : ∀ p, p ∈ ps.toList → p < n)
    (hit : IterS P gf cs enc Xs I) (hI : ∀ H H' : Heap, (∀ k o, H k = some o → H' k = some o) → I H → I H')
    (J : List α → Heap → Prop) (Jx : Exit → Heap → Prop) (h0 : J [] H) (hJI : ∀ pre H, J pre H → I H)
    (hbody : ∀ l xs pre x H1, Xs xs → (pre ++ [x]) <+: xs → J pre H1 → AWR P l as (fun e s1 => e = .normal ∧ AWR P l bd (RPost (J (pre ++ [x])) Jx) s1) ⟨n, roundT (fun i => cX (t i)) ps.toList (enc x), fun _ => none, H1⟩)
    (hdone : ∀ xs H1, Xs xs → J xs H1 → Q .normal ⟨n, t, L, H1⟩) (hstop : ∀ e H1, Jx e H1 → (jumpOf e).isSome = true → Q e ⟨n, t, L, H1⟩) : AW P (.rangeFunc fo ps as bd) Q ⟨n, t, L, H⟩ := by
  intro c a w g
  refine (wpIn_wide (n := 0)).1 (wpIn_rangeFunc ?_)
  intro fn _
  obtain ⟨r0, hr0⟩ : ∃ r0 : Loop, r0 = { state := .ready, pending := none, fn, tmps := a.tmps, params := ps, assign := as, body := bd, defers := w.heap.size } := ⟨_, rfl⟩
  obtain ⟨w1, hw1⟩ : ∃ w1, w1 = (w.alloc (.deferred (some []))).alloc (.loop r0) := ⟨_, rfl⟩
  have hsz1 : w1.heap.size = w.heap.size + 2 := by rw [hw1]; simp
  have hblk : ∀ b, b < w.heap.size → w1.heap[b]? = w.heap[b]? := fun b hb => by
    rw [hw1, Below.heap_alloc _ _ b (by simp; omega), Below.heap_alloc _ _ b hb]
  have hD : w1.heap[w.heap.size]? = some (.deferred (some [])) := by
    rw [hw1, Below.heap_alloc _ _ _ (by simp), World.alloc_heap_new]
  have hl1 : w1.heap[w.heap.size + 1]? = some (.loop r0) := by
    have := World.alloc_heap_new (w.alloc (.deferred (some []))) (.loop r0)
    rw [World.size_alloc] at this
    rw [hw1]; exact this
  have hm : Mk c w c w1 := .grew g.memOk (by rw [hw1]; rfl) (by rw [hw1]; rfl) (by rw [hw1]; rfl) (by omega) hblk
  have htl : ∀ i x, keepC (t i) = some x → RepC c.μ c.β x (a.tmps.getD i undef) := fun i x hx => by
    have := g.tmps i
    have e : t i = .c x := by
      cases ht : t i with
      | c y => rw [ht] at hx; injection hx with hx; rw [hx]
      | _ => rw [ht] at hx; cases hx
    have this : RepX c (t i) (a.tmps.getD i undef) := this
    rw [e] at this; exact this
  obtain ⟨kl, hH0, hβ0, g1, x1⟩ := g.newE (x := .loop r0 fun i => keepC (t i)) (b := w.heap.size + 1) (n := 0) hm (by omega) ⟨hl1, fun i x hx => by rw [hr0]; exact htl i x hx⟩
  obtain ⟨c1, hc1d⟩ : ∃ c1 : Ctx, c1 = { c with β := upd c.β kl (some (w.heap.size + 1, 0)) } := ⟨_, rfl⟩
  rw [← hc1d] at g1 x1
  have hc1 : Conc c1 (ownH (upd H kl (some (.loop r0 fun i => keepC (t i))))) w1 := g1.conc.sub fun i x h => by
    cases i with
    | e k => exact h
    | l d => cases h
  obtain ⟨vs, hv, hvs⟩ := fn_rep (g.eval fo) hfo
  have hβ1 : ∀ k p, c.β k = some p → c1.β k = some p := fun k p h => by
    subst hc1d
    show upd c.β kl _ k = some p
    rw [upd_ne _ _ (fun e => by subst e; rw [hβ0] at h; cases h)]; exact h
  have hargs : Reps (RepC c1.μ c1.β) (.a (.yl kl) :: cs.map C.a) (#[Value.func (.yield (w.heap.size + 1)) #[] #[]] ++ vs).toList := by
    rw [Array.toList_append]
    refine Reps.cons (l := cs.map C.a) ?_ (hvs.mono fun x v h => RepC.mono (by subst hc1d; exact fun _ _ _ h => h) hβ1 h)
    exact RepA.yl (c := 0) (by subst hc1d; exact upd_same _ _ _)
  have hcall := hit kl (fun pre H' => ∃ H1, J pre H1 ∧ H1 kl = none ∧ H' = upd H1 kl (some (.loop r0 fun i => keepC (t i))))
    (fun H' => ∃ e cd H2, jumpOf e = some cd ∧ Jx e H2 ∧ H2 kl = none ∧ H' = upd H2 kl (some (.loop { r0 with state := .done, pending := some cd } fun i => keepC (t i))))
    (upd H kl (some (.loop r0 fun i => keepC (t i)))) ⟨H, h0, hH0, rfl⟩ (fun pre H' ⟨H1, h1, h2, h3⟩ => by
      subst h3
      exact hI H1 _ (fun k o hk => by rw [upd_ne _ _ (fun e => by subst e; rw [h2] at hk; cases hk)]; exact hk) (hJI pre H1 h1))
    (fun xs pre x H' hx hpre ⟨H1, h1, h2, h3⟩ => by
      subst h3
      have hb := fun l => hbody l xs pre x H1 hx hpre h1
      have hn : r0.tmps.size = n := by rw [hr0]; exact g.size
      have hrs := round_spec (P := P) (kl := kl) (r := r0) (t := t) (H1 := H1) (args := enc x) (J := J (pre ++ [x])) (Jx := Jx) (by rw [hr0]) (by rw [hr0]) h2 (by rw [hr0]; exact hps x) (fun p hp => by rw [hn]; rw [hr0] at hp; exact hin p hp) (fun l => by rw [hn, hr0]; exact hb l)
      intro c w vs b m q1 q2 q3
      obtain ⟨fn, tm, as', bd', q4, q5⟩ := hrs c w vs b m q1 q2 q3
      refine ⟨fn, tm, as', bd', q4, RoundIn.mono q5 ?_⟩
      rintro e w' ⟨r, H', c', q6, q7, q8⟩
      refine ⟨r, H', c', q6, ?_, q8⟩
      rcases q7 with ⟨q7, H2, q9, q10, q11⟩ | q7
      · exact .inl ⟨q7, H2, q9, q10, q11⟩
      · exact .inr q7)
  refine ⟨w.heap.size + 1, [mark w.heap.size], w1, { target := .fn (.func gf) vs, args := #[.func (.yield (w.heap.size + 1)) #[] #[]] }, w1, gf, #[.func (.yield (w.heap.size + 1)) #[] #[]] ++ vs, w1, ?_, ?_, fun _ _ => trivial, ?_, fun e => by simp [Fence.wide] at e, ?_⟩
  · rw [hw1, hr0]; exact run_enterLoop_outer _ _ _ _ _
  · simp only [resolve, hv]
    simp [go_sem]
  · simp [invoke, go_sem, enter_run hfn]
  · refine (callsIn_wide (n := 0 - 1)).2 ((hcall c1 w1 _ hc1 hargs).mono ?_)
    rintro e w' ⟨v, x, H', c', rfl, hq, hx, hc', hE⟩
    have hβ' : c'.β kl = some (w.heap.size + 1, 0) := hE.ext kl _ (by subst hc1d; exact upd_same _ _ _)
    have rec' : ∀ (H2 : Heap) (r' : Loop), H' = upd H2 kl (some (.loop r' fun i => keepC (t i))) → w'.heap[w.heap.size + 1]? = some (.loop r') := fun H2 r' e => by
      subst e
      obtain ⟨b, m, h1, h2, _⟩ := hc'.obj (.e kl) _ (show upd H2 kl _ kl = _ from upd_same _ _ _) (by simp [AO.empty])
      have h1 : c'.β kl = some (b, m) := h1
      rw [hβ'] at h1; injection h1 with h1; injection h1 with e1 e2; subst e1; exact h2
    rcases hq with ⟨xs, hxs, H1, hJ, hk1, e⟩ | ⟨e, cd, H2, hj, hJx, hk2, e'⟩
    · have hl := rec' H1 r0 e
      subst e
      have := Sat.unloop (o' := .loop { r0 with state := .exhausted, pending := none }) g hL hH0 hβ0 ⟨by rw [hw1]; rfl, by rw [hw1]; rfl, by rw [hw1]; rfl⟩ hsz1 hblk hD (by simp [AO.empty]) (hc1d ▸ hc1) hk1 (by simp [AO.empty]) hc' (hc1d ▸ hE) hl
      have hpend : r0.pending = none := by rw [hr0]
      have h9 := run_endLoop (P := P) hl (by rw [hr0]; simp)
      rw [hpend] at h9
      exact ⟨none, _, h9, _, _, hdone xs H1 hxs hJ, this.1, this.2⟩
    · have hl := rec' H2 _ e'
      subst e'
      have := Sat.unloop (o' := .loop { ({ r0 with state := .done, pending := some cd } : Loop) with state := .exhausted }) g hL hH0 hβ0 ⟨by rw [hw1]; rfl, by rw [hw1]; rfl, by rw [hw1]; rfl⟩ hsz1 hblk hD (by simp [AO.empty]) (hc1d ▸ hc1) hk2 (by simp [AO.empty]) hc' (hc1d ▸ hE) hl
      have hs := hstop e H2 hJx (by rw [hj]; rfl)
      refine ⟨some cd, _, run_endLoop (P := P) hl (by simp), ?_⟩
      cases e with
      | ret => cases hj; exact wpIn_ret ⟨_, _, hs, this.1, this.2⟩
      | exit id => cases hj; exact wpIn_exit ⟨_, _, hs, this.1, this.2⟩
      | _ => cases hj
end
end Go.Proofs.Ytikcmjamioopbaa.E
/- Function values are made; the loop in a round's frame. Plain theorems, for any program. -/
namespace Go.Proofs.Ytikcmjamioopbaa.E
open Go.RowKit
set_option linter.unusedVariables false
set_option linter.unusedSimpArgs false
def capsA : List C → Option (List A)
  | [] => some []
  | .a x :: r => (capsA r).map (x :: ·)
  | .g _ :: _ => none
theorem capsA_eq : ∀ {l : List C} {cs : List A}, capsA l = some cs → l = cs.map C.a
  | [], cs, h => by cases h; rfl
  | .a x :: r, cs, h => by
    simp only [capsA, Option.map_eq_some_iff] at h
    obtain ⟨cs', h, rfl⟩ := h
    rw [capsA_eq h]; rfl
  | .g _ :: _, cs, h => by cases h
section
variable {P : Program} {o : Oper} {s : S}
theorem q_mkFn {f : FuncId} {ys : Array Operand} {l : List C} {cs : List A} (ho : o.op = .makeFunc (.func f) #[] ys) (hl : argsX s ys.toList = some l) (hc : capsA l = some cs) : QV P o s (.c (.a (.fn f cs))) :=
  .of_same (fun _ => nolp) fun c w a hm hrep => by
    have hr : Reps (RepC c.μ c.β) l (ys.map a.eval).toList := by
      have := args_rep (c := c) (f := a.eval) hl fun y hy => hrep y (by rw [ho]; simp [Op.operands]; simpa using hy)
      simpa using this
    have hc := capsA_eq hc
    subst hc
    refine ⟨.func (.func f) #[] (ys.map a.eval), by simp [execOp, ho, Instr.makeFunc], ?_⟩
    have hlen : (ys.map a.eval).toList.length = cs.length := by have := hr.1; simpa using this.symm
    refine RepA.fn (fun i => (ys.map a.eval).toList.getD i undef) ?_ fun i x hx => ?_
    · refine List.ext_getElem? fun i => ?_
      rw [List.getElem?_map, ← hlen]
      by_cases h : i < (ys.map a.eval).toList.length
      · rw [List.getElem?_range h, List.getElem?_eq_getElem h]; simp only [Option.map_some, List.getD_eq_getElem?_getD, List.getElem?_eq_getElem h, Option.getD_some]
      · rw [List.getElem?_eq_none (by omega), List.getElem?_eq_none (by simp at h ⊢; omega)]; rfl
    · have hi : i < (ys.map a.eval).toList.length := by rw [hlen]; exact (List.getElem?_eq_some_iff.1 hx).1
      have h1 : (cs.map C.a)[i]? = some (.a x) := by rw [List.getElem?_map, hx]; rfl
      have := hr.2 i (.a x) _ h1 (List.getElem?_eq_getElem hi)
      show RepA c.μ c.β x _
      rw [List.getD_eq_getElem?_getD, List.getElem?_eq_getElem hi]
      exact this
end
end Go.Proofs.Ytikcmjamioopbaa.E
/- Closed facts on the types and functions of the program. -/
namespace Go.Proofs.Ytikcmjamioopbaa.Fx
open Go.Proofs.Ytikcmjamioopbaa.E
theorem mo : Try.prog.follows .mixedOrders = true := by kernel_rfl
theorem nk1 : nkB Try.prog 1 .fn = true := by kernel_rfl
theorem ty2 : tyB Try.prog 2 false 1 = true := by kernel_rfl
theorem ze2 : zeroIs Try.prog 2 (.int .i64 0) := (by kernel_rfl : (Try.prog.info? 2).bind (·.zero) = some (.int .i64 0))
theorem un2 : Try.prog.underlying 2 = some (.int .i64) := by kernel_rfl
theorem ty3 : tyB Try.prog 3 false 1 = true := by kernel_rfl
theorem ze3 : zeroIs Try.prog 3 (.int .i64 0) := (by kernel_rfl : (Try.prog.info? 3).bind (·.zero) = some (.int .i64 0))
theorem un3 : Try.prog.underlying 3 = some (.int .i64) := by kernel_rfl
theorem ty4 : tyB Try.prog 4 false 1 = true := by kernel_rfl
theorem ze4 : zeroIs Try.prog 4 (.bool false) := (by kernel_rfl : (Try.prog.info? 4).bind (·.zero) = some (.bool false))
theorem un4 : Try.prog.underlying 4 = some .bool := by kernel_rfl
theorem ty5 : tyB Try.prog 5 false 1 = true := by kernel_rfl
theorem ze5 : zeroIs Try.prog 5 (.int .u8 0) := (by kernel_rfl : (Try.prog.info? 5).bind (·.zero) = some (.int .u8 0))
theorem un5 : Try.prog.underlying 5 = some (.int .u8) := by kernel_rfl
theorem ty9 : tyB Try.prog 9 false 1 = true := by kernel_rfl
theorem ze9 : zeroIs Try.prog 9 (.string ⟨#[]⟩) := (by kernel_rfl : (Try.prog.info? 9).bind (·.zero) = some (.string ⟨#[]⟩))
theorem un9 : Try.prog.underlying 9 = some .string := by kernel_rfl
theorem ty12 : tyB Try.prog 12 false 1 = true := by kernel_rfl
theorem ze12 : zeroIs Try.prog 12 (.int .u64 0) := (by kernel_rfl : (Try.prog.info? 12).bind (·.zero) = some (.int .u64 0))
theorem un12 : Try.prog.underlying 12 = some (.int .u64) := by kernel_rfl
theorem ty13 : tyB Try.prog 13 true 2 = true := by kernel_rfl
theorem ze13 : zeroIs Try.prog 13 (.agg #[.string ⟨#[]⟩, .int .u64 0]) := (by kernel_rfl : (Try.prog.info? 13).bind (·.zero) = some (.agg #[.string ⟨#[]⟩, .int .u64 0]))
theorem fl13_0 : fldB Try.prog 13 0 0 = true := by kernel_rfl
theorem fl13_1 : fldB Try.prog 13 1 1 = true := by kernel_rfl
theorem bp13 : bplB Try.prog 13 [(0, 1), (1, 1)] = true := by kernel_rfl
theorem ty19 : tyB Try.prog 19 true 1 = true := by kernel_rfl
theorem ze19 : zeroIs Try.prog 19 (.agg #[.pointer none]) := (by kernel_rfl : (Try.prog.info? 19).bind (·.zero) = some (.agg #[.pointer none]))
theorem fl19_0 : fldB Try.prog 19 0 0 = true := by kernel_rfl
theorem bp19 : bplB Try.prog 19 [(0, 1)] = true := by kernel_rfl
theorem ty21 : tyB Try.prog 21 false 1 = true := by kernel_rfl
theorem ze21 : zeroIs Try.prog 21 (.int .i32 0) := (by kernel_rfl : (Try.prog.info? 21).bind (·.zero) = some (.int .i32 0))
theorem un21 : Try.prog.underlying 21 = some (.int .i32) := by kernel_rfl
theorem ty22 : tyB Try.prog 22 false 1 = true := by kernel_rfl
theorem ze22 : zeroIs Try.prog 22 (.slice none 0 0) := (by kernel_rfl : (Try.prog.info? 22).bind (·.zero) = some (.slice none 0 0))
theorem sl22 : slB Try.prog 22 66 3 = true := by kernel_rfl
theorem el22 : elB Try.prog 22 66 3 3 = true := by kernel_rfl
theorem un22 : Try.prog.underlying 22 = some (.slice 66) := by kernel_rfl
theorem nk22 : nkB Try.prog 22 .sl = true := by kernel_rfl
theorem ty23 : tyB Try.prog 23 false 1 = true := by kernel_rfl
theorem ze23 : zeroIs Try.prog 23 (.pointer none) := (by kernel_rfl : (Try.prog.info? 23).bind (·.zero) = some (.pointer none))
theorem nk23 : nkB Try.prog 23 .pt = true := by kernel_rfl
theorem ty24 : tyB Try.prog 24 false 1 = true := by kernel_rfl
theorem ze24 : zeroIs Try.prog 24 (.slice none 0 0) := (by kernel_rfl : (Try.prog.info? 24).bind (·.zero) = some (.slice none 0 0))
theorem sl24 : slB Try.prog 24 70 2 = true := by kernel_rfl
theorem el24 : elB Try.prog 24 70 2 16 = true := by kernel_rfl
theorem un24 : Try.prog.underlying 24 = some (.slice 70) := by kernel_rfl
theorem nk24 : nkB Try.prog 24 .sl = true := by kernel_rfl
theorem ty25 : tyB Try.prog 25 true 1 = true := by kernel_rfl
theorem ze25 : zeroIs Try.prog 25 (.agg #[.slice none 0 0]) := (by kernel_rfl : (Try.prog.info? 25).bind (·.zero) = some (.agg #[.slice none 0 0]))
theorem fl25_0 : fldB Try.prog 25 0 0 = true := by kernel_rfl
theorem bp25 : bplB Try.prog 25 [(0, 1)] = true := by kernel_rfl
theorem ty26 : tyB Try.prog 26 true 1 = true := by kernel_rfl
theorem ze26 : zeroIs Try.prog 26 (.agg #[.slice none 0 0]) := (by kernel_rfl : (Try.prog.info? 26).bind (·.zero) = some (.agg #[.slice none 0 0]))
theorem fl26_0 : fldB Try.prog 26 0 0 = true := by kernel_rfl
theorem bp26 : bplB Try.prog 26 [(0, 1)] = true := by kernel_rfl
theorem nk28 : nkB Try.prog 28 .fn = true := by kernel_rfl
theorem nk29 : nkB Try.prog 29 .fn = true := by kernel_rfl
theorem ty30 : tyB Try.prog 30 false 1 = true := by kernel_rfl
theorem ze30 : zeroIs Try.prog 30 (.slice none 0 0) := (by kernel_rfl : (Try.prog.info? 30).bind (·.zero) = some (.slice none 0 0))
theorem sl30 : slB Try.prog 30 3 1 = true := by kernel_rfl
theorem el30 : elB Try.prog 30 3 1 8 = true := by kernel_rfl
theorem un30 : Try.prog.underlying 30 = some (.slice 3) := by kernel_rfl
theorem nk30 : nkB Try.prog 30 .sl = true := by kernel_rfl
theorem nk31 : nkB Try.prog 31 .fn = true := by kernel_rfl
theorem nk32 : nkB Try.prog 32 .fn = true := by kernel_rfl
theorem nk33 : nkB Try.prog 33 .fn = true := by kernel_rfl
theorem nk34 : nkB Try.prog 34 .fn = true := by kernel_rfl
theorem nk35 : nkB Try.prog 35 .fn = true := by kernel_rfl
theorem nk36 : nkB Try.prog 36 .fn = true := by kernel_rfl
theorem ty37 : tyB Try.prog 37 false 1 = true := by kernel_rfl
theorem ze37 : zeroIs Try.prog 37 (.int .i8 0) := (by kernel_rfl : (Try.prog.info? 37).bind (·.zero) = some (.int .i8 0))
theorem un37 : Try.prog.underlying 37 = some (.int .i8) := by kernel_rfl
theorem nk38 : nkB Try.prog 38 .fn = true := by kernel_rfl
theorem nk39 : nkB Try.prog 39 .fn = true := by kernel_rfl
theorem nk40 : nkB Try.prog 40 .fn = true := by kernel_rfl
theorem nk41 : nkB Try.prog 41 .fn = true := by kernel_rfl
theorem nk42 : nkB Try.prog 42 .fn = true := by kernel_rfl
theorem ty43 : tyB Try.prog 43 true 3 = true := by kernel_rfl
theorem ze43 : zeroIs Try.prog 43 (.agg #[.int .i8 0, .int .i8 0, .int .i8 0]) := (by kernel_rfl : (Try.prog.info? 43).bind (·.zero) = some (.agg #[.int .i8 0, .int .i8 0, .int .i8 0]))
theorem ar43 : arB Try.prog 43 3 37 1 = true := by kernel_rfl
theorem bp43 : bplB Try.prog 43 [(0, 1), (1, 1), (2, 1)] = true := by kernel_rfl
theorem nk44 : nkB Try.prog 44 .fn = true := by kernel_rfl
theorem nk45 : nkB Try.prog 45 .fn = true := by kernel_rfl
theorem nk46 : nkB Try.prog 46 .fn = true := by kernel_rfl
theorem nk47 : nkB Try.prog 47 .fn = true := by kernel_rfl
theorem ty48 : tyB Try.prog 48 false 1 = true := by kernel_rfl
theorem ze48 : zeroIs Try.prog 48 (.map none) := (by kernel_rfl : (Try.prog.info? 48).bind (·.zero) = some (.map none))
theorem nk48 : nkB Try.prog 48 .mp = true := by kernel_rfl
theorem un48 : Try.prog.underlying 48 = some (.map 3 4) := by kernel_rfl
theorem nk49 : nkB Try.prog 49 .fn = true := by kernel_rfl
theorem nk50 : nkB Try.prog 50 .fn = true := by kernel_rfl
theorem nk51 : nkB Try.prog 51 .fn = true := by kernel_rfl
theorem nk52 : nkB Try.prog 52 .fn = true := by kernel_rfl
theorem ty53 : tyB Try.prog 53 false 1 = true := by kernel_rfl
theorem ze53 : zeroIs Try.prog 53 (.slice none 0 0) := (by kernel_rfl : (Try.prog.info? 53).bind (·.zero) = some (.slice none 0 0))
theorem sl53 : slB Try.prog 53 59 2 = true := by kernel_rfl
theorem el53 : elB Try.prog 53 59 2 2 = true := by kernel_rfl
theorem un53 : Try.prog.underlying 53 = some (.slice 59) := by kernel_rfl
theorem nk53 : nkB Try.prog 53 .sl = true := by kernel_rfl
theorem ty54 : tyB Try.prog 54 false 1 = true := by kernel_rfl
theorem ze54 : zeroIs Try.prog 54 (.pointer none) := (by kernel_rfl : (Try.prog.info? 54).bind (·.zero) = some (.pointer none))
theorem nk54 : nkB Try.prog 54 .pt = true := by kernel_rfl
theorem nk55 : nkB Try.prog 55 .fn = true := by kernel_rfl
theorem nk56 : nkB Try.prog 56 .fn = true := by kernel_rfl
theorem ty57 : tyB Try.prog 57 false 1 = true := by kernel_rfl
theorem ze57 : zeroIs Try.prog 57 (.slice none 0 0) := (by kernel_rfl : (Try.prog.info? 57).bind (·.zero) = some (.slice none 0 0))
theorem sl57 : slB Try.prog 57 5 1 = true := by kernel_rfl
theorem el57 : elB Try.prog 57 5 1 1 = true := by kernel_rfl
theorem un57 : Try.prog.underlying 57 = some (.slice 5) := by kernel_rfl
theorem nk57 : nkB Try.prog 57 .sl = true := by kernel_rfl
theorem nk58 : nkB Try.prog 58 .fn = true := by kernel_rfl
theorem ty59 : tyB Try.prog 59 true 2 = true := by kernel_rfl
theorem ze59 : zeroIs Try.prog 59 (.agg #[.int .u8 0, .int .u8 0]) := (by kernel_rfl : (Try.prog.info? 59).bind (·.zero) = some (.agg #[.int .u8 0, .int .u8 0]))
theorem ar59 : arB Try.prog 59 2 5 1 = true := by kernel_rfl
theorem bp59 : bplB Try.prog 59 [(0, 1), (1, 1)] = true := by kernel_rfl
theorem nk60 : nkB Try.prog 60 .fn = true := by kernel_rfl
theorem ty61 : tyB Try.prog 61 false 1 = true := by kernel_rfl
theorem ze61 : zeroIs Try.prog 61 (.slice none 0 0) := (by kernel_rfl : (Try.prog.info? 61).bind (·.zero) = some (.slice none 0 0))
theorem sl61 : slB Try.prog 61 9 1 = true := by kernel_rfl
theorem el61 : elB Try.prog 61 9 1 16 = true := by kernel_rfl
theorem un61 : Try.prog.underlying 61 = some (.slice 9) := by kernel_rfl
theorem nk61 : nkB Try.prog 61 .sl = true := by kernel_rfl
theorem nk62 : nkB Try.prog 62 .fn = true := by kernel_rfl
theorem nk63 : nkB Try.prog 63 .fn = true := by kernel_rfl
theorem nk64 : nkB Try.prog 64 .fn = true := by kernel_rfl
theorem ty65 : tyB Try.prog 65 true 3 = true := by kernel_rfl
theorem ze65 : zeroIs Try.prog 65 (.agg #[.int .u8 0, .int .i8 0, .int .i8 0]) := (by kernel_rfl : (Try.prog.info? 65).bind (·.zero) = some (.agg #[.int .u8 0, .int .i8 0, .int .i8 0]))
theorem fl65_0 : fldB Try.prog 65 0 0 = true := by kernel_rfl
theorem fl65_1 : fldB Try.prog 65 1 1 = true := by kernel_rfl
theorem fl65_2 : fldB Try.prog 65 2 2 = true := by kernel_rfl
theorem bp65 : bplB Try.prog 65 [(0, 1), (1, 1), (2, 1)] = true := by kernel_rfl
theorem ty66 : tyB Try.prog 66 true 3 = true := by kernel_rfl
theorem ze66 : zeroIs Try.prog 66 (.agg #[.int .u8 0, .int .i8 0, .int .i8 0]) := (by kernel_rfl : (Try.prog.info? 66).bind (·.zero) = some (.agg #[.int .u8 0, .int .i8 0, .int .i8 0]))
theorem fl66_0 : fldB Try.prog 66 0 0 = true := by kernel_rfl
theorem fl66_1 : fldB Try.prog 66 1 1 = true := by kernel_rfl
theorem fl66_2 : fldB Try.prog 66 2 2 = true := by kernel_rfl
theorem bp66 : bplB Try.prog 66 [(0, 1), (1, 1), (2, 1)] = true := by kernel_rfl
theorem nk68 : nkB Try.prog 68 .fn = true := by kernel_rfl
theorem nk69 : nkB Try.prog 69 .fn = true := by kernel_rfl
theorem ty70 : tyB Try.prog 70 true 2 = true := by kernel_rfl
theorem ze70 : zeroIs Try.prog 70 (.agg #[.int .i64 0, .int .i64 0]) := (by kernel_rfl : (Try.prog.info? 70).bind (·.zero) = some (.agg #[.int .i64 0, .int .i64 0]))
theorem ar70 : arB Try.prog 70 2 3 1 = true := by kernel_rfl
theorem bp70 : bplB Try.prog 70 [(0, 1), (1, 1)] = true := by kernel_rfl
theorem nk71 : nkB Try.prog 71 .fn = true := by kernel_rfl
theorem ty72 : tyB Try.prog 72 false 1 = true := by kernel_rfl
theorem ze72 : zeroIs Try.prog 72 (.map none) := (by kernel_rfl : (Try.prog.info? 72).bind (·.zero) = some (.map none))
theorem nk72 : nkB Try.prog 72 .mp = true := by kernel_rfl
theorem un72 : Try.prog.underlying 72 = some (.map 3 48) := by kernel_rfl
theorem ty73 : tyB Try.prog 73 true 1 = true := by kernel_rfl
theorem ze73 : zeroIs Try.prog 73 (.agg #[.map none]) := (by kernel_rfl : (Try.prog.info? 73).bind (·.zero) = some (.agg #[.map none]))
theorem fl73_0 : fldB Try.prog 73 0 0 = true := by kernel_rfl
theorem bp73 : bplB Try.prog 73 [(0, 1)] = true := by kernel_rfl
theorem ty74 : tyB Try.prog 74 true 1 = true := by kernel_rfl
theorem ze74 : zeroIs Try.prog 74 (.agg #[.map none]) := (by kernel_rfl : (Try.prog.info? 74).bind (·.zero) = some (.agg #[.map none]))
theorem fl74_0 : fldB Try.prog 74 0 0 = true := by kernel_rfl
theorem bp74 : bplB Try.prog 74 [(0, 1)] = true := by kernel_rfl
theorem nk75 : nkB Try.prog 75 .fn = true := by kernel_rfl
theorem nk76 : nkB Try.prog 76 .fn = true := by kernel_rfl
theorem nk77 : nkB Try.prog 77 .fn = true := by kernel_rfl
theorem ty78 : tyB Try.prog 78 false 1 = true := by kernel_rfl
theorem ze78 : zeroIs Try.prog 78 (.map none) := (by kernel_rfl : (Try.prog.info? 78).bind (·.zero) = some (.map none))
theorem nk78 : nkB Try.prog 78 .mp = true := by kernel_rfl
theorem un78 : Try.prog.underlying 78 = some (.map 3 3) := by kernel_rfl
theorem nk79 : nkB Try.prog 79 .fn = true := by kernel_rfl
theorem ty80 : tyB Try.prog 80 false 1 = true := by kernel_rfl
theorem ze80 : zeroIs Try.prog 80 (.map none) := (by kernel_rfl : (Try.prog.info? 80).bind (·.zero) = some (.map none))
theorem nk80 : nkB Try.prog 80 .mp = true := by kernel_rfl
theorem un80 : Try.prog.underlying 80 = some (.map 9 83) := by kernel_rfl
theorem ty81 : tyB Try.prog 81 true 1 = true := by kernel_rfl
theorem ze81 : zeroIs Try.prog 81 (.agg #[.map none]) := (by kernel_rfl : (Try.prog.info? 81).bind (·.zero) = some (.agg #[.map none]))
theorem fl81_0 : fldB Try.prog 81 0 0 = true := by kernel_rfl
theorem bp81 : bplB Try.prog 81 [(0, 1)] = true := by kernel_rfl
theorem ty82 : tyB Try.prog 82 true 1 = true := by kernel_rfl
theorem ze82 : zeroIs Try.prog 82 (.agg #[.map none]) := (by kernel_rfl : (Try.prog.info? 82).bind (·.zero) = some (.agg #[.map none]))
theorem fl82_0 : fldB Try.prog 82 0 0 = true := by kernel_rfl
theorem bp82 : bplB Try.prog 82 [(0, 1)] = true := by kernel_rfl
theorem ty83 : tyB Try.prog 83 false 1 = true := by kernel_rfl
theorem ze83 : zeroIs Try.prog 83 (.map none) := (by kernel_rfl : (Try.prog.info? 83).bind (·.zero) = some (.map none))
theorem nk83 : nkB Try.prog 83 .mp = true := by kernel_rfl
theorem un83 : Try.prog.underlying 83 = some (.map 9 4) := by kernel_rfl
theorem ty84 : tyB Try.prog 84 false 1 = true := by kernel_rfl
theorem ze84 : zeroIs Try.prog 84 (.map none) := (by kernel_rfl : (Try.prog.info? 84).bind (·.zero) = some (.map none))
theorem nk84 : nkB Try.prog 84 .mp = true := by kernel_rfl
theorem un84 : Try.prog.underlying 84 = some (.map 9 3) := by kernel_rfl
theorem nk85 : nkB Try.prog 85 .fn = true := by kernel_rfl
theorem nk86 : nkB Try.prog 86 .fn = true := by kernel_rfl
theorem nk87 : nkB Try.prog 87 .fn = true := by kernel_rfl
theorem nk88 : nkB Try.prog 88 .fn = true := by kernel_rfl
theorem nk89 : nkB Try.prog 89 .fn = true := by kernel_rfl
theorem nk90 : nkB Try.prog 90 .fn = true := by kernel_rfl
theorem nk91 : nkB Try.prog 91 .fn = true := by kernel_rfl
theorem nk92 : nkB Try.prog 92 .fn = true := by kernel_rfl
theorem nk93 : nkB Try.prog 93 .fn = true := by kernel_rfl
theorem nk94 : nkB Try.prog 94 .fn = true := by kernel_rfl
theorem nk95 : nkB Try.prog 95 .fn = true := by kernel_rfl
theorem nk96 : nkB Try.prog 96 .fn = true := by kernel_rfl
theorem nk97 : nkB Try.prog 97 .fn = true := by kernel_rfl
theorem nk98 : nkB Try.prog 98 .fn = true := by kernel_rfl
theorem ty99 : tyB Try.prog 99 false 1 = true := by kernel_rfl
theorem ze99 : zeroIs Try.prog 99 (.int .u64 0) := (by kernel_rfl : (Try.prog.info? 99).bind (·.zero) = some (.int .u64 0))
theorem un99 : Try.prog.underlying 99 = some (.int .u64) := by kernel_rfl
theorem nk100 : nkB Try.prog 100 .fn = true := by kernel_rfl
theorem nk101 : nkB Try.prog 101 .fn = true := by kernel_rfl
theorem nk102 : nkB Try.prog 102 .fn = true := by kernel_rfl
theorem nk103 : nkB Try.prog 103 .fn = true := by kernel_rfl
theorem nk104 : nkB Try.prog 104 .fn = true := by kernel_rfl
theorem ty105 : tyB Try.prog 105 false 1 = true := by kernel_rfl
theorem ze105 : zeroIs Try.prog 105 (.int .i64 0) := (by kernel_rfl : (Try.prog.info? 105).bind (·.zero) = some (.int .i64 0))
theorem un105 : Try.prog.underlying 105 = some (.int .i64) := by kernel_rfl
theorem nk107 : nkB Try.prog 107 .fn = true := by kernel_rfl
theorem nk108 : nkB Try.prog 108 .fn = true := by kernel_rfl
theorem nk109 : nkB Try.prog 109 .fn = true := by kernel_rfl
theorem nk111 : nkB Try.prog 111 .fn = true := by kernel_rfl
theorem nk112 : nkB Try.prog 112 .fn = true := by kernel_rfl
theorem ty113 : tyB Try.prog 113 false 1 = true := by kernel_rfl
theorem ze113 : zeroIs Try.prog 113 (.int .u32 0) := (by kernel_rfl : (Try.prog.info? 113).bind (·.zero) = some (.int .u32 0))
theorem un113 : Try.prog.underlying 113 = some (.int .u32) := by kernel_rfl
theorem nk114 : nkB Try.prog 114 .fn = true := by kernel_rfl
theorem ty115 : tyB Try.prog 115 false 1 = true := by kernel_rfl
theorem ze115 : zeroIs Try.prog 115 (.int .u64 0) := (by kernel_rfl : (Try.prog.info? 115).bind (·.zero) = some (.int .u64 0))
theorem un115 : Try.prog.underlying 115 = some (.int .u64) := by kernel_rfl
theorem nk116 : nkB Try.prog 116 .fn = true := by kernel_rfl
theorem nk117 : nkB Try.prog 117 .fn = true := by kernel_rfl
theorem nk118 : nkB Try.prog 118 .fn = true := by kernel_rfl
theorem nk119 : nkB Try.prog 119 .fn = true := by kernel_rfl
theorem nk120 : nkB Try.prog 120 .fn = true := by kernel_rfl
theorem ty121 : tyB Try.prog 121 false 1 = true := by kernel_rfl
theorem ze121 : zeroIs Try.prog 121 (.int .u64 0) := (by kernel_rfl : (Try.prog.info? 121).bind (·.zero) = some (.int .u64 0))
theorem un121 : Try.prog.underlying 121 = some (.int .u64) := by kernel_rfl
theorem nk122 : nkB Try.prog 122 .fn = true := by kernel_rfl
theorem nk123 : nkB Try.prog 123 .fn = true := by kernel_rfl
theorem nk124 : nkB Try.prog 124 .fn = true := by kernel_rfl
theorem ty125 : tyB Try.prog 125 false 1 = true := by kernel_rfl
theorem ze125 : zeroIs Try.prog 125 (.pointer none) := (by kernel_rfl : (Try.prog.info? 125).bind (·.zero) = some (.pointer none))
theorem nk125 : nkB Try.prog 125 .pt = true := by kernel_rfl
theorem nk126 : nkB Try.prog 126 .fn = true := by kernel_rfl
theorem nk127 : nkB Try.prog 127 .fn = true := by kernel_rfl
theorem nk128 : nkB Try.prog 128 .fn = true := by kernel_rfl
theorem ty129 : tyB Try.prog 129 false 1 = true := by kernel_rfl
theorem ze129 : zeroIs Try.prog 129 (.pointer none) := (by kernel_rfl : (Try.prog.info? 129).bind (·.zero) = some (.pointer none))
theorem nk129 : nkB Try.prog 129 .pt = true := by kernel_rfl
theorem nk131 : nkB Try.prog 131 .fn = true := by kernel_rfl
theorem nk132 : nkB Try.prog 132 .fn = true := by kernel_rfl
theorem nk133 : nkB Try.prog 133 .fn = true := by kernel_rfl
theorem ty136 : tyB Try.prog 136 true 0 = true := by kernel_rfl
theorem ze136 : zeroIs Try.prog 136 (.agg #[]) := (by kernel_rfl : (Try.prog.info? 136).bind (·.zero) = some (.agg #[]))
theorem ar136 : arB Try.prog 136 0 16 1 = true := by kernel_rfl
theorem bp136 : bplB Try.prog 136 [] = true := by kernel_rfl
theorem ty137 : tyB Try.prog 137 true 0 = true := by kernel_rfl
theorem ze137 : zeroIs Try.prog 137 (.agg #[]) := (by kernel_rfl : (Try.prog.info? 137).bind (·.zero) = some (.agg #[]))
theorem bp137 : bplB Try.prog 137 [(0, 0)] = true := by kernel_rfl
theorem nk139 : nkB Try.prog 139 .fn = true := by kernel_rfl
theorem nk142 : nkB Try.prog 142 .fn = true := by kernel_rfl
theorem ty143 : tyB Try.prog 143 false 1 = true := by kernel_rfl
theorem ze143 : zeroIs Try.prog 143 (.pointer none) := (by kernel_rfl : (Try.prog.info? 143).bind (·.zero) = some (.pointer none))
theorem nk143 : nkB Try.prog 143 .pt = true := by kernel_rfl
theorem nk148 : nkB Try.prog 148 .fn = true := by kernel_rfl
theorem fn11 : fnB Try.prog 11 = true := by kernel_rfl
theorem fn12 : fnB Try.prog 12 = true := by kernel_rfl
theorem fn13 : fnB Try.prog 13 = true := by kernel_rfl
theorem fn14 : fnB Try.prog 14 = true := by kernel_rfl
theorem fn15 : fnB Try.prog 15 = true := by kernel_rfl
theorem fn16 : fnB Try.prog 16 = true := by kernel_rfl
theorem fn17 : fnB Try.prog 17 = true := by kernel_rfl
theorem fn18 : fnB Try.prog 18 = true := by kernel_rfl
theorem fn19 : fnB Try.prog 19 = true := by kernel_rfl
theorem fn20 : fnB Try.prog 20 = true := by kernel_rfl
theorem fn21 : fnB Try.prog 21 = true := by kernel_rfl
theorem fn22 : fnB Try.prog 22 = true := by kernel_rfl
theorem fn23 : fnB Try.prog 23 = true := by kernel_rfl
theorem fn24 : fnB Try.prog 24 = true := by kernel_rfl
theorem fn25 : fnB Try.prog 25 = true := by kernel_rfl
theorem fn26 : fnB Try.prog 26 = true := by kernel_rfl
theorem fn27 : fnB Try.prog 27 = true := by kernel_rfl
theorem fn28 : fnB Try.prog 28 = true := by kernel_rfl
theorem fn29 : fnB Try.prog 29 = true := by kernel_rfl
theorem fn30 : fnB Try.prog 30 = true := by kernel_rfl
theorem fn31 : fnB Try.prog 31 = true := by kernel_rfl
theorem fn32 : fnB Try.prog 32 = true := by kernel_rfl
theorem fn33 : fnB Try.prog 33 = true := by kernel_rfl
theorem fn34 : fnB Try.prog 34 = true := by kernel_rfl
theorem fn35 : fnB Try.prog 35 = true := by kernel_rfl
theorem fn36 : fnB Try.prog 36 = true := by kernel_rfl
theorem fn37 : fnB Try.prog 37 = true := by kernel_rfl
theorem fn38 : fnB Try.prog 38 = true := by kernel_rfl
theorem fn39 : fnB Try.prog 39 = true := by kernel_rfl
theorem fn40 : fnB Try.prog 40 = true := by kernel_rfl
theorem fn41 : fnB Try.prog 41 = true := by kernel_rfl
theorem fn42 : fnB Try.prog 42 = true := by kernel_rfl
theorem fn43 : fnB Try.prog 43 = true := by kernel_rfl
theorem fn44 : fnB Try.prog 44 = true := by kernel_rfl
theorem fn45 : fnB Try.prog 45 = true := by kernel_rfl
theorem fn46 : fnB Try.prog 46 = true := by kernel_rfl
theorem fn47 : fnB Try.prog 47 = true := by kernel_rfl
theorem fn48 : fnB Try.prog 48 = true := by kernel_rfl
theorem fn49 : fnB Try.prog 49 = true := by kernel_rfl
theorem fn50 : fnB Try.prog 50 = true := by kernel_rfl
theorem fn51 : fnB Try.prog 51 = true := by kernel_rfl
theorem fn52 : fnB Try.prog 52 = true := by kernel_rfl
theorem fn53 : fnB Try.prog 53 = true := by kernel_rfl
theorem fn54 : fnB Try.prog 54 = true := by kernel_rfl
theorem fn55 : fnB Try.prog 55 = true := by kernel_rfl
theorem fn56 : fnB Try.prog 56 = true := by kernel_rfl
theorem fn57 : fnB Try.prog 57 = true := by kernel_rfl
theorem fn58 : fnB Try.prog 58 = true := by kernel_rfl
theorem fn59 : fnB Try.prog 59 = true := by kernel_rfl
theorem fn60 : fnB Try.prog 60 = true := by kernel_rfl
theorem fn61 : fnB Try.prog 61 = true := by kernel_rfl
theorem fn62 : fnB Try.prog 62 = true := by kernel_rfl
theorem fn63 : fnB Try.prog 63 = true := by kernel_rfl
theorem fn64 : fnB Try.prog 64 = true := by kernel_rfl
end Go.Proofs.Ytikcmjamioopbaa.Fx
/- Directed graphs as lists of edges, plainly: ascending lists, walks, distances, shortest cycles. -/
namespace Go.Proofs.Ytikcmjamioopbaa.M
set_option linter.unusedVariables false
set_option linter.unusedSectionVars false
section
variable {α : Type} [DecidableEq α] {lt : α → α → Bool}
structure Ord (lt : α → α → Bool) : Prop where
  irr : ∀ a, lt a a = false
  tr : ∀ a b c, lt a b = true → lt b c = true → lt a c = true
  tot : ∀ a b, lt a b = false → lt b a = false → a = b
def Asc (lt : α → α → Bool) (l : List α) : Prop := l.Pairwise fun a b => lt a b = true
def put (lt : α → α → Bool) : List α → α → List α
  | [], n => [n]
  | x :: r, n => if lt x n = true then x :: put lt r n else if x = n then x :: r else n :: x :: r
theorem mem_put {n y : α} : ∀ {l : List α}, y ∈ put lt l n ↔ y ∈ l ∨ y = n
  | [] => by simp [put]
  | x :: r => by
    unfold put
    split
    · simp only [List.mem_cons, mem_put (l := r)]
      constructor
      · rintro (h | h | h); exact .inl (.inl h); exact .inl (.inr h); exact .inr h
      · rintro ((h | h) | h); exact .inl h; exact .inr (.inl h); exact .inr (.inr h)
    · split
      · rename_i h; subst h
        simp only [List.mem_cons]
        constructor
        · intro h; exact .inl h
        · rintro (h | h); exact h; exact .inl h
      · simp only [List.mem_cons]
        constructor
        · rintro (h | h | h); exact .inr h; exact .inl (.inl h); exact .inl (.inr h)
        · rintro ((h | h) | h); exact .inr (.inl h); exact .inr (.inr h); exact .inl h
theorem put_asc (o : Ord lt) {n : α} : ∀ {l : List α}, Asc lt l → Asc lt (put lt l n)
  | [], _ => by simp [put, Asc]
  | x :: r, h => by
    obtain ⟨h1, h2⟩ := List.pairwise_cons.1 h
    unfold put
    split
    · rename_i hx
      refine List.pairwise_cons.2 ⟨fun y hy => ?_, put_asc o h2⟩
      rcases mem_put.1 hy with hy | rfl
      · exact h1 y hy
      · exact hx
    · rename_i hx
      split
      · exact h
      · rename_i hne
        have hn : lt n x = true := by
          cases hc : lt n x with
          | true => rfl
          | false => exact absurd (o.tot x n (by simpa using hx) hc) hne
        refine List.pairwise_cons.2 ⟨fun y hy => ?_, h⟩
        rcases List.mem_cons.1 hy with rfl | hy
        · exact hn
        · exact o.tr _ _ _ hn (h1 y hy)
theorem put_len {n : α} : ∀ {l : List α}, (put lt l n).length ≤ l.length + 1
  | [] => by simp [put]
  | x :: r => by
    unfold put
    split
    · have := put_len (n := n) (l := r); simp only [List.length_cons]; omega
    · split <;> simp
theorem Asc.nodup (o : Ord lt) {l : List α} (h : Asc lt l) : l.Nodup := h.imp fun {a b} h e => by subst e; rw [o.irr] at h; cases h
theorem asc_ext (o : Ord lt) : ∀ {a b : List α}, Asc lt a → Asc lt b → (∀ i, i ∈ a ↔ i ∈ b) → a = b
  | [], [], _, _, _ => rfl
  | [], y :: b, _, _, h => by have := (h y).2 (by simp); simp at this
  | x :: a, [], _, _, h => by have := (h x).1 (by simp); simp at this
  | x :: a, y :: b, ha, hb, h => by
    obtain ⟨h1, h2⟩ := List.pairwise_cons.1 ha
    obtain ⟨h3, h4⟩ := List.pairwise_cons.1 hb
    have anti : ∀ {p q : α}, lt p q = true → lt q p = true → False := fun {p q} h h' => by
      have := o.tr _ _ _ h h'; rw [o.irr] at this; cases this
    have e : x = y := by
      rcases List.mem_cons.1 ((h x).1 (by simp)) with hx | hx
      · exact hx
      · rcases List.mem_cons.1 ((h y).2 (by simp)) with hy | hy
        · exact hy.symm
        · exact (anti (h1 y hy) (h3 x hx)).elim
    subst e
    rw [asc_ext o h2 h4 fun i => ?_]
    constructor
    · intro hi
      rcases List.mem_cons.1 ((h i).1 (by simp [hi])) with rfl | h5
      · have := h1 i hi; rw [o.irr] at this; cases this
      · exact h5
    · intro hi
      rcases List.mem_cons.1 ((h i).2 (by simp [hi])) with rfl | h5
      · have := h3 i hi; rw [o.irr] at this; cases this
      · exact h5
/-! ### the lists of a graph -/
def succs (lt : α → α → Bool) (L : List (α × α)) (a : α) : List α := L.foldl (fun l e => if e.1 = a then put lt l e.2 else l) []
def nodes (lt : α → α → Bool) (L : List (α × α)) : List α := L.foldl (fun l e => put lt (put lt l e.1) e.2) []
theorem succs_snoc {L : List (α × α)} {e : α × α} {a : α} : succs lt (L ++ [e]) a = if e.1 = a then put lt (succs lt L a) e.2 else succs lt L a := by simp [succs]
theorem nodes_snoc {L : List (α × α)} {e : α × α} : nodes lt (L ++ [e]) = put lt (put lt (nodes lt L) e.1) e.2 := by simp [nodes]
theorem snoc_ind {β : Type} {p : List β → Prop} (h0 : p []) (h1 : ∀ l x, p l → p (l ++ [x])) (l : List β) : p l := by
  have key : ∀ (m : List β), p m.reverse := by
    intro m
    induction m with
    | nil => exact h0
    | cons x m ih => rw [List.reverse_cons]; exact h1 _ x ih
  have := key l.reverse
  rwa [List.reverse_reverse] at this
theorem mem_succs {L : List (α × α)} {a b : α} : b ∈ succs lt L a ↔ (a, b) ∈ L := by
  induction L using snoc_ind with
  | h0 => simp [succs]
  | h1 L e ih =>
    rw [succs_snoc]
    obtain ⟨x, y⟩ := e
    by_cases h : x = a
    · subst h; simp [mem_put, ih]
    · simp [h, ih, Ne.symm h]
theorem succs_asc (o : Ord lt) {L : List (α × α)} {a : α} : Asc lt (succs lt L a) := by
  induction L using snoc_ind with
  | h0 => exact List.Pairwise.nil
  | h1 L e ih => rw [succs_snoc]; split; exact put_asc o ih; exact ih
theorem mem_nodes {L : List (α × α)} {a : α} : a ∈ nodes lt L ↔ ∃ e ∈ L, e.1 = a ∨ e.2 = a := by
  induction L using snoc_ind with
  | h0 => simp [nodes]
  | h1 L e ih =>
    rw [nodes_snoc, mem_put, mem_put, ih]
    constructor
    · rintro ((⟨e', h1, h2⟩ | h) | h)
      · exact ⟨e', by simp [h1], h2⟩
      · exact ⟨e, by simp, .inl h.symm⟩
      · exact ⟨e, by simp, .inr h.symm⟩
    · rintro ⟨e', h1, h2⟩
      rcases List.mem_append.1 h1 with h1 | h1
      · exact .inl (.inl ⟨e', h1, h2⟩)
      · simp at h1; subst h1
        rcases h2 with h2 | h2
        · exact .inl (.inr h2.symm)
        · exact .inr h2.symm
theorem nodes_asc (o : Ord lt) {L : List (α × α)} : Asc lt (nodes lt L) := by
  induction L using snoc_ind with
  | h0 => exact List.Pairwise.nil
  | h1 L e ih => rw [nodes_snoc]; exact put_asc o (put_asc o ih)
theorem succs_len {L : List (α × α)} {a : α} : (succs lt L a).length ≤ L.length := by
  induction L using snoc_ind with
  | h0 => simp [succs]
  | h1 L e ih =>
    rw [succs_snoc]
    split
    · have := put_len (lt := lt) (n := e.2) (l := succs lt L a); simp; omega
    · simp; omega
theorem nodes_len {L : List (α × α)} : (nodes lt L).length ≤ 2 * L.length := by
  induction L using snoc_ind with
  | h0 => simp [nodes]
  | h1 L e ih =>
    rw [nodes_snoc]
    have h1 := put_len (lt := lt) (n := e.2) (l := put lt (nodes lt L) e.1)
    have h2 := put_len (lt := lt) (n := e.1) (l := nodes lt L)
    simp; omega
/-! ### walks and distances -/
def walkB (L : List (α × α)) : Nat → α → α → Bool
  | 0, a, b => decide (a = b)
  | k + 1, a, b => L.any fun e => decide (e.1 = a) && walkB L k e.2 b
theorem walk_succ {L : List (α × α)} {k : Nat} {a b : α} : walkB L (k + 1) a b = true ↔ ∃ x, (a, x) ∈ L ∧ walkB L k x b = true := by
  simp only [walkB, List.any_eq_true, Bool.and_eq_true, decide_eq_true_eq]
  constructor
  · rintro ⟨⟨p, q⟩, h1, rfl, h2⟩; exact ⟨q, h1, h2⟩
  · rintro ⟨x, h1, h2⟩; exact ⟨(a, x), h1, rfl, h2⟩
theorem walk_add {L : List (α × α)} : ∀ {k m : Nat} {a b : α}, walkB L (k + m) a b = true ↔ ∃ x, walkB L k a x = true ∧ walkB L m x b = true
  | 0, m, a, b => by simp [walkB]
  | k + 1, m, a, b => by
    rw [show k + 1 + m = (k + m) + 1 by omega, walk_succ]
    constructor
    · rintro ⟨x, h1, h2⟩
      obtain ⟨y, h3, h4⟩ := walk_add.1 h2
      exact ⟨y, walk_succ.2 ⟨x, h1, h3⟩, h4⟩
    · rintro ⟨y, h1, h2⟩
      obtain ⟨x, h3, h4⟩ := walk_succ.1 h1
      exact ⟨x, h3, walk_add.2 ⟨y, h4, h2⟩⟩
/-- d is the least number of edges, at least one, of a walk from a to b -/
structure Dist (L : List (α × α)) (a b : α) (d : Nat) : Prop where
  pos : 1 ≤ d
  walk : walkB L d a b = true
  least : ∀ k, 1 ≤ k → k < d → walkB L k a b = false
theorem Dist.uniq {L : List (α × α)} {a b : α} {d d' : Nat} (h : Dist L a b d) (h' : Dist L a b d') : d = d' := by
  rcases Nat.lt_trichotomy d d' with h1 | h1 | h1
  · have := h'.least d h.pos h1; rw [h.walk] at this; cases this
  · exact h1
  · have := h.least d' h'.pos h1; rw [h'.walk] at this; cases this
theorem dist_of_walk {L : List (α × α)} {a b : α} : ∀ {k : Nat}, 1 ≤ k → walkB L k a b = true → ∃ d, d ≤ k ∧ Dist L a b d := by
  intro k
  induction k using Nat.strongRecOn with
  | _ k ih =>
    intro h1 h2
    by_cases h : ∃ j, 1 ≤ j ∧ j < k ∧ walkB L j a b = true
    · obtain ⟨j, h3, h4, h5⟩ := h
      obtain ⟨d, h6, h7⟩ := ih j h4 h3 h5
      exact ⟨d, by omega, h7⟩
    · refine ⟨k, Nat.le_refl _, h1, h2, fun j h3 h4 => ?_⟩
      cases hw : walkB L j a b with
      | false => rfl
      | true => exact absurd ⟨j, h3, h4, hw⟩ h
/-- within k edges -/
def within (L : List (α × α)) (b : α) (k : Nat) (a : α) : Bool := (List.range' 1 k).any fun j => walkB L j a b
theorem within_iff {L : List (α × α)} {a b : α} {k : Nat} : within L b k a = true ↔ ∃ j, 1 ≤ j ∧ j ≤ k ∧ walkB L j a b = true := by
  simp only [within, List.any_eq_true, List.mem_range'_1]
  constructor
  · rintro ⟨j, ⟨h1, h2⟩, h3⟩; exact ⟨j, h1, by omega, h3⟩
  · rintro ⟨j, h1, h2, h3⟩; exact ⟨j, ⟨h1, by omega⟩, h3⟩
theorem within_succ {L : List (α × α)} {a b : α} {k : Nat} : within L b (k + 1) a = true ↔ ∃ x, (a, x) ∈ L ∧ (x = b ∨ within L b k x = true) := by
  rw [within_iff]
  constructor
  · rintro ⟨j, h1, h2, h3⟩
    obtain ⟨j, rfl⟩ : ∃ i, j = i + 1 := ⟨j - 1, by omega⟩
    obtain ⟨x, h4, h5⟩ := walk_succ.1 h3
    refine ⟨x, h4, ?_⟩
    by_cases h6 : j = 0
    · subst h6; exact .inl (by simpa [walkB] using h5)
    · exact .inr (within_iff.2 ⟨j, by omega, by omega, h5⟩)
  · rintro ⟨x, h1, h2⟩
    rcases h2 with rfl | h2
    · exact ⟨1, by omega, by omega, walk_succ.2 ⟨x, h1, by simp [walkB]⟩⟩
    · obtain ⟨j, h3, h4, h5⟩ := within_iff.1 h2
      exact ⟨j + 1, by omega, by omega, walk_succ.2 ⟨x, h1, h5⟩⟩
theorem within_mono {L : List (α × α)} {a b : α} {k m : Nat} (h : within L b k a = true) (hk : k ≤ m) : within L b m a = true := by
  obtain ⟨j, h1, h2, h3⟩ := within_iff.1 h
  exact within_iff.2 ⟨j, h1, by omega, h3⟩
theorem filter_len_lt {β : Type} {p q : β → Bool} (h : ∀ x, p x = true → q x = true) : ∀ (l : List β), (l.filter p).length ≤ (l.filter q).length ∧ ((∃ x ∈ l, q x = true ∧ p x = false) → (l.filter p).length < (l.filter q).length)
  | [] => by simp
  | y :: l => by
    obtain ⟨ih1, ih2⟩ := filter_len_lt h l
    cases hp : p y with
    | true =>
      simp only [List.filter_cons, hp, h y hp, if_true, List.length_cons]
      refine ⟨by omega, ?_⟩
      rintro ⟨x, h1, h2, h3⟩
      rcases List.mem_cons.1 h1 with rfl | h1
      · rw [hp] at h3; cases h3
      · have := ih2 ⟨x, h1, h2, h3⟩; omega
    | false =>
      cases hq : q y with
      | true => simp only [List.filter_cons, hp, hq, if_true, List.length_cons]; exact ⟨by simp; omega, fun _ => by simp; omega⟩
      | false =>
        simp only [List.filter_cons, hp, hq]
        refine ⟨by simpa using ih1, ?_⟩
        rintro ⟨x, h1, h2, h3⟩
        rcases List.mem_cons.1 h1 with rfl | h1
        · rw [hq] at h2; cases h2
        · simpa using ih2 ⟨x, h1, h2, h3⟩
/-- who gets there at all does so within as many edges as there are -/
theorem within_stable {L : List (α × α)} {b : α} {k : Nat} (h : ∀ a, within L b (k + 1) a = true → within L b k a = true) : ∀ m a, within L b (k + m) a = true → within L b k a = true
  | 0, a, h1 => h1
  | m + 1, a, h1 => by
    have h2 : within L b (k + 1) a = true := by
      rw [show k + (m + 1) = (k + m) + 1 by omega] at h1
      obtain ⟨x, h3, h4⟩ := within_succ.1 h1
      exact within_succ.2 ⟨x, h3, h4.imp id (within_stable h m x)⟩
    exact h a h2
theorem within_bound {L : List (α × α)} {a b : α} {k : Nat} (h : within L b k a = true) : within L b L.length a = true := by
  have grow : ∀ k, (∃ j, j ≤ k ∧ ∀ a, within L b (j + 1) a = true → within L b j a = true) ∨ k ≤ ((L.map (·.1)).filter (within L b k)).length := by
    intro k
    induction k with
    | zero => exact .inr (Nat.zero_le _)
    | succ k ih =>
      rcases ih with ⟨j, h1, h2⟩ | ih
      · exact .inl ⟨j, by omega, h2⟩
      · by_cases hs : ∀ a, within L b (k + 1) a = true → within L b k a = true
        · exact .inl ⟨k, by omega, hs⟩
        · refine .inr ?_
          have hex : ∃ a, within L b (k + 1) a = true ∧ within L b k a = false := by
            refine Classical.byContradiction fun hn => hs fun a ha => ?_
            cases hw : within L b k a with
            | true => rfl
            | false => exact absurd ⟨a, ha, hw⟩ hn
          obtain ⟨a, h1, h2⟩ := hex
          have hm : a ∈ L.map (·.1) := by
            obtain ⟨x, h3, _⟩ := within_succ.1 h1
            exact List.mem_map.2 ⟨_, h3, rfl⟩
          have := (filter_len_lt (p := within L b k) (q := within L b (k + 1)) (fun x hx => within_mono hx (by omega)) (L.map (·.1))).2 ⟨a, hm, h1, h2⟩
          omega
  rcases grow (L.length + 1) with ⟨j, h1, h2⟩ | h1
  · by_cases hk : k ≤ L.length
    · exact within_mono h hk
    · by_cases hj : j ≤ L.length
      · have := within_stable h2 (k - j) a (by rw [show j + (k - j) = k by omega]; exact h)
        exact within_mono this hj
      · have hj' : j = L.length + 1 := by omega
        subst hj'
        -- then the numbers have grown as far as the length
        rcases grow L.length with ⟨i, h3, h4⟩ | h3
        · have := within_stable h4 (k - i) a (by rw [show i + (k - i) = k by omega]; exact h)
          exact within_mono this h3
        · -- all sources are within
          have hall : ∀ x ∈ L.map (·.1), within L b L.length x = true := by
            intro x hx
            cases hw : within L b L.length x with
            | true => rfl
            | false =>
              have := (filter_len_lt (p := within L b L.length) (q := fun _ => true) (fun _ _ => rfl) (L.map (·.1))).2 ⟨x, hx, rfl, hw⟩
              rw [List.filter_eq_self.2 (fun _ _ => rfl), List.length_map] at this; omega
          refine hall a ?_
          obtain ⟨k', rfl⟩ : ∃ i, k = i + 1 := ⟨k - 1, by omega⟩
          obtain ⟨x, h5, _⟩ := within_succ.1 h
          exact List.mem_map.2 ⟨_, h5, rfl⟩
  · have h2 := List.length_filter_le (within L b (L.length + 1)) (L.map (·.1))
    rw [List.length_map] at h2; omega
def dist (L : List (α × α)) (a b : α) : Option Nat := (List.range' 1 (L.length + 1)).find? fun k => walkB L k a b
theorem find_range {p : Nat → Bool} : ∀ (n s : Nat), (match (List.range' s n).find? p with | some d => s ≤ d ∧ d < s + n ∧ p d = true ∧ ∀ k, s ≤ k → k < d → p k = false | none => ∀ k, s ≤ k → k < s + n → p k = false)
  | 0, s => by simp; intro k h1 h2; omega
  | n + 1, s => by
    rw [List.range'_succ, List.find?_cons]
    cases hp : p s with
    | true => simp; exact ⟨hp, fun k h1 h2 => by omega⟩
    | false =>
      have ih := find_range (p := p) n (s + 1)
      simp only
      revert ih
      cases (List.range' (s + 1) n).find? p with
      | some d =>
        rintro ⟨h1, h2, h3, h4⟩
        refine ⟨by omega, by omega, h3, fun k h5 h6 => ?_⟩
        by_cases e : k = s
        · subst e; exact hp
        · exact h4 k (by omega) h6
      | none =>
        intro h k h5 h6
        by_cases e : k = s
        · subst e; exact hp
        · exact h k (by omega) (by omega)
theorem dist_some {L : List (α × α)} {a b : α} {d : Nat} : dist L a b = some d ↔ Dist L a b d := by
  have h := find_range (p := fun k => walkB L k a b) (L.length + 1) 1
  unfold dist
  constructor
  · intro e; rw [e] at h; exact ⟨h.1, h.2.2.1, h.2.2.2⟩
  · intro hd
    have hw : within L b L.length a = true := within_bound (k := d) (within_iff.2 ⟨d, hd.pos, Nat.le_refl _, hd.walk⟩)
    obtain ⟨j, h1, h2, h3⟩ := within_iff.1 hw
    have hle : d ≤ L.length := by
      rcases Nat.lt_or_ge j d with h4 | h4
      · have := hd.least j h1 h4; rw [h3] at this; cases this
      · omega
    revert h
    cases (List.range' 1 (L.length + 1)).find? (fun k => walkB L k a b) with
    | some d' => rintro ⟨h4, h5, h6, h7⟩; exact congrArg some (Dist.uniq ⟨h4, h6, h7⟩ hd)
    | none => intro h; have := h d hd.pos (by omega); rw [hd.walk] at this; cases this
theorem dist_none {L : List (α × α)} {a b : α} : dist L a b = none ↔ ∀ k, 1 ≤ k → walkB L k a b = false := by
  constructor
  · intro h k hk
    cases hw : walkB L k a b with
    | false => rfl
    | true => obtain ⟨d, _, hd⟩ := dist_of_walk hk hw; rw [dist_some.2 hd] at h; cases h
  · intro h
    cases hd : dist L a b with
    | none => rfl
    | some d => have h2 := dist_some.1 hd; have h3 := h d h2.pos; rw [h2.walk] at h3; cases h3
theorem dist_le {L : List (α × α)} {a b : α} {d : Nat} (h : dist L a b = some d) : d ≤ L.length + 1 := by
  have h1 := find_range (p := fun k => walkB L k a b) (L.length + 1) 1
  unfold dist at h
  rw [h] at h1; omega
theorem dist_trans {L : List (α × α)} {a b c : α} (h1 : dist L a b ≠ none) (h2 : dist L b c ≠ none) : dist L a c ≠ none := by
  obtain ⟨d, hd⟩ := Option.ne_none_iff_exists'.1 h1
  obtain ⟨e, he⟩ := Option.ne_none_iff_exists'.1 h2
  have hd := dist_some.1 hd
  have he := dist_some.1 he
  intro hn
  have := dist_none.1 hn (d + e) (by have := hd.pos; omega)
  rw [walk_add.2 ⟨b, hd.walk, he.walk⟩] at this; cases this
theorem len_sub {β : Type} : ∀ (a b : List β), a.Nodup → (∀ x ∈ a, x ∈ b) → a.length ≤ b.length := by
  classical
  intro a
  induction a with
  | nil => intro b _ _; simp
  | cons x a ih =>
    intro b hn hm
    obtain ⟨h1, h2⟩ := List.nodup_cons.1 hn
    have hx := hm x (by simp)
    have := ih (b.erase x) h2 fun y hy => (List.mem_erase_of_ne (fun e => h1 (by rw [← e]; exact hy))).2 (hm y (by simp [hy]))
    rw [List.length_erase_of_mem hx] at this
    have hpos : 0 < b.length := List.length_pos_of_mem hx
    simp; omega
theorem walk_last {L : List (α × α)} {k : Nat} {a b : α} : walkB L (k + 1) a b = true ↔ ∃ x, walkB L k a x = true ∧ (x, b) ∈ L := by
  rw [walk_add]
  constructor
  · rintro ⟨x, h1, h2⟩
    obtain ⟨y, h3, h4⟩ := walk_succ.1 h2
    have : y = b := by simpa [walkB] using h4
    subst this; exact ⟨x, h1, h3⟩
  · rintro ⟨x, h1, h2⟩; exact ⟨x, h1, walk_succ.2 ⟨b, h2, by simp [walkB]⟩⟩
/-- the nodes within N edges of a, forward -/
structure FS (lt : α → α → Bool) (L : List (α × α)) (a : α) (N : Nat) (s : List α) : Prop where
  asc : Asc lt s
  mem : ∀ x, x ∈ s ↔ ∃ j, 1 ≤ j ∧ j ≤ N ∧ walkB L j a x = true
theorem FS.start (o : Ord lt) {L : List (α × α)} {a : α} : FS lt L a 1 (succs lt L a) := ⟨succs_asc o, fun x => by
  rw [mem_succs]
  constructor
  · intro h; exact ⟨1, by omega, by omega, walk_succ.2 ⟨x, h, by simp [walkB]⟩⟩
  · rintro ⟨j, h1, h2, h3⟩
    obtain rfl : j = 1 := by omega
    obtain ⟨y, h4, h5⟩ := walk_succ.1 h3
    have : y = x := by simpa [walkB] using h5
    subst this; exact h4⟩
theorem FS.next {L : List (α × α)} {a : α} {N : Nat} {s s' : List α} (h : FS lt L a N s) (h1 : 1 ≤ N) (ha : Asc lt s') (hm : ∀ x, x ∈ s' ↔ x ∈ s ∨ ∃ y ∈ s, (y, x) ∈ L) : FS lt L a (N + 1) s' := ⟨ha, fun x => by
  rw [hm, h.mem]
  constructor
  · rintro (⟨j, h2, h3, h4⟩ | ⟨y, hy, h2⟩)
    · exact ⟨j, h2, by omega, h4⟩
    · obtain ⟨j, h3, h4, h5⟩ := (h.mem y).1 hy
      exact ⟨j + 1, by omega, by omega, walk_last.2 ⟨y, h5, h2⟩⟩
  · rintro ⟨j, h2, h3, h4⟩
    by_cases e : j ≤ N
    · exact .inl ⟨j, h2, e, h4⟩
    · obtain rfl : j = N + 1 := by omega
      obtain ⟨y, h5, h6⟩ := walk_last.1 h4
      exact .inr ⟨y, (h.mem y).2 ⟨N, h1, Nat.le_refl _, h5⟩, h6⟩⟩
theorem sub_nodes_len (o : Ord lt) {L : List (α × α)} {s : List α} (ha : Asc lt s) (h : ∀ x ∈ s, ∃ y, (y, x) ∈ L) : s.length ≤ 2 * L.length :=
  Nat.le_trans (len_sub s (nodes lt L) (ha.nodup o) fun x hx => by obtain ⟨y, hy⟩ := h x hx; exact mem_nodes.2 ⟨_, hy, .inr rfl⟩) nodes_len
theorem FS.src {L : List (α × α)} {a : α} {N : Nat} {s : List α} (h : FS lt L a N s) : ∀ x ∈ s, ∃ y, (y, x) ∈ L := fun x hx => by
  obtain ⟨j, h1, h2, h3⟩ := (h.mem x).1 hx
  obtain ⟨k, rfl⟩ : ∃ i, j = i + 1 := ⟨j - 1, by omega⟩
  obtain ⟨y, _, h4⟩ := walk_last.1 h3
  exact ⟨y, h4⟩
def farZ (L : List (α × α)) (a b : α) : Int := match dist L a b with | some d => (d : Nat) | none => -1
theorem farZ_some {L : List (α × α)} {a b : α} {d : Nat} (h : Dist L a b d) : farZ L a b = (d : Nat) := by unfold farZ; rw [dist_some.2 h]
theorem farZ_none {L : List (α × α)} {a b : α} {N : Nat} (hN : L.length + 2 ≤ N) (h : ∀ j, 1 ≤ j → j < N → walkB L j a b = false) : farZ L a b = -1 := by
  unfold farZ
  cases hd : dist L a b with
  | none => rfl
  | some d =>
    have h1 := dist_le hd
    have h2 := dist_some.1 hd
    have := h d h2.pos (by omega)
    rw [h2.walk] at this; cases this
/-! ### the shortest cycle -/
/-- the way down: from a node at distance k + 1 of n -/
def down (lt : α → α → Bool) (L : List (α × α)) (n : α) : Nat → α → List α
  | 0, _ => []
  | k + 1, a => match (succs lt L a).find? fun x => decide (dist L x n = some (k + 1)) with
    | some x => x :: down lt L n k x
    | none => a :: down lt L n k a
def cyc (lt : α → α → Bool) (L : List (α × α)) (n : α) : List α :=
  match dist L n n with
  | none => []
  | some d => n :: down lt L n (d - 1) n
theorem dist_next {L : List (α × α)} {a n : α} {k : Nat} (h : dist L a n = some (k + 2)) : ∃ x ∈ succs lt L a, dist L x n = some (k + 1) := by
  have hd := dist_some.1 h
  obtain ⟨x, h1, h2⟩ := walk_succ.1 hd.walk
  refine ⟨x, mem_succs.2 h1, dist_some.2 ⟨by omega, h2, fun j h3 h4 => ?_⟩⟩
  cases hw : walkB L j x n with
  | false => rfl
  | true => have := hd.least (j + 1) (by omega) (by omega); rw [walk_succ.2 ⟨x, h1, hw⟩] at this; cases this
theorem find_next {L : List (α × α)} {a n : α} {k : Nat} (h : dist L a n = some (k + 2)) : ∃ x, (succs lt L a).find? (fun x => decide (dist L x n = some (k + 1))) = some x ∧ (a, x) ∈ L ∧ dist L x n = some (k + 1) := by
  obtain ⟨x, h1, h2⟩ := dist_next (lt := lt) h
  cases hf : (succs lt L a).find? fun x => decide (dist L x n = some (k + 1)) with
  | none => have := List.find?_eq_none.1 hf x h1; simp [h2] at this
  | some y =>
    have h3 := List.find?_some hf
    have h4 := List.mem_of_find?_eq_some hf
    exact ⟨y, rfl, mem_succs.1 h4, by simpa using h3⟩
theorem down_len {L : List (α × α)} {n : α} : ∀ (k : Nat) (a : α), (down lt L n k a).length = k
  | 0, _ => rfl
  | k + 1, a => by unfold down; split <;> simp [down_len k]
theorem cyc_nil {L : List (α × α)} {n : α} : cyc lt L n = [] ↔ dist L n n = none := by
  unfold cyc
  cases dist L n n <;> simp
theorem cyc_head {L : List (α × α)} {n : α} (h : cyc lt L n ≠ []) : ∃ r, cyc lt L n = n :: r := by
  unfold cyc at *
  cases hd : dist L n n with
  | none => rw [hd] at h; exact absurd rfl h
  | some d => exact ⟨_, rfl⟩
/-- the j-th node of the way down stands at the distance k - j -/
theorem down_dist {L : List (α × α)} {n : α} : ∀ (k : Nat) (a : α), dist L a n = some (k + 1) → ∀ j x, (down lt L n k a)[j]? = some x → dist L x n = some (k - j)
  | 0, a, h, j, x, hx => by simp [down] at hx
  | k + 1, a, h, j, x, hx => by
    obtain ⟨y, h1, h2, h3⟩ := find_next (lt := lt) h
    rw [down, h1] at hx
    cases j with
    | zero => simp at hx; subst hx; exact h3
    | succ j => simp at hx; have := down_dist k y h3 j x hx; rw [this]; congr 1; omega
theorem down_edge {L : List (α × α)} {n : α} : ∀ (k : Nat) (a : α), dist L a n = some (k + 1) → ∀ j x y, (a :: down lt L n k a)[j]? = some x → (a :: down lt L n k a)[j + 1]? = some y → (x, y) ∈ L
  | 0, a, h, j, x, y, hx, hy => by simp [down] at hy
  | k + 1, a, h, j, x, y, hx, hy => by
    obtain ⟨z, h1, h2, h3⟩ := find_next (lt := lt) h
    rw [down, h1] at hx hy
    cases j with
    | zero => simp at hx hy; subst hx hy; exact h2
    | succ j =>
      simp only [List.getElem?_cons_succ] at hx hy
      exact down_edge k z h3 j x y hx hy
theorem dist_one {L : List (α × α)} {a b : α} : dist L a b = some 1 ↔ (a, b) ∈ L := by
  rw [dist_some]
  constructor
  · intro h
    obtain ⟨x, h1, h2⟩ := walk_succ.1 h.walk
    have : x = b := by simpa [walkB] using h2
    subst this; exact h1
  · intro h; exact ⟨Nat.le_refl _, walk_succ.2 ⟨b, h, by simp [walkB]⟩, fun k h1 h2 => by omega⟩
theorem cyc_facts {L : List (α × α)} {n : α} {d : Nat} (h : dist L n n = some d) : (cyc lt L n).length = d ∧ (∀ j x, (cyc lt L n)[j]? = some x → dist L x n = some (d - j)) ∧
    (∀ j x y, (cyc lt L n)[j]? = some x → (cyc lt L n)[(j + 1) % d]? = some y → (x, y) ∈ L) := by
  have hp := (dist_some.1 h).pos
  obtain ⟨k, rfl⟩ : ∃ k, d = k + 1 := ⟨d - 1, by omega⟩
  have e : cyc lt L n = n :: down lt L n k n := by unfold cyc; rw [h]; rfl
  have hdist : ∀ j x, (cyc lt L n)[j]? = some x → dist L x n = some (k + 1 - j) := by
    intro j x hx
    rw [e] at hx
    cases j with
    | zero => simp at hx; subst hx; exact h
    | succ j => simp at hx; rw [down_dist k n h j x hx]; congr 1; omega
  refine ⟨by rw [e]; simp [down_len], hdist, fun j x y hx hy => ?_⟩
  have hj : j < k + 1 := by
    have := (List.getElem?_eq_some_iff.1 hx).1
    rw [e] at this; simpa [down_len] using this
  by_cases hl : j = k
  · subst hl
    rw [Nat.mod_self] at hy
    rw [e] at hy; simp at hy; subst hy
    have := hdist j x hx
    rw [show j + 1 - j = 1 by omega] at this
    exact dist_one.1 this
  · rw [Nat.mod_eq_of_lt (by omega)] at hy
    rw [e] at hx hy
    exact down_edge k n h j x y hx hy
theorem cyc_inj {L : List (α × α)} {n : α} {i j : Nat} {x : α} (hi : (cyc lt L n)[i]? = some x) (hj : (cyc lt L n)[j]? = some x) : i = j := by
  cases hd : dist L n n with
  | none => rw [cyc_nil.2 hd] at hi; simp at hi
  | some d =>
    obtain ⟨h1, h2, _⟩ := cyc_facts (lt := lt) hd
    have h3 := (List.getElem?_eq_some_iff.1 hi).1
    have h4 := (List.getElem?_eq_some_iff.1 hj).1
    have h5 := h2 i x hi
    rw [h2 j x hj] at h5
    injection h5 with h5
    omega
/-! ### edges added and removed -/
def addE (L : List (α × α)) (a b : α) : List (α × α) := if (a, b) ∈ L then L else L ++ [(a, b)]
def rmE (L : List (α × α)) (n : α) : List (α × α) := L.filter fun e => !decide (e.1 = n) && !decide (e.2 = n)
def lvE (L : List (α × α)) (n : α) : List (α × α) := L.filter fun e => !decide (e.1 = n)
theorem mem_addE {L : List (α × α)} {a b : α} {e : α × α} : e ∈ addE L a b ↔ e ∈ L ∨ e = (a, b) := by
  unfold addE; split
  · rename_i h; constructor
    · intro h; exact .inl h
    · rintro (h' | rfl); exact h'; exact h
  · simp
theorem mem_rmE {L : List (α × α)} {n : α} {e : α × α} : e ∈ rmE L n ↔ e ∈ L ∧ e.1 ≠ n ∧ e.2 ≠ n := by simp [rmE]
theorem mem_lvE {L : List (α × α)} {n : α} {e : α × α} : e ∈ lvE L n ↔ e ∈ L ∧ e.1 ≠ n := by simp [lvE]
theorem walk_sub {L L' : List (α × α)} (h : ∀ e ∈ L', e ∈ L) : ∀ {k : Nat} {a b : α}, walkB L' k a b = true → walkB L k a b = true
  | 0, _, _, hw => hw
  | k + 1, a, b, hw => by
    obtain ⟨x, h1, h2⟩ := walk_succ.1 hw
    exact walk_succ.2 ⟨x, h _ h1, walk_sub h h2⟩
theorem dist_sub {L L' : List (α × α)} (h : ∀ e ∈ L', e ∈ L) {a b : α} (hd : dist L a b = none) : dist L' a b = none := by
  rw [dist_none] at *
  intro k hk
  cases hw : walkB L' k a b with
  | false => rfl
  | true => have := hd k hk; rw [walk_sub h hw] at this; cases this
theorem dist_gone {L : List (α × α)} {n : α} (h : ∀ e ∈ L, e.1 ≠ n) {b : α} : dist L n b = none := by
  rw [dist_none]
  intro k hk
  obtain ⟨k, rfl⟩ : ∃ j, k = j + 1 := ⟨k - 1, by omega⟩
  cases hw : walkB L (k + 1) n b with
  | false => rfl
  | true => obtain ⟨x, h1, _⟩ := walk_succ.1 hw; exact absurd rfl (h _ h1)
end
end Go.Proofs.Ytikcmjamioopbaa.M
/-
  DERIVED: THE SHELF's CONTRACTS AT THIS DUMP, IN PLAIN WORDS (tools/lay-plain.mjs out of 'TryShelf.lean', which tools/lay-shelf.mjs wrote): THE SAME DECLARATIONS UNDER THE SAME NAMES: 'import', 'namespace', 'open', 'def', 'theorem' AND NOTHING ELSE: no command of the shelf's: FOR A HAND-IN. Each laying: the table of numbers ('.._ren') and one theorem, a field a fact of the dump's own or the kernel's comparison; each contract: ONE APPLICATION.
-/
namespace Go.Proofs
open Go.Shelf
def Try.lays128_ren : Go.Shelf.Ren := ⟨fun | 128 => 75 | n => n, fun | 51 => 113 | 3 => 3 | 4 => 4 | 46 => 99 | 5 => 5 | 9 => 9 | n => n, fun | n => n⟩
theorem Try.lays128 : Go.Proofs.Lays.n128 Try.prog Try.lays128_ren := {
  mixed := by kernel_rfl
  f128 := Try.func75.trans (congrArg some (by kernel_rfl))
  t3 := Try.underlying3
  a3 := Try.isAgg3
  z3 := Try.sizeOf3
  v3 := Try.zeroValue3
  t4 := Try.underlying4
  a4 := Try.isAgg4
  z4 := Try.sizeOf4
  v4 := Try.zeroValue4
  t5 := Try.underlying5
  a5 := Try.isAgg5
  z5 := Try.sizeOf5
  v5 := Try.zeroValue5
  t9 := Try.underlying9
  a9 := Try.isAgg9
  z9 := Try.sizeOf9
  v9 := Try.zeroValue9
  t46 := Try.underlying99
  a46 := Try.isAgg99
  z46 := Try.sizeOf99
  v46 := Try.zeroValue99
  t51 := Try.underlying113
  a51 := Try.isAgg113
  z51 := Try.sizeOf113
  v51 := Try.zeroValue113 }
/-- bits.Len32: "Len32 returns the minimum number of bits required to represent x; the result is 0 for x == 0.": IT RETURNS 'Lib.bitLen x'; the world is as it was. ('h0', 'h1': x is a uint32.) (LAID: no walk: one application.) -/
theorem Try.bits_Len32 (x : Int) (w : World) (h0 : 0 ≤ x) (h1 : x ≤ 4294967295) :
    Calls Try.prog 75 #[.int .u32 x] w fun e w' => e = .returned (.int .i64 (Lib.bitLen x.toNat)) ∧ w' = w := Any.bits_Len32 Try.lays128 x w h0 h1
def Try.lays125_ren : Go.Shelf.Ren := ⟨fun | 125 => 61 | 128 => 75 | 129 => 76 | n => n, fun | 46 => 99 | 3 => 3 | 51 => 113 | 53 => 115 | 4 => 4 | 5 => 5 | 9 => 9 | n => n, fun | n => n⟩
theorem Try.lays125 : Go.Proofs.Lays.n125 Try.prog Try.lays125_ren := {
  mixed := by kernel_rfl
  f125 := Try.func61.trans (congrArg some (by kernel_rfl))
  f128 := Try.func75.trans (congrArg some (by kernel_rfl))
  f129 := Try.func76.trans (congrArg some (by kernel_rfl))
  t3 := Try.underlying3
  a3 := Try.isAgg3
  z3 := Try.sizeOf3
  v3 := Try.zeroValue3
  t4 := Try.underlying4
  a4 := Try.isAgg4
  z4 := Try.sizeOf4
  v4 := Try.zeroValue4
  t5 := Try.underlying5
  a5 := Try.isAgg5
  z5 := Try.sizeOf5
  v5 := Try.zeroValue5
  t9 := Try.underlying9
  a9 := Try.isAgg9
  z9 := Try.sizeOf9
  v9 := Try.zeroValue9
  t46 := Try.underlying99
  a46 := Try.isAgg99
  z46 := Try.sizeOf99
  v46 := Try.zeroValue99
  t51 := Try.underlying113
  a51 := Try.isAgg113
  z51 := Try.sizeOf113
  v51 := Try.zeroValue113
  t53 := Try.underlying115
  a53 := Try.isAgg115
  z53 := Try.sizeOf115
  v53 := Try.zeroValue115 }
/-- bits.Len: "Len returns the minimum number of bits required to represent x; the result is 0 for x == 0.": IT RETURNS 'Lib.bitLen x'; the world is as it was. (A uint has 64 bits in the model.) ITS CALLEE bits.Len64 IS MET BY ITS OWN CONTRACT OFF THE SHELF (lay that first). (LAID: no walk: one application.) -/
theorem Try.bits_Len (x : Int) (w : World) (h0 : 0 ≤ x) (h1 : x ≤ 18446744073709551615) :
    Calls Try.prog 61 #[.int .u64 x] w fun e w' => e = .returned (.int .i64 (Lib.bitLen x.toNat)) ∧ w' = w := Any.bits_Len Try.lays125 x w h0 h1
def Try.lays129_ren : Go.Shelf.Ren := ⟨fun | 129 => 76 | n => n, fun | 53 => 115 | 3 => 3 | 4 => 4 | 46 => 99 | 5 => 5 | 9 => 9 | n => n, fun | n => n⟩
theorem Try.lays129 : Go.Proofs.Lays.n129 Try.prog Try.lays129_ren := {
  mixed := by kernel_rfl
  f129 := Try.func76.trans (congrArg some (by kernel_rfl))
  t3 := Try.underlying3
  a3 := Try.isAgg3
  z3 := Try.sizeOf3
  v3 := Try.zeroValue3
  t4 := Try.underlying4
  a4 := Try.isAgg4
  z4 := Try.sizeOf4
  v4 := Try.zeroValue4
  t5 := Try.underlying5
  a5 := Try.isAgg5
  z5 := Try.sizeOf5
  v5 := Try.zeroValue5
  t9 := Try.underlying9
  a9 := Try.isAgg9
  z9 := Try.sizeOf9
  v9 := Try.zeroValue9
  t46 := Try.underlying99
  a46 := Try.isAgg99
  z46 := Try.sizeOf99
  v46 := Try.zeroValue99
  t53 := Try.underlying115
  a53 := Try.isAgg115
  z53 := Try.sizeOf115
  v53 := Try.zeroValue115 }
/-- bits.Len64: "Len64 returns the minimum number of bits required to represent x; the result is 0 for x == 0.": IT RETURNS 'Lib.bitLen x'; the world is as it was. ('h0', 'h1': x is a uint64.) (LAID: no walk: one application.) -/
theorem Try.bits_Len64 (x : Int) (w : World) (h0 : 0 ≤ x) (h1 : x ≤ 18446744073709551615) :
    Calls Try.prog 76 #[.int .u64 x] w fun e w' => e = .returned (.int .i64 (Lib.bitLen x.toNat)) ∧ w' = w := Any.bits_Len64 Try.lays129 x w h0 h1
def Try.laysNm237_ren : Go.Shelf.Ren := ⟨fun | 37 => 91 | n => n, fun | 3 => 3 | 4 => 4 | n => n, fun | n => n⟩
theorem Try.laysNm237 : Go.Proofs.Lays2.n37 Try.prog Try.laysNm237_ren := {
  mixed := by kernel_rfl
  f37 := Try.func91.trans (congrArg some (by kernel_rfl))
  t3 := Try.underlying3
  a3 := Try.isAgg3
  z3 := Try.sizeOf3
  v3 := Try.zeroValue3
  t4 := Try.underlying4
  a4 := Try.isAgg4
  z4 := Try.sizeOf4
  v4 := Try.zeroValue4 }
open Go.RowKit Go.Lib in
/-- cmp.isNaN[int]: 'x != x': false. (LAID: no walk: one application.) -/
theorem Try.cmp_isNaN_int2 (x : Int) (w : World) :
    Calls Try.prog 91 #[.int .i64 x] w fun e w' => e = .returned (.bool false) ∧ w' = w := Any.cmp_isNaN_int2 Try.laysNm237 x w
def Try.laysNm231_ren : Go.Shelf.Ren := ⟨fun | 31 => 72 | 37 => 91 | n => n, fun | 3 => 3 | 4 => 4 | n => n, fun | n => n⟩
theorem Try.laysNm231 : Go.Proofs.Lays2.n31 Try.prog Try.laysNm231_ren := {
  mixed := by kernel_rfl
  f31 := Try.func72.trans (congrArg some (by kernel_rfl))
  f37 := Try.func91.trans (congrArg some (by kernel_rfl))
  t3 := Try.underlying3
  a3 := Try.isAgg3
  z3 := Try.sizeOf3
  v3 := Try.zeroValue3
  t4 := Try.underlying4
  a4 := Try.isAgg4
  z4 := Try.sizeOf4
  v4 := Try.zeroValue4 }
open Go.RowKit Go.Lib in
/-- cmp.Less[int]: "Less reports whether x is less than y.": 'x < y'; the world is as it was. (LAID: no walk: one application.) -/
theorem Try.cmp_Less_int2 (x y : Int) (w : World) :
    Calls Try.prog 72 #[.int .i64 x, .int .i64 y] w fun e w' => e = .returned (.bool (decide (x < y))) ∧ w' = w := Any.cmp_Less_int2 Try.laysNm231 x y w
def Try.laysSlM5_f48_ren : Go.Shelf.Ren := ⟨fun | 5 => 48 | 8 => 61 | 7 => 60 | 19 => 75 | 20 => 76 | 10 => 66 | 11 => 67 | 12 => 68 | 13 => 69 | 14 => 70 | 15 => 71 | 16 => 72 | 17 => 73 | 18 => 74 | 30 => 86 | 31 => 87 | 32 => 88 | 33 => 89 | 34 => 90 | 35 => 91 | 40 => 96 | n => n, fun | 23 => 30 | 25 => 3 | 3 => 3 | 32 => 99 | 22 => 30 | 0 => 0 | 44 => 113 | 46 => 115 | 4 => 4 | 36 => 106 | 35 => 105 | 41 => 110 | 5 => 5 | 9 => 9 | 53 => 121 | 57 => 125 | 63 => 129 | 64 => 130 | n => n, fun | n => n⟩
theorem Try.laysSlM5_f48 : Go.Proofs.SlLaysM.n5 Try.prog Try.laysSlM5_f48_ren := {
  mixed := by kernel_rfl
  f5 := ⟨Try.f48.name, by decide, Try.func48.trans (congrArg some (by kernel_rfl))⟩
  f7 := ⟨Try.f60.name, by decide, Try.func60.trans (congrArg some (by kernel_rfl))⟩
  f8 := Try.func61.trans (congrArg some (by kernel_rfl))
  f10 := ⟨Try.f66.name, by decide, Try.func66.trans (congrArg some (by kernel_rfl))⟩
  f11 := ⟨Try.f67.name, by decide, Try.func67.trans (congrArg some (by kernel_rfl))⟩
  f12 := ⟨Try.f68.name, by decide, Try.func68.trans (congrArg some (by kernel_rfl))⟩
  f13 := ⟨Try.f69.name, by decide, Try.func69.trans (congrArg some (by kernel_rfl))⟩
  f14 := ⟨Try.f70.name, by decide, Try.func70.trans (congrArg some (by kernel_rfl))⟩
  f15 := ⟨Try.f71.name, by decide, Try.func71.trans (congrArg some (by kernel_rfl))⟩
  f16 := ⟨Try.f72.name, by decide, Try.func72.trans (congrArg some (by kernel_rfl))⟩
  f17 := ⟨Try.f73.name, by decide, Try.func73.trans (congrArg some (by kernel_rfl))⟩
  f18 := ⟨Try.f74.name, by decide, Try.func74.trans (congrArg some (by kernel_rfl))⟩
  f19 := Try.func75.trans (congrArg some (by kernel_rfl))
  f20 := Try.func76.trans (congrArg some (by kernel_rfl))
  f30 := ⟨Try.f86.name, by decide, Try.func86.trans (congrArg some (by kernel_rfl))⟩
  f31 := Try.func87.trans (congrArg some (by kernel_rfl))
  f32 := Try.func88.trans (congrArg some (by kernel_rfl))
  f33 := ⟨Try.f89.name, by decide, Try.func89.trans (congrArg some (by kernel_rfl))⟩
  f34 := ⟨Try.f90.name, by decide, Try.func90.trans (congrArg some (by kernel_rfl))⟩
  f35 := ⟨Try.f91.name, by decide, Try.func91.trans (congrArg some (by kernel_rfl))⟩
  f40 := ⟨Try.f96.name, by decide, Try.func96.trans (congrArg some (by kernel_rfl))⟩
  t0 := Try.underlying0
  a0 := Try.isAgg0
  z0 := Try.sizeOf0
  v0 := Try.zeroValue0
  t3 := Try.underlying3
  a3 := Try.isAgg3
  z3 := Try.sizeOf3
  v3 := Try.zeroValue3
  t4 := Try.underlying4
  a4 := Try.isAgg4
  z4 := Try.sizeOf4
  v4 := Try.zeroValue4
  t5 := Try.underlying5
  a5 := Try.isAgg5
  z5 := Try.sizeOf5
  v5 := Try.zeroValue5
  t9 := Try.underlying9
  a9 := Try.isAgg9
  z9 := Try.sizeOf9
  v9 := Try.zeroValue9
  t22 := Try.underlying30
  a22 := Try.isAgg30
  z22 := Try.sizeOf30
  v22 := Try.zeroValue30
  t23 := Try.underlying30
  a23 := Try.isAgg30
  z23 := Try.sizeOf30
  v23 := Try.zeroValue30
  t25 := Try.underlying3
  a25 := Try.isAgg3
  z25 := Try.sizeOf3
  v25 := Try.zeroValue3
  t32 := Try.underlying99
  a32 := Try.isAgg99
  z32 := Try.sizeOf99
  v32 := Try.zeroValue99
  t35 := Try.underlying105
  a35 := Try.isAgg105
  z35 := Try.sizeOf105
  v35 := Try.zeroValue105
  t36 := Try.underlying106
  a36 := Try.isAgg106
  z36 := Try.sizeOf106
  v36 := Try.zeroValue106
  t41 := Try.underlying110
  a41 := Try.isAgg110
  z41 := Try.sizeOf110
  v41 := Try.zeroValue110
  t44 := Try.underlying113
  a44 := Try.isAgg113
  z44 := Try.sizeOf113
  v44 := Try.zeroValue113
  t46 := Try.underlying115
  a46 := Try.isAgg115
  z46 := Try.sizeOf115
  v46 := Try.zeroValue115
  t53 := Try.underlying121
  a53 := Try.isAgg121
  z53 := Try.sizeOf121
  v53 := Try.zeroValue121
  t57 := Try.underlying125
  a57 := Try.isAgg125
  z57 := Try.sizeOf125
  v57 := Try.zeroValue125
  t63 := Try.underlying129
  a63 := Try.isAgg129
  z63 := Try.sizeOf129
  v63 := Try.zeroValue129
  t64 := Try.underlying130
  a64 := Try.isAgg130
  z64 := Try.sizeOf130
  v64 := Try.zeroValue130 }
open Go.Sort Go.RowKit in
theorem Try.slices_Sort_int (blk off cap : Nat) (zs : List Int) (w : World) (hH : Holds (Value.int .i64) w blk off zs.toArray) (hblk : blk < w.heap.size) (hsz : zs.length < 4611686018427387904) :
    Calls Try.prog 48 #[.slice (some ⟨blk, off, none⟩) zs.length cap] w fun e w' =>
      e = .returned (.tuple #[]) ∧ ∃ n os, w' = grow (putRow (Value.int .i64) (Sort.ahead w n) blk off (zs.mergeSort fun x y => decide (x ≤ y)).toArray) os := AnyM.slices_Sort_int Try.laysSlM5_f48 blk off cap zs w hH hblk hsz
def Try.laysSlM6_f57_ren : Go.Shelf.Ren := ⟨fun | 6 => 57 | 8 => 61 | 9 => 65 | 19 => 75 | 20 => 76 | 21 => 77 | 22 => 78 | 23 => 79 | 24 => 80 | 25 => 81 | 26 => 82 | 27 => 83 | 28 => 84 | 29 => 85 | 36 => 92 | 31 => 87 | 32 => 88 | 37 => 93 | 38 => 94 | 39 => 95 | 41 => 97 | n => n, fun | 27 => 61 | 29 => 9 | 3 => 3 | 32 => 99 | 26 => 61 | 0 => 0 | 44 => 113 | 46 => 115 | 4 => 4 | 36 => 106 | 35 => 105 | 41 => 110 | 5 => 5 | 9 => 9 | 53 => 121 | 57 => 125 | 63 => 129 | 64 => 130 | n => n, fun | n => n⟩
theorem Try.laysSlM6_f57 : Go.Proofs.SlLaysM.n6 Try.prog Try.laysSlM6_f57_ren := {
  mixed := by kernel_rfl
  f6 := ⟨Try.f57.name, by decide, Try.func57.trans (congrArg some (by kernel_rfl))⟩
  f8 := Try.func61.trans (congrArg some (by kernel_rfl))
  f9 := ⟨Try.f65.name, by decide, Try.func65.trans (congrArg some (by kernel_rfl))⟩
  f19 := Try.func75.trans (congrArg some (by kernel_rfl))
  f20 := Try.func76.trans (congrArg some (by kernel_rfl))
  f21 := ⟨Try.f77.name, by decide, Try.func77.trans (congrArg some (by kernel_rfl))⟩
  f22 := ⟨Try.f78.name, by decide, Try.func78.trans (congrArg some (by kernel_rfl))⟩
  f23 := ⟨Try.f79.name, by decide, Try.func79.trans (congrArg some (by kernel_rfl))⟩
  f24 := ⟨Try.f80.name, by decide, Try.func80.trans (congrArg some (by kernel_rfl))⟩
  f25 := ⟨Try.f81.name, by decide, Try.func81.trans (congrArg some (by kernel_rfl))⟩
  f26 := ⟨Try.f82.name, by decide, Try.func82.trans (congrArg some (by kernel_rfl))⟩
  f27 := ⟨Try.f83.name, by decide, Try.func83.trans (congrArg some (by kernel_rfl))⟩
  f28 := ⟨Try.f84.name, by decide, Try.func84.trans (congrArg some (by kernel_rfl))⟩
  f29 := ⟨Try.f85.name, by decide, Try.func85.trans (congrArg some (by kernel_rfl))⟩
  f31 := Try.func87.trans (congrArg some (by kernel_rfl))
  f32 := Try.func88.trans (congrArg some (by kernel_rfl))
  f36 := ⟨Try.f92.name, by decide, Try.func92.trans (congrArg some (by kernel_rfl))⟩
  f37 := ⟨Try.f93.name, by decide, Try.func93.trans (congrArg some (by kernel_rfl))⟩
  f38 := ⟨Try.f94.name, by decide, Try.func94.trans (congrArg some (by kernel_rfl))⟩
  f39 := ⟨Try.f95.name, by decide, Try.func95.trans (congrArg some (by kernel_rfl))⟩
  f41 := ⟨Try.f97.name, by decide, Try.func97.trans (congrArg some (by kernel_rfl))⟩
  t0 := Try.underlying0
  a0 := Try.isAgg0
  z0 := Try.sizeOf0
  v0 := Try.zeroValue0
  t3 := Try.underlying3
  a3 := Try.isAgg3
  z3 := Try.sizeOf3
  v3 := Try.zeroValue3
  t4 := Try.underlying4
  a4 := Try.isAgg4
  z4 := Try.sizeOf4
  v4 := Try.zeroValue4
  t5 := Try.underlying5
  a5 := Try.isAgg5
  z5 := Try.sizeOf5
  v5 := Try.zeroValue5
  t9 := Try.underlying9
  a9 := Try.isAgg9
  z9 := Try.sizeOf9
  v9 := Try.zeroValue9
  t26 := Try.underlying61
  a26 := Try.isAgg61
  z26 := Try.sizeOf61
  v26 := Try.zeroValue61
  t27 := Try.underlying61
  a27 := Try.isAgg61
  z27 := Try.sizeOf61
  v27 := Try.zeroValue61
  t29 := Try.underlying9
  a29 := Try.isAgg9
  z29 := Try.sizeOf9
  v29 := Try.zeroValue9
  t32 := Try.underlying99
  a32 := Try.isAgg99
  z32 := Try.sizeOf99
  v32 := Try.zeroValue99
  t35 := Try.underlying105
  a35 := Try.isAgg105
  z35 := Try.sizeOf105
  v35 := Try.zeroValue105
  t36 := Try.underlying106
  a36 := Try.isAgg106
  z36 := Try.sizeOf106
  v36 := Try.zeroValue106
  t41 := Try.underlying110
  a41 := Try.isAgg110
  z41 := Try.sizeOf110
  v41 := Try.zeroValue110
  t44 := Try.underlying113
  a44 := Try.isAgg113
  z44 := Try.sizeOf113
  v44 := Try.zeroValue113
  t46 := Try.underlying115
  a46 := Try.isAgg115
  z46 := Try.sizeOf115
  v46 := Try.zeroValue115
  t53 := Try.underlying121
  a53 := Try.isAgg121
  z53 := Try.sizeOf121
  v53 := Try.zeroValue121
  t57 := Try.underlying125
  a57 := Try.isAgg125
  z57 := Try.sizeOf125
  v57 := Try.zeroValue125
  t63 := Try.underlying129
  a63 := Try.isAgg129
  z63 := Try.sizeOf129
  v63 := Try.zeroValue129
  t64 := Try.underlying130
  a64 := Try.isAgg130
  z64 := Try.sizeOf130
  v64 := Try.zeroValue130 }
open Go.Sort Go.RowKit in
theorem Try.slices_Sort_string (blk off cap : Nat) (ss : List (List UInt8)) (w : World) (hH : Holds encStr w blk off ss.toArray) (hblk : blk < w.heap.size) (hsz : ss.length < 4611686018427387904) :
    Calls Try.prog 57 #[.slice (some ⟨blk, off, none⟩) ss.length cap] w fun e w' =>
      e = .returned (.tuple #[]) ∧ ∃ n os, w' = grow (putRow encStr (Sort.ahead w n) blk off (ss.mergeSort fun x y => decide (x ≤ y)).toArray) os := AnyM.slices_Sort_string Try.laysSlM6_f57 blk off cap ss w hH hblk hsz
open Go.RowKit Go.Sort in
/-- .. and plain. (LAID AT THE INSTANCE 'slices.Sort[[]string,string]': no walk: one application.) -/
theorem Try.slices_Sort_string_none (p : Option Addr) (cap : Nat) (w : World) :
    Calls Try.prog 57 #[.slice p 0 cap] w fun e w' => e = .returned (.tuple #[]) ∧ w' = w := AnyM.slices_Sort_string_none Try.laysSlM6_f57 p cap w
open Go.RowKit Go.Sort in
/-- .. and plain. (LAID AT THE INSTANCE 'slices.Sort[[]int,int]': no walk: one application.) -/
theorem Try.slices_Sort_int_none (p : Option Addr) (cap : Nat) (w : World) :
    Calls Try.prog 48 #[.slice p 0 cap] w fun e w' => e = .returned (.tuple #[]) ∧ w' = w := AnyM.slices_Sort_int_none Try.laysSlM5_f48 p cap w
end Go.Proofs
/- What the chapter's values read as. -/
namespace Go.Proofs.Ytikcmjamioopbaa.W
open Go.RowKit E M
set_option linter.unusedVariables false
set_option linter.unusedSimpArgs false
theorem w64 {n : Int} (h : -9223372036854775808 ≤ n) (h' : n ≤ 9223372036854775807) : IntKind.i64.wrap n = n := IntWalk.i64_in n ⟨h, h'⟩
theorem idx_map {α : Type} {f : α → List T} {l : List α} {k : Nat} (h : k < l.length) : (l.map f)[((k : Nat) : Int).toNat]? = some (f l[k]) := by simp [h]
abbrev iC (n : Int) : C := .a (.t (.v (.int .i64 n)))
abbrev i64T (n : Int) : List T := [.v (.int .i64 n)]
abbrev i64A (n : Int) : A := .t (.v (.int .i64 n))
abbrev eT (e : Int × Int) : List T := [.v (.int .i64 e.1), .v (.int .i64 e.2)]
abbrev eC (e : Int × Int) : C := .g [.t (.v (.int .i64 e.1)), .t (.v (.int .i64 e.2))]
abbrev grC (z : Nz) (L : List (Int × Int)) : C := .g [.t (.sl z 2 (L.map eT))]
abbrev iL (z : Nz) (l : List Int) : C := .a (.t (.sl z 1 (l.map i64T)))
abbrev i64L (l : List Int) : (∀ x, (i64T x).length = 1) := fun _ => rfl
theorem i64l : ∀ x, (i64T x).length = 1 := fun _ => rfl
theorem eTl : ∀ x, (eT x).length = 2 := fun _ => rfl
def ltI (a b : Int) : Bool := decide (a < b)
theorem ordI : Ord ltI := ⟨fun a => by simp [ltI], fun a b c => by simp [ltI]; omega, fun a b => by simp [ltI]; omega⟩
abbrev GE := List (Int × Int)
abbrev pr (a b : Int) : Value := .agg #[.int .i64 a, .int .i64 b]
theorem part0 (a b : Int) (w : World) : (part 3 #[.int .i64 a, .int .i64 b] (0 * 1)).run Try.prog w = .ok (.int .i64 a) w := by kernel_rfl
theorem part1 (a b : Int) (w : World) : (part 3 #[.int .i64 a, .int .i64 b] (1 * 1)).run Try.prog w = .ok (.int .i64 b) w := by kernel_rfl
theorem sz3 (w : World) : (sizeOf 3).run Try.prog w = .ok 1 w := by kernel_rfl
theorem eq70 (a b c d : Int) (w : World) : (Op.equal 70 (pr a b) (pr c d)).run Try.prog w = .ok (a == c && b == d) w := by
  have h3 : ∀ (x y : Int), (Op.equalIn 9999 3 (.int .i64 x) (.int .i64 y)).run Try.prog w = .ok (x == y) w := fun x y => run_equalIn_int w 9998 3 .i64 .i64 x y Try.underlying3
  have q0 := part0 a b w
  have q1 := part1 a b w
  have q2 := part0 c d w
  have q3 := part1 c d w
  show (Op.equalIn (9999 + 1) 70 (pr a b) (pr c d)).run Try.prog w = _
  rw [Op.equalIn]
  simp only [Sem.run_bind, run_underlying Try.underlying70, Result.andThen_ok, sz3]
  simp only [Std.Legacy.Range.forIn_eq_forIn_range', Std.Legacy.Range.size, Nat.sub_zero, Nat.add_sub_cancel, Nat.div_one, List.range'_succ, List.range'_zero, List.forIn_cons, List.forIn_nil, Sem.run_bind, q0, q1, q2, q3, h3, Result.andThen_ok]
  have r1 : (part 3 #[.int .i64 a, .int .i64 b] 1).run Try.prog w = .ok (.int .i64 b) w := q1
  have r3 : (part 3 #[.int .i64 c, .int .i64 d] 1).run Try.prog w = .ok (.int .i64 d) w := q3
  by_cases h1 : a = c
  · subst h1
    by_cases h2 : b = d
    · subst h2; simp [r1, r3, h3, Result.andThen]
    · have : (b == d) = false := by simpa using h2
      simp [r1, r3, h3, h2, this, Result.andThen]
  · have : (a == c) = false := by simpa using h1
    simp [h1, this, Result.andThen]
theorem prC {c : Ctx} {a b : Int} {v : Value} (h : RepX c (.c (eC (a, b))) v) : v = pr a b := by
  obtain ⟨us, rfl, h2⟩ := h
  obtain ⟨us⟩ := us
  match us, h2 with
  | [], h2 => have := h2.1; simp at this
  | [_], h2 => have := h2.1; simp at this
  | [u0, u1], h2 =>
    have e0 := h2.2 0 _ _ rfl rfl
    have e1 := h2.2 1 _ _ rfl rfl
    cases e0 with | t e0 => cases e1 with | t e1 =>
    cases e0; cases e1; rfl
  | _ :: _ :: _ :: _, h2 => have := h2.1; simp at this
/-- two edges are compared -/
theorem q_eqE {o : Oper} {s : S} {x y : Operand} {u : TypeId} {a b c d : Int} (ho : o.op = .binOp .eql 70 x y u) (hx : s.eval x = .c (eC (a, b))) (hy : s.eval y = .c (eC (c, d))) : QV Try.prog o s (bX (decide ((a, b) = (c, d)))) :=
  .of_same (fun _ => nolp) fun cx w act hm hrep => by
    have ha := hrep x (by rw [ho]; simp [Op.operands])
    have hb := hrep y (by rw [ho]; simp [Op.operands])
    rw [hx] at ha
    rw [hy] at hb
    have e1 := prC ha
    have e2 := prC hb
    have e3 : (a == c && b == d) = decide ((a, b) = (c, d)) := by
      by_cases h1 : a = c <;> by_cases h2 : b = d <;> simp [h1, h2]
    have hu : Try.prog.underlying 70 = some (.array 2 3) := Try.underlying70
    refine ⟨.bool (decide ((a, b) = (c, d))), ?_, tv_rep rfl⟩
    have hq : (Op.equalIn 10000 70 (pr a b) (pr c d)).run Try.prog w = .ok (a == c && b == d) w := eq70 a b c d w
    simp only [execOp, ho, e1, e2, Sem.run_bind, run_eqGuard_agg (P := Try.prog) w .eql 70 x y _ _ (by kernel_rfl), Result.andThen_ok, run_eql_struct, hq, e3]
    rfl
end Go.Proofs.Ytikcmjamioopbaa.W
