/- make of a slice; calls through a function value. Plain theorems, for any program. -/
import Derived.Test.YtojkjiakkcgfcaaE29
import Derived.Laws.MakeOwn
namespace Go.Proofs.Ytojkjiakkcgfcaa.E
open Go.RowKit
set_option linter.unusedVariables false
section
variable {P : Program} {all : Array Oper} {o : Oper} {s : S} {K : S → Prop} {rest : List Oper} {n d : Nat} {t : Nat → X} {L : Nat → Option AO} {H : Heap}
/-- the zero value of a type, as cells -/
def zcB (P : Program) (e : TypeId) (z : Value) : Prop := (P.info? e).bind (·.zero) = some z
theorem made_cells {z : Value} {m sz : Nat} (hz : z.cells.size = sz) (h0 : 0 < sz) : (madeCells z.cells (m * sz)).toList = (List.replicate m z.cells.toList).flatten := by
  apply List.ext_getElem?
  intro j
  have hl : (List.replicate m z.cells.toList).flatten.length = m * sz := by simp [hz]
  by_cases hj : j < m * sz
  · have hmod : j % sz < sz := Nat.mod_lt _ h0
    have hdiv : j / sz < m := (Nat.div_lt_iff_lt_mul h0).2 hj
    have e1 : (madeCells z.cells (m * sz)).toList[j]? = some (z.cells[j % sz]'(by omega)) := by
      simp [madeCells, hj, hz]
      rw [getElem!_pos _ _ (by omega)]
    have e2 : ∀ (m j : Nat), j < m * sz → (List.replicate m z.cells.toList).flatten[j]? = z.cells.toList[j % sz]? := by
      intro m
      induction m with
      | zero => intro j h; simp at h
      | succ m ih =>
        intro j h
        rw [List.replicate_succ, List.flatten_cons]
        by_cases hjs : j < sz
        · rw [List.getElem?_append_left (by simpa [hz] using hjs), Nat.mod_eq_of_lt hjs]
        · rw [List.getElem?_append_right (by simp [hz]; omega)]
          have hlen : z.cells.toList.length = sz := by simpa using hz
          rw [hlen, ih (j - sz) (by rw [Nat.add_mul] at h; omega)]
          rw [← Nat.mod_eq_sub_mod (by omega)]
    rw [e1, e2 m j hj]
    rw [List.getElem?_eq_getElem (by simpa [hz] using hmod)]
    simp
  · have h1 : (List.replicate m z.cells.toList).flatten[j]? = none := List.getElem?_eq_none (by rw [hl]; omega)
    have h2 : (madeCells z.cells (m * sz)).toList[j]? = none := List.getElem?_eq_none (by rw [Array.length_toList, size_madeCells]; omega)
    rw [h1, h2]
theorem OpW.make {tt e : TypeId} {x y : Operand} {k : IntKind} {m sz bytes : Nat} {z : Value} {zc : List A} (hg : o.guard = none) (ho : o.op = .makeSlice tt x y) (ty : elB P tt e sz bytes = true) (hz : zeroIs P e z) (h1 : z.cells.toList.all Value.oneCell' = true) (hzc : z.cells.toList.map litA = zc)
    (hx : S.eval ⟨n, t, L, H⟩ x = iX k (m : Int)) (hy : S.eval ⟨n, t, L, H⟩ y = iX k (m : Int)) (hb : m * bytes ≤ 140737488355328 ∧ m ≤ 9223372036854775807) (hdst : o.dst = some d) (hd : Nat.blt d n = true)
    (hk : ∀ k', H k' = none → K ⟨n, upd t d (.c (.a (.os k' 0 m sz))), L, upd H k' (some (.row e sz (List.replicate m zc).flatten))⟩) : OpW P all o K ⟨n, t, L, H⟩ := by
  intro c a w g
  unfold opRun
  rw [if_pos (by simp [Region.wanted, hg])]
  refine wp_to ?_
  obtain ⟨i, zz, g1, g2, g3, g4, g5, g6, g7⟩ := elB_get ty
  have hzz : z = zz := by unfold zeroIs at hz; rw [g2] at hz; simp at hz; rw [g6] at hz; injection hz with hz; exact hz.symm
  subst hzz
  have ha : a.eval x = .int k m := by have := g.eval x; rw [hx] at this; exact rep_tv this
  have hb' : a.eval y = .int k m := by have := g.eval y; rw [hy] at this; exact rep_tv this
  have hbt : (i.bytes : Int) * (m : Int) ≤ 281474976710656 := by
    have h : ((i.bytes * m : Nat) : Int) ≤ 281474976710656 := by rw [g5, Nat.mul_comm]; omega
    rwa [Int.natCast_mul] at h
  have hr := run_make (P := P) w tt e i z g1 g2 g6 k k m m (by omega) (Int.le_refl _) hbt (by omega)
  simp only [Int.toNat_natCast, g3] at hr
  have hrun : (execOp a.eval o).run P w = .ok (.value (.slice (some ⟨w.heap.size, 0, none⟩) m m)) (w.alloc (.cells (madeCells z.cells (m * sz)) e)) := by
    simp [execOp, ho, ha, hb', hr]
  have hmc : (madeCells z.cells (m * sz)).size = m * sz := by simp [madeCells]
  have hlist := made_cells (m := m) g7 (by omega)
  have hone : ∀ u ∈ (List.replicate m z.cells.toList).flatten, u.oneCell' = true := fun u hu => by
    obtain ⟨l, hl, hu⟩ := List.mem_flatten.1 hu
    have := (List.mem_replicate.1 hl).2
    subst this
    exact List.all_eq_true.1 h1 u hu
  have hcells : (List.replicate m zc).flatten = (List.replicate m z.cells.toList).flatten.map litA := by
    rw [← hzc, List.map_flatten, List.map_replicate]
  have mk := Mk.alloc (c := c) g.memOk (.cells (madeCells z.cells (m * sz)) e)
  obtain ⟨k', q1, q2, q3, q4⟩ := g.newE (x := .row e sz (List.replicate m zc).flatten) (b := w.heap.size) (n := m) mk (Nat.le_refl _) ⟨_, heap_new w _, hmc, by unfold maxLen; omega, by
      rw [hlist, hcells, List.length_map, List.take_length]
      exact lits _ (by rw [List.all_eq_true]; exact hone), fun q => by
      cases hz : c.μ w.heap.size q with
      | none => rfl
      | some u => have := World.block_lt_of_cell? w _ (g.conc.mem _ q u hz); simp at this⟩
  unfold Oper.wp
  rw [hrun]
  refine ⟨_, _, hk k' q1, ?_, q4⟩
  have := q3.put (some d) (x := .c (.a (.os k' 0 m sz))) (v := .slice (some ⟨w.heap.size, 0, none⟩) m m) (decide_eq_true (inb hd)) (by
    rcases Nat.eq_zero_or_pos m with h | h
    · subst h; exact .os0
    · exact .os (upd_same _ _ _) h) (fun _ h => by cases h)
  rw [hdst]; exact this
theorem SeqK.make {tt e : TypeId} {x y : Operand} {k : IntKind} {m sz bytes : Nat} {z : Value} {zc : List A} (hg : o.guard = none) (ho : o.op = .makeSlice tt x y) (ty : elB P tt e sz bytes = true) (hz : zeroIs P e z) (h1 : z.cells.toList.all Value.oneCell' = true) (hzc : z.cells.toList.map litA = zc)
    (hx : S.eval ⟨n, t, L, H⟩ x = iX k (m : Int)) (hy : S.eval ⟨n, t, L, H⟩ y = iX k (m : Int)) (hb : m * bytes ≤ 140737488355328 ∧ m ≤ 9223372036854775807) (hdst : o.dst = some d) (hd : Nat.blt d n = true)
    (hk : ∀ k', H k' = none → SeqK P all K rest ⟨n, upd t d (.c (.a (.os k' 0 m sz))), L, upd H k' (some (.row e sz (List.replicate m zc).flatten))⟩) : SeqK P all K (o :: rest) ⟨n, t, L, H⟩ := OpW.make hg ho ty hz h1 hzc hx hy hb hdst hd hk

/-! ### function values -/
def fnX : X → Option (FuncId × List A)
  | .c (.a (.fn f cs)) => some (f, cs)
  | .c (.a (.t (.v (.func (.func f) fs vs)))) => if fs.size = 0 ∧ vs.size = 0 then some (f, []) else none
  | _ => none
theorem fn_rep {c : Ctx} {x : X} {v : Value} {f : FuncId} {cs : List A} (h : RepX c x v) (hf : fnX x = some (f, cs)) : ∃ vs : Array Value, v = .func (.func f) #[] vs ∧ Reps (RepC c.μ c.β) (cs.map C.a) vs.toList := by
  unfold fnX at hf
  split at hf
  · cases hf
    have h : RepA c.μ c.β (.fn f cs) v := h
    cases h with
    | @fn _ _ vs u hv h9 =>
      refine ⟨vs, rfl, by rw [hv]; simp, fun i x v h1 h2 => ?_⟩
      rw [List.getElem?_map] at h1
      obtain ⟨y, hy, rfl⟩ := Option.map_eq_some_iff.1 h1
      have hi : i < cs.length := (List.getElem?_eq_some_iff.1 hy).1
      have : v = u i := by rw [hv, List.getElem?_map, List.getElem?_range hi] at h2; simpa using h2.symm
      subst this
      exact h9 i y hy
  · split at hf
    · rename_i fs vs hs
      cases hf
      have := rep_tv h
      subst this
      have e1 : fs = #[] := Array.eq_empty_of_size_eq_zero hs.1
      have e2 : vs = #[] := Array.eq_empty_of_size_eq_zero hs.2
      subst e1 e2
      exact ⟨#[], rfl, .nil⟩
    · cases hf
  · cases hf
theorem callV_wp {z : Operand} {f : FuncId} {cs : List A} {ys : Array Operand} {ts : Array TypeId} {args : List C} {Q : X → Heap → Prop} {c : Ctx} {a : Act} {w : World} (g : Sat c s a w) (ho : o.op = .call { callee := .value z, args := ys, argTypes := ts }) (hz : fnX (s.eval z) = some (f, cs)) (hf : fnB P f = true) (ha : argsX s ys.toList = some args) (h : Spec P f (args ++ cs.map C.a) s.H Q) (hl : ∀ x H', Q x H' → x.loc = none) (hd : inB o.dst s.n = true) :
    o.wp P a w (fun a' w' => ∃ x H' c', Q x H' ∧ Sat c' ((⟨s.n, s.t, s.L, H'⟩ : S).put o.dst x) a' w' ∧ Ext c s.own w c' ((⟨s.n, s.t, s.L, H'⟩ : S).put o.dst x).own w') (fun _ _ _ => False) := by
  have hr : Reps (RepC c.μ c.β) args (ys.map a.eval).toList := by
    have := args_rep (c := c) (f := a.eval) ha fun y _ => g.eval y
    simpa using this
  obtain ⟨vs, hv, hvs⟩ := fn_rep (g.eval z) hz
  have hc : Conc c (ownH s.H) w := g.conc.sub fun i x h => by cases i with
    | e k => exact h
    | l d => cases h
  have hcall := h c w (ys.map a.eval ++ vs) hc (by rw [Array.toList_append]; exact hr.append hvs)
  have hrun : (execOp a.eval o).run P w = .ok (.enter f (ys.map a.eval ++ vs)) w := by
    simp [execOp, ho, resolve, hv, Deferred.ofValue, invoke, enter_run hf]
  unfold Oper.wp
  rw [hrun, Oper.upon_enter]
  refine hcall.mono ?_
  rintro e w' ⟨v, y, H', c', rfl, hq, hrx, hc', hx'⟩
  obtain ⟨g', x'⟩ := g.call hc' hx'
  exact ⟨y, H', _, hq, g'.put o.dst hd (hrx.relam (hl y H' hq)) (fun d e => by rw [hl y H' hq] at e; cases e), by rw [own_put]; exact x'⟩
theorem OpW.callV {z : Operand} {f : FuncId} {cs : List A} {ys : Array Operand} {ts : Array TypeId} {args : List C} {Q : X → Heap → Prop} (ho : o.op = .call { callee := .value z, args := ys, argTypes := ts }) (hg : o.guard = none) (hdst : o.dst = some d) (hd : Nat.blt d n = true) (hz : fnX (S.eval ⟨n, t, L, H⟩ z) = some (f, cs)) (hf : fnB P f = true) (ha : argsX ⟨n, t, L, H⟩ ys.toList = some args) (h : Spec P f (args ++ cs.map C.a) H Q) (hl : ∀ x H', Q x H' → x.loc = none)
    (k : ∀ x H', Q x H' → K ⟨n, upd t d x, L, H'⟩) : OpW P all o K ⟨n, t, L, H⟩ := fun c a w g => by
  unfold opRun
  rw [if_pos (by simp [Region.wanted, hg])]
  refine wp_weak (callV_wp g ho hz hf ha h hl (inb' hdst hd)) ?_
  rintro a' w' ⟨x, H', c', hq, g', x'⟩
  rw [hdst] at g' x'
  exact ⟨_, c', k x H' hq, g', x'⟩
theorem SeqK.callV {z : Operand} {f : FuncId} {cs : List A} {ys : Array Operand} {ts : Array TypeId} {args : List C} {Q : X → Heap → Prop} (ho : o.op = .call { callee := .value z, args := ys, argTypes := ts }) (hg : o.guard = none) (hdst : o.dst = some d) (hd : Nat.blt d n = true) (hz : fnX (S.eval ⟨n, t, L, H⟩ z) = some (f, cs)) (hf : fnB P f = true) (ha : argsX ⟨n, t, L, H⟩ ys.toList = some args) (h : Spec P f (args ++ cs.map C.a) H Q) (hl : ∀ x H', Q x H' → x.loc = none)
    (k : ∀ x H', Q x H' → SeqK P all K rest ⟨n, upd t d x, L, H'⟩) : SeqK P all K (o :: rest) ⟨n, t, L, H⟩ := SeqK.any (OpW.callV ho hg hdst hd hz hf ha h hl k)
end
end Go.Proofs.Ytojkjiakkcgfcaa.E
