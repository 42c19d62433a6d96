/- Steps of the proofs: ends, cuts, tests. Plain theorems, for any program. -/
import Derived.Test.YtojkjiakkcgfcaaE9
import Derived.RangeFuncRecord
namespace Go.Proofs.Ytojkjiakkcgfcaa.E
open Go.RowKit
set_option linter.unusedVariables false

/-! ### functions: what they begin with, and what they hand back -/
/-- a result that lies in a variable -/
def CellR (P : Program) (s : S) (b : Nat) (t : TypeId) (x : C) : Prop :=
  ∃ agg n off cells, tyB P t agg n = true ∧ off + n ≤ cells.length ∧ mkC agg ((cells.drop off).take n) = x ∧ ((∃ d, s.t b = .lp d off ∧ s.L d = some (.box cells)) ∨ (∃ k, s.t b = .c (.a (.bp k off)) ∧ s.H k = some (.box cells)))
def Res (P : Program) (s : S) : List ResultVar → List C → Prop
  | [], l => l = []
  | .tmp i :: r, l => ∃ x l', s.t i = .c x ∧ l = x :: l' ∧ Res P s r l'
  | .cell b t :: r, l => ∃ x l', CellR P s b t x ∧ l = x :: l' ∧ Res P s r l'
section
variable {P : Program} {s : S} {rs : List ResultVar} {l : List C} {i d k off n : Nat} {x : C} {cells : List A} {tt : TypeId} {agg : Bool}
theorem Res.nil : Res P s [] [] := rfl
theorem Res.tmp (h : s.t i = .c x) (r : Res P s rs l) : Res P s (.tmp i :: rs) (x :: l) := ⟨x, l, h, rfl, r⟩
theorem Res.cellL (h : s.t i = .lp d off) (hL : s.L d = some (.box cells)) (ty : tyB P tt agg n = true) (hr : mkC agg ((cells.drop off).take n) = x) (hn : Nat.ble (off + n) cells.length = true) (r : Res P s rs l) : Res P s (.cell i tt :: rs) (x :: l) :=
  ⟨x, l, ⟨agg, n, off, cells, ty, Nat.le_of_ble_eq_true hn, hr, .inl ⟨d, h, hL⟩⟩, rfl, r⟩
theorem Res.cellH (h : s.t i = .c (.a (.bp k off))) (hH : s.H k = some (.box cells)) (ty : tyB P tt agg n = true) (hr : mkC agg ((cells.drop off).take n) = x) (hn : Nat.ble (off + n) cells.length = true) (r : Res P s rs l) : Res P s (.cell i tt :: rs) (x :: l) :=
  ⟨x, l, ⟨agg, n, off, cells, ty, Nat.le_of_ble_eq_true hn, hr, .inr ⟨k, h, hH⟩⟩, rfl, r⟩
end
def resC : List C → X
  | [x] => .c x
  | l => .tup l
/-- a slice handed back is common memory, whoever may still append to it -/
def aw : A → A
  | .ts _ z sz es => .t (.sl z sz es)
  | x => x
def cw : C → C
  | .a x => .a (aw x)
  | .g l => .g (l.map aw)
theorem aw_rep {μ : Mem} {β : Pos} {x : A} {v : Value} (h : RepA μ β x v) : RepA μ β (aw x) v := by
  cases h with
  | ts0 => exact .t (.nil (by simp))
  | tsE => exact .t (.emp (by simp))
  | ts hk hne hn h => cases h with
    | sl u ne hn hc len mem rep => exact .t (.sl u ne hn hc len mem rep)
    | emp => exact absurd rfl hne
  | t h => exact .t h
  | bp h => exact .bp h
  | mp h => exact .mp h
  | os0 => exact .os0
  | os h h0 => exact .os h h0
  | osub h h0 => exact .osub h h0
  | yl h => exact .yl h
  | fn u hv h => exact .fn u hv h
theorem Reps.map {α : Type} {R R' : α → Value → Prop} {f : α → α} (hf : ∀ x v, R x v → R' (f x) v) {l : List α} {cs : List Value} (h : Reps R l cs) : Reps R' (l.map f) cs := by
  refine ⟨by simpa using h.1, fun i x v h1 h2 => ?_⟩
  rw [List.getElem?_map] at h1
  cases h3 : l[i]? with
  | none => rw [h3] at h1; cases h1
  | some y => rw [h3] at h1; injection h1 with h1; subst h1; exact hf _ _ (h.2 i y v h3 h2)
theorem cw_rep {μ : Mem} {β : Pos} {x : C} {v : Value} (h : RepC μ β x v) : RepC μ β (cw x) v := by
  cases x with
  | a x => exact aw_rep h
  | g l => obtain ⟨us, h1, h2⟩ := h; exact ⟨us, h1, h2.map fun _ _ h => aw_rep h⟩
def resF (tmps : Array Value) : ResultVar → Sem Value
  | .tmp t => pure (tmps.getD t undef)
  | .cell b t => do loadVar t (← asAddr (tmps.getD b undef))
theorem results_eq (fn : Func) (tmps : Array Value) : results fn tmps = (do
    let vs ← fn.results.mapM (resF tmps)
    pure (if h : vs.size = 1 then vs[0] else .tuple vs)) := rfl
theorem cellR_run {P : Program} {c : Ctx} {s : S} {a : Act} {w : World} (g : Sat c s a w) {b : Nat} {t : TypeId} {x : C} (h : CellR P s b t x) : ∃ v, (resF a.tmps (.cell b t)).run P w = .ok v w ∧ RepC c.μ c.β x v := by
  obtain ⟨agg, n, off, cells, ty, hn, hr, h⟩ := h
  have key : ∀ blk m, c.μ = c.μ → a.tmps.getD b undef = .pointer (some ⟨blk, off, none⟩) → ORep c w (.box cells) blk m → ∃ v, (resF a.tmps (.cell b t)).run P w = .ok v w ∧ RepC c.μ c.β x v := by
    intro blk m _ hv ho
    obtain ⟨cs, h1, h2, h3⟩ := (CellsAt.box ho).range off n hn
    obtain ⟨v, h4, h5⟩ := load_run ty h3 h1 h2
    refine ⟨v, ?_, by rw [← hr]; exact h5⟩
    simp only [resF, hv]
    simpa [Instr.loadAt, Instr.sureAddr, asAddr] using h4
  rcases h with ⟨d, h1, h2⟩ | ⟨k, h1, h2⟩
  · have hv := g.tmps b
    rw [h1] at hv
    obtain ⟨bb, nn, h3, h4⟩ := g.conc.obj (.l d) (.box cells) h2 (by simp [AO.empty])
    injection h3 with h3
    exact key _ _ rfl hv (by rw [h3]; exact h4)
  · have hv := g.tmps b
    rw [h1] at hv
    obtain ⟨bb, nn, h3, h4⟩ := g.conc.obj (.e k) (.box cells) h2 (by simp [AO.empty])
    have h3 : c.β k = some (bb, nn) := h3
    generalize hvv : a.tmps.getD b undef = v at hv
    cases hv with
    | bp h => rw [h3] at h; injection h with h; injection h with e1 e2; subst e1; exact key _ _ rfl hvv h4
theorem results_run {P : Program} {fn : Func} {c : Ctx} {s : S} {a : Act} {w : World} (g : Sat c s a w) {l : List C} (h : Res P s fn.results.toList l) :
    ∃ v, (results fn a.tmps).run P w = .ok v w ∧ RepX c (resC l) v ∧ RepX c (resC (l.map cw)) v := by
  have key : ∀ (rs : List ResultVar) (l : List C), Res P s rs l → ∃ vs : List Value, (rs.mapM (resF a.tmps)).run P w = .ok vs w ∧ Reps (RepC c.μ c.β) l vs := by
    intro rs
    induction rs with
    | nil => intro l h; cases h; exact ⟨[], by simp, .nil⟩
    | cons r rs ih =>
      intro l h
      have : ∃ x l' v, l = x :: l' ∧ Res P s rs l' ∧ (resF a.tmps r).run P w = .ok v w ∧ RepC c.μ c.β x v := by
        cases r with
        | tmp i =>
          obtain ⟨x, l', h1, h2, h3⟩ := h
          exact ⟨x, l', a.tmps.getD i undef, h2, h3, by simp [resF], by have := g.tmps i; rw [h1] at this; exact this⟩
        | cell b t =>
          obtain ⟨x, l', h1, h2, h3⟩ := h
          obtain ⟨v, h4, h5⟩ := cellR_run g h1
          exact ⟨x, l', v, h2, h3, h4, h5⟩
      obtain ⟨x, l', v, rfl, h1, h2, h3⟩ := this
      obtain ⟨vs, h4, h5⟩ := ih l' h1
      exact ⟨v :: vs, by rw [List.mapM_cons, Sem.run_bind, h2]; simp [Result.andThen, h4], .cons h3 h5⟩
  obtain ⟨vs, h2, h3⟩ := key _ _ h
  have hrun : (fn.results.mapM (resF a.tmps)).run P w = .ok vs.toArray w := by
    rw [Array.mapM_eq_mapM_toList]
    simp [h2]
  rw [results_eq, Sem.run_bind, hrun]
  by_cases h1 : vs.length = 1
  · obtain ⟨v, rfl⟩ : ∃ v, vs = [v] := by
      match vs, h1 with
      | [v], _ => exact ⟨v, rfl⟩
    obtain ⟨x, rfl⟩ : ∃ x, l = [x] := by
      match l, h3.1 with
      | [x], _ => exact ⟨x, rfl⟩
    exact ⟨v, by simp [Result.andThen], h3.2 0 x v rfl rfl, cw_rep (h3.2 0 x v rfl rfl)⟩
  · have e : ∀ l' : List C, l'.length = vs.length → resC l' = .tup l' := fun l' h => by
      match l', h with
      | [], _ => rfl
      | [y], h => exact absurd h.symm h1
      | _ :: _ :: _, _ => rfl
    refine ⟨.tuple vs.toArray, by simp [Result.andThen, h1], ?_, ?_⟩
    · rw [e l h3.1]; exact ⟨vs.toArray, rfl, by simpa using h3⟩
    · rw [e _ (by simpa using h3.1)]; exact ⟨vs.toArray, rfl, by simpa using h3.map fun _ _ h => cw_rep h⟩
/-- from the body to the function: the slots are the arguments, then nothing -/
def start (args : List C) (n : Nat) (H : Heap) : S :=
  { n := args.length + (n - args.length), t := fun i => match args[i]? with | some x => .c x | none => .any, L := fun _ => none, H := H }
/-- what stands at a function's end -/
def Fin (P : Program) (fn : Func) (Q : X → Heap → Prop) : Exit → S → Prop
  | .normal, s | .ret, s => ∃ l x H', Res P s fn.results.toList l ∧ (x = resC l ∨ x = resC (l.map cw)) ∧ (∀ k o, H' k = some o → s.H k = some o) ∧ Q x H'
  | _, _ => False
theorem own_start (args : List C) (n : Nat) (H : Heap) : (start args n H).own = ownH H := by
  funext i; cases i <;> rfl
theorem Conc.rebase {c : Ctx} {own : Own} {w : World} {k : Nat} (h : Conc c own w) : Conc { c with base := k } own w := by
  refine ⟨h.mem, fun i x hi he => ?_, fun i j x y b n m hi hj hx hy h1 h2 => h.inj i j x y b n m hi hj hx hy (by cases i <;> exact h1) (by cases j <;> exact h2), h.fin⟩
  obtain ⟨b, n, h1, h2⟩ := h.obj i x hi he
  exact ⟨b, n, by cases i <;> exact h1, h2.keep rfl (fun _ _ _ h => h) (fun _ _ h => h) (fun _ _ h => h)⟩
theorem Ext.rebase {c c' : Ctx} {own own' : Own} {w w' : World} {k : Nat} (h : Ext { c with base := k } own w c' own' w') : Ext c own w { c' with base := c.base } own' w' :=
  ⟨h.os, h.tape, h.output, h.size, fun b hb hn => h.blk b hb fun i x n h1 h2 h3 => hn i x n h1 h2 (by cases i <;> exact h3), h.mem, fun b o u hu => by
    rcases h.new b o u hu with h1 | h1 | ⟨i, x, n, h1, h2, h3⟩
    · exact .inl h1
    · exact .inr (.inl h1)
    · exact .inr (.inr ⟨i, x, n, h1, h2, by cases i <;> exact h3⟩), h.ext, fun i x b n h1 h2 h3 => by
    rcases h.own i x b n h1 h2 (by cases i <;> exact h3) with h4 | ⟨j, y, m, h4, h5, h6⟩
    · exact .inl h4
    · exact .inr ⟨j, y, m, h4, h5, by cases j <;> exact h6⟩, rfl⟩
theorem RepX.rebase {c : Ctx} {x : X} {v : Value} {k : Nat} (h : RepX c x v) : RepX { c with base := k } x v := h.mono (fun _ _ _ h => h) (fun _ _ h => h) rfl
/-- a mark is taken -/
theorem Sat.take {c : Ctx} {s : S} {a : Act} {w : World} {D : Nat} (g : Sat c s a w) (hD : w.heap[D]? = some (Obj.deferred (some []))) {ds : List Deferred} (hd : DefOk c.base ds (w.putObj D (.deferred none))) : Sat c s { a with defers := ds } (w.putObj D (.deferred none)) := by
  refine ⟨⟨fun b o u h => ?_, fun i x hi hx => ?_, g.conc.inj, g.conc.fin⟩, g.size, g.tmps, hd, g.wf⟩
  · have h1 := g.conc.mem b o u h
    have hne : b ≠ D := fun e => by subst e; simp only [World.cell?, hD] at h1; cases h1
    unfold World.cell? at h1 ⊢
    rw [World.putObj_heap_other hne]; exact h1
  · obtain ⟨b, n, h1, h2⟩ := g.conc.obj i x hi hx
    exact ⟨b, n, h1, h2.keep (World.putObj_heap_other fun e => by subst e; exact h2.nd hD) (fun _ _ _ h => h) (fun _ _ h => h) (fun _ _ h => h)⟩
theorem leave_marks {P : Program} {fn : Func} {R : Ending → World → Prop} {c c' : Ctx} {own : Own} {w0 : World} {s : S} (hbase : c'.base = w0.heap.size) : ∀ {a : Act} {w : World}, Sat c' s a w → Ext c own w0 c' s.own w →
    (∀ (w' : World) (a' : Act), a'.tmps = a.tmps → Sat c' s a' w' → Ext c own w0 c' s.own w' → ∃ v, (results fn a'.tmps).run P w' = .ok v w' ∧ R (.returned v) w') → LeavesInM Fence.wide 0 P fn a.tmps R a.defers .returning w := by
  intro a w g x h
  obtain ⟨ds, hds⟩ : ∃ ds, ds = a.defers := ⟨_, rfl⟩
  rw [← hds]
  induction ds generalizing a w with
  | nil => obtain ⟨v, h1, h2⟩ := h w a rfl g x; exact ⟨v, h1, h2⟩
  | cons d ds ih =>
    obtain ⟨Ds, h1, h2, h3⟩ := g.defers
    rw [← hds] at h1
    cases Ds with
    | nil => cases h1
    | cons D Ds =>
      injection h1 with e1 e2
      obtain ⟨h4, h5⟩ := h3 D (by simp)
      obtain ⟨h6, h7⟩ := List.nodup_cons.1 h2
      have hd' : DefOk c'.base ds (w.putObj D (.deferred none)) := ⟨Ds, e2, h7, fun D' hD' => ⟨(h3 D' (by simp [hD'])).1, by
        rw [World.putObj_heap_other (show D' ≠ D from fun e => h6 (by rw [← e]; exact hD'))]; exact (h3 D' (by simp [hD'])).2⟩⟩
      refine ⟨by simp, .inl ⟨D, w.putObj D (.deferred none), by rw [e1]; rfl, run_takeDeferred h5, ?_⟩⟩
      have x' : Ext c own w0 c' s.own (w.putObj D (.deferred none)) := ⟨x.os, x.tape, x.output, by rw [World.putObj_size]; exact x.size, fun b hb hn => (World.putObj_heap_other (by omega)).trans (x.blk b hb hn), x.mem, x.new, x.ext, x.own, x.base⟩
      exact ih (a := { a with defers := ds }) (g.take h5 hd') x' (fun w' a' ht g' x' => h w' a' ht g' x') rfl
theorem Spec.enter {P : Program} {f : FuncId} {fn : Func} {cd : Code} {args : List C} {H : Heap} {Q : X → Heap → Prop} (hf : P.funcs[f]? = some fn) (hb : fn.body = some cd)
    (h : AW P cd (Fin P fn Q) (start args fn.ntmps H)) : Spec P f args H Q := by
  intro c0 w vs hc0 hr
  obtain ⟨c, hcd⟩ : ∃ c : Ctx, c = { c0 with base := w.heap.size } := ⟨_, rfl⟩
  have hc : Conc c (ownH H) w := by subst hcd; exact hc0.rebase
  have hr : Reps (RepC c.μ c.β) args vs.toList := by subst hcd; exact hr
  refine (callsIn_wide (n := 0)).1 (callsIn_of_wp_marks hf hb trivial ?_)
  have hlen : args.length = vs.size := by rw [hr.1, Array.length_toList]
  have g : Sat c (start args fn.ntmps H) { tmps := vs ++ Array.replicate (fn.ntmps - vs.size) undef, defers := [] } w := by
    refine ⟨by rw [own_start]; exact hc, by simp [start, hlen], fun i => ?_, .nil, fun i d hx => ?_⟩
    · simp only [start]
      cases hi : args[i]? with
      | none => trivial
      | some y =>
        obtain ⟨v, hv, hrep⟩ := hr.get hi
        have : (vs ++ Array.replicate (fn.ntmps - vs.size) undef)[i]? = some v := by
          have h1 : vs[i]? = some v := by simpa using hv
          have h2 := (Array.getElem?_eq_some_iff.1 h1).1
          rw [Array.getElem?_append_left h2]; exact h1
        simp only [Array.getD_eq_getD_getElem?, this, Option.getD_some]
        exact hrep
    · simp only [start] at hx
      split at hx <;> cases hx
  refine wpIn_mono ((wpIn_wide (n := 0)).2 (h c _ w g)) ?_
  rintro e a1 w1 ⟨s', c', q, g1, x1⟩
  rw [own_start] at x1
  have hbase : c'.base = w.heap.size := by rw [x1.base, hcd]
  have fin : ∀ {e}, (e = Exit.normal ∨ e = Exit.ret) → Fin P fn Q e s' → LeavesInM Fence.wide 0 P fn a1.tmps (fun e w' => ∃ v x H' c', e = .returned v ∧ Q x H' ∧ RepX c' x v ∧ Conc c' (ownH H') w' ∧ Ext c0 (ownH H) w c' (ownH H') w') a1.defers .returning w1 := by
    intro e he q
    refine leave_marks hbase g1 x1 fun w' a' ht g' x' => ?_
    have q : ∃ l x H', Res P s' fn.results.toList l ∧ (x = resC l ∨ x = resC (l.map cw)) ∧ (∀ k o, H' k = some o → s'.H k = some o) ∧ Q x H' := by
      rcases he with rfl | rfl <;> exact q
    obtain ⟨l, x, H', h1, hx, h2, h3⟩ := q
    obtain ⟨v, h4, h5, h6⟩ := results_run (P := P) g' h1
    have h5 : RepX c' x v := by rcases hx with rfl | rfl <;> assumption
    have hs : ∀ i x, ownH H' i = some x → s'.own i = some x := by
      intro i x hi
      cases i with
      | e k => exact h2 k x hi
      | l d => cases hi
    have hE := x'.sub hs
    exact ⟨v, h4, v, x, H', { c' with base := c0.base }, rfl, h3, h5.rebase, (g'.conc.sub hs).rebase, by subst hcd; exact hE.rebase⟩
  cases e with
  | normal => exact fin (.inl rfl) q
  | ret => exact fin (.inr rfl) q
  | _ => exact q.elim
section
variable {P : Program} {all : Array Oper} {o : Oper} {s s' : S} {K : S → Prop} {Q : Exit → S → Prop} {rest : List Oper} {p : Nat} {fp : List Fp} {R W : List Loc}
theorem eth_e {K : S → Prop} {id : Nat} (h : Q (.exit id) s) : Eth K Q (.exit id) s := h
theorem exit_here {id : Nat} (h : Q .normal s) : EBlock id Q (.exit id) s := by simp [EBlock, h]
theorem exit_pass {id id' : Nat} (h : Q (.exit id) s) (hn : Nat.beq id id' = false) : EBlock id' Q (.exit id) s := by
  have : id ≠ id' := fun e => by subst e; simp at hn
  simp [EBlock, this, h]
theorem fin_x {fn : Func} {Q : X → Heap → Prop} {l : List C} {x : X} (H' : Heap) (h : Res P s fn.results.toList l) (hx : resC l = x) (hH : ∀ k o, H' k = some o → s.H k = some o) (q : Q x H') : Fin P fn Q .ret s := ⟨l, x, H', h, .inl hx.symm, hH, q⟩
theorem fin_xN {fn : Func} {Q : X → Heap → Prop} {l : List C} {x : X} (H' : Heap) (h : Res P s fn.results.toList l) (hx : resC l = x) (hH : ∀ k o, H' k = some o → s.H k = some o) (q : Q x H') : Fin P fn Q .normal s := ⟨l, x, H', h, .inl hx.symm, hH, q⟩
theorem fin_w {fn : Func} {Q : X → Heap → Prop} {l : List C} {x : X} (H' : Heap) (h : Res P s fn.results.toList l) (hx : resC (l.map cw) = x) (hH : ∀ k o, H' k = some o → s.H k = some o) (q : Q x H') : Fin P fn Q .ret s := ⟨l, x, H', h, .inr hx.symm, hH, q⟩
theorem fin_wN {fn : Func} {Q : X → Heap → Prop} {l : List C} {x : X} (H' : Heap) (h : Res P s fn.results.toList l) (hx : resC (l.map cw) = x) (hH : ∀ k o, H' k = some o → s.H k = some o) (q : Q x H') : Fin P fn Q .normal s := ⟨l, x, H', h, .inr hx.symm, hH, q⟩
theorem SeqK.nil (h : K s) : SeqK P all K [] s := h
theorem SeqK.any (h : OpW P all o (SeqK P all K rest) s) : SeqK P all K (o :: rest) s := h
/-- a test that has been decided -/
theorem SeqK.stepD {d : Option Nat} {q : Prop} [Decidable q] (h : LOp P all o R W s (s.put d (bX (decide q)))) (ht : q → SeqK P all K rest (s.put d (bX true))) (he : ¬ q → SeqK P all K rest (s.put d (bX false))) : SeqK P all K (o :: rest) s := by
  by_cases hq : q
  · rw [decide_eq_true hq] at h; exact .step h (ht hq)
  · rw [decide_eq_false hq] at h; exact .step h (he hq)
theorem SeqK.stepB {d : Option Nat} {b : Bool} (h : LOp P all o R W s (s.put d (bX b))) (ht : b = true → SeqK P all K rest (s.put d (bX true))) (he : b = false → SeqK P all K rest (s.put d (bX false))) : SeqK P all K (o :: rest) s := by
  cases b
  · exact .step h (he rfl)
  · exact .step h (ht rfl)
theorem LexK.consD {d : Option Nat} {q : Prop} [Decidable q] (h : LOp P all o R W s (s.put d (bX (decide q)))) (ht : q → LexK P all K rest (s.put d (bX true)) p (fp ++ [(R, W)])) (he : ¬ q → LexK P all K rest (s.put d (bX false)) p (fp ++ [(R, W)])) : LexK P all K (o :: rest) s p fp := by
  by_cases hq : q
  · rw [decide_eq_true hq] at h; exact .cons h (ht hq)
  · rw [decide_eq_false hq] at h; exact .cons h (he hq)
theorem LexK.consB {d : Option Nat} {b : Bool} (h : LOp P all o R W s (s.put d (bX b))) (ht : b = true → LexK P all K rest (s.put d (bX true)) p (fp ++ [(R, W)])) (he : b = false → LexK P all K rest (s.put d (bX false)) p (fp ++ [(R, W)])) : LexK P all K (o :: rest) s p fp := by
  cases b
  · exact .cons h (he rfl)
  · exact .cons h (ht rfl)
theorem AW.condT {y : Operand} {t e : Code} (hy : s.eval y = bX true) (ht : AW P t Q s) : AW P (.cond y t e) Q s := AW.cond true hy (fun _ => ht) (fun h => by cases h)
theorem AW.condF {y : Operand} {t e : Code} (hy : s.eval y = bX false) (he : AW P e Q s) : AW P (.cond y t e) Q s := AW.cond false hy (fun h => by cases h) (fun _ => he)
end

/-! ### steps on a state that is written out -/
section
variable {P : Program} {all : Array Oper} {o : Oper} {K : S → Prop} {rest : List Oper} {p : Nat} {fp : List Fp} {R W : List Loc} {n d : Nat} {t : Nat → X} {L : Nat → Option AO} {H : Heap} {x : X}
theorem q_mvC {s : S} {y : Operand} {z : C} (ho : o.op = .move y) (hy : s.eval y = .c z) : QV P o s (.c z) := hy ▸ q_move ho
theorem q_mvL {s : S} {y : Operand} {d off : Nat} (ho : o.op = .move y) (hy : s.eval y = .lp d off) : QV P o s (.lp d off) := hy ▸ q_move ho
theorem q_mvP {s : S} {y : Operand} {l : List T} (ho : o.op = .move y) (hy : s.eval y = .pc l) : QV P o s (.pc l) := hy ▸ q_move ho
theorem q_mvT {s : S} {y : Operand} {l : List C} (ho : o.op = .move y) (hy : s.eval y = .tup l) : QV P o s (.tup l) := hy ▸ q_move ho
theorem q_mvS {s : S} {y : Operand} {d sz : Nat} {z : Nz} {es : List (List T)} (ho : o.op = .move y) (hy : s.eval y = .lts d z sz es) : QV P o s (.lts d z sz es) := hy ▸ q_move ho
theorem q_asC {s : S} {y : Operand} {z : C} (ho : o.op = .assign y) (hy : s.eval y = .c z) : QV P o s (.c z) := hy ▸ q_assign ho
theorem q_asL {s : S} {y : Operand} {d off : Nat} (ho : o.op = .assign y) (hy : s.eval y = .lp d off) : QV P o s (.lp d off) := hy ▸ q_assign ho
theorem q_asS {s : S} {y : Operand} {d sz : Nat} {z : Nz} {es : List (List T)} (ho : o.op = .assign y) (hy : s.eval y = .lts d z sz es) : QV P o s (.lts d z sz es) := hy ▸ q_assign ho
theorem q_pkT {s : S} {q y w : Operand} {z : C} (ho : o.op = .pick q y w) (hq : s.eval q = bX true) (hy : s.eval y = .c z) : QV P o s (.c z) := hy ▸ q_pick true ho hq
theorem q_pkF {s : S} {q y w : Operand} {z : C} (ho : o.op = .pick q y w) (hq : s.eval q = bX false) (hy : s.eval w = .c z) : QV P o s (.c z) := hy ▸ q_pick false ho hq
theorem inb {d n : Nat} (h : Nat.blt d n = true) : d < n := Nat.le_of_ble_eq_true h
theorem inb' {d n : Nat} {o : Oper} (hdst : o.dst = some d) (hd : Nat.blt d n = true) : inB o.dst n = true := by rw [hdst]; simpa [inB] using inb hd
theorem SeqK.q (h : QV P o ⟨n, t, L, H⟩ x) (hg : o.guard = none) (hdst : o.dst = some d) (hd : Nat.blt d n = true) (k : SeqK P all K rest ⟨n, upd t d x, L, H⟩) : SeqK P all K (o :: rest) ⟨n, t, L, H⟩ :=
  .step (.q h hg (inb' hdst hd)) (by rw [hdst]; exact k)
theorem LexK.q (h : QV P o ⟨n, t, L, H⟩ x) (hg : o.guard = none) (hdst : o.dst = some d) (hd : Nat.blt d n = true) (k : LexK P all K rest ⟨n, upd t d x, L, H⟩ p (fp ++ [(lookT all o, dstT o)])) : LexK P all K (o :: rest) ⟨n, t, L, H⟩ p fp :=
  .cons (.q h hg (inb' hdst hd)) (by rw [hdst]; exact k)
theorem SeqK.on {j i : Nat} {b : Bool} (h : QV P o ⟨n, t, L, H⟩ x) (hg : o.guard = some (j, b)) (hj : (all[j]?).bind (·.dst) = some i) (hb : t i = tv (.bool b)) (hdst : o.dst = some d) (hd : Nat.blt d n = true) (k : SeqK P all K rest ⟨n, upd t d x, L, H⟩) : SeqK P all K (o :: rest) ⟨n, t, L, H⟩ :=
  .step (.on h hg hj hb (inb' hdst hd)) (by rw [hdst]; exact k)
theorem LexK.on {j i : Nat} {b : Bool} (h : QV P o ⟨n, t, L, H⟩ x) (hg : o.guard = some (j, b)) (hj : (all[j]?).bind (·.dst) = some i) (hb : t i = tv (.bool b)) (hdst : o.dst = some d) (hd : Nat.blt d n = true) (k : LexK P all K rest ⟨n, upd t d x, L, H⟩ p (fp ++ [(lookT all o, dstT o)])) : LexK P all K (o :: rest) ⟨n, t, L, H⟩ p fp :=
  .cons (.on h hg hj hb (inb' hdst hd)) (by rw [hdst]; exact k)
theorem SeqK.off {j i : Nat} {b b' : Bool} (hg : o.guard = some (j, b)) (hj : (all[j]?).bind (·.dst) = some i) (hb : t i = tv (.bool b')) (hne : (b' == b) = false) (hdst : o.dst = some d) (hd : Nat.blt d n = true) (k : SeqK P all K rest ⟨n, upd t d (.tup []), L, H⟩) : SeqK P all K (o :: rest) ⟨n, t, L, H⟩ :=
  .step (.off hg hj hb (fun e => by subst e; simp at hne) (inb' hdst hd)) (by rw [hdst]; exact k)
theorem LexK.off {j i : Nat} {b b' : Bool} (hg : o.guard = some (j, b)) (hj : (all[j]?).bind (·.dst) = some i) (hb : t i = tv (.bool b')) (hne : (b' == b) = false) (hdst : o.dst = some d) (hd : Nat.blt d n = true) (k : LexK P all K rest ⟨n, upd t d (.tup []), L, H⟩ p (fp ++ [(lookT all o, dstT o)])) : LexK P all K (o :: rest) ⟨n, t, L, H⟩ p fp :=
  .cons (.off hg hj hb (fun e => by subst e; simp at hne) (inb' hdst hd)) (by rw [hdst]; exact k)
theorem SeqK.offU {j i : Nat} {b : Bool} (hg : o.guard = some (j, b)) (hj : (all[j]?).bind (·.dst) = some i) (hb : t i = .tup []) (hdst : o.dst = some d) (hd : Nat.blt d n = true) (k : SeqK P all K rest ⟨n, upd t d (.tup []), L, H⟩) : SeqK P all K (o :: rest) ⟨n, t, L, H⟩ :=
  .step (.offU hg hj hb (inb' hdst hd)) (by rw [hdst]; exact k)
theorem LexK.offU {j i : Nat} {b : Bool} (hg : o.guard = some (j, b)) (hj : (all[j]?).bind (·.dst) = some i) (hb : t i = .tup []) (hdst : o.dst = some d) (hd : Nat.blt d n = true) (k : LexK P all K rest ⟨n, upd t d (.tup []), L, H⟩ p (fp ++ [(lookT all o, dstT o)])) : LexK P all K (o :: rest) ⟨n, t, L, H⟩ p fp :=
  .cons (.offU hg hj hb (inb' hdst hd)) (by rw [hdst]; exact k)
theorem SeqK.r {s' : S} (h : LR P o R W ⟨n, t, L, H⟩ s') (hg : o.guard = none) (k : SeqK P all K rest s') : SeqK P all K (o :: rest) ⟨n, t, L, H⟩ := .step (.r h hg) k
theorem LexK.r {s' : S} (h : LR P o R W ⟨n, t, L, H⟩ s') (hg : o.guard = none) (k : LexK P all K rest s' p (fp ++ [(R, W)])) : LexK P all K (o :: rest) ⟨n, t, L, H⟩ p fp := .cons (.r h hg) k
theorem SeqK.rOn {s' : S} {j i : Nat} {b : Bool} (h : LR P o R W ⟨n, t, L, H⟩ s') (hg : o.guard = some (j, b)) (hj : (all[j]?).bind (·.dst) = some i) (hb : t i = tv (.bool b)) (k : SeqK P all K rest s') : SeqK P all K (o :: rest) ⟨n, t, L, H⟩ := .step (.rOn h hg hj hb) k
theorem LexK.rOn {s' : S} {j i : Nat} {b : Bool} (h : LR P o R W ⟨n, t, L, H⟩ s') (hg : o.guard = some (j, b)) (hj : (all[j]?).bind (·.dst) = some i) (hb : t i = tv (.bool b)) (k : LexK P all K rest s' p (fp ++ [(.t i :: R, W)])) : LexK P all K (o :: rest) ⟨n, t, L, H⟩ p fp := .cons (.rOn h hg hj hb) k
/-- a test that is decided here -/
theorem SeqK.qD {q : Prop} [Decidable q] (h : QV P o ⟨n, t, L, H⟩ (bX (decide q))) (hg : o.guard = none) (hdst : o.dst = some d) (hd : Nat.blt d n = true) (ht : q → SeqK P all K rest ⟨n, upd t d (bX true), L, H⟩) (he : ¬ q → SeqK P all K rest ⟨n, upd t d (bX false), L, H⟩) : SeqK P all K (o :: rest) ⟨n, t, L, H⟩ :=
  SeqK.stepD (.q h hg (inb' hdst hd)) (fun hq => by rw [hdst]; exact ht hq) (fun hq => by rw [hdst]; exact he hq)
theorem SeqK.qB {b : Bool} (h : QV P o ⟨n, t, L, H⟩ (bX b)) (hg : o.guard = none) (hdst : o.dst = some d) (hd : Nat.blt d n = true) (ht : b = true → SeqK P all K rest ⟨n, upd t d (bX true), L, H⟩) (he : b = false → SeqK P all K rest ⟨n, upd t d (bX false), L, H⟩) : SeqK P all K (o :: rest) ⟨n, t, L, H⟩ :=
  SeqK.stepB (.q h hg (inb' hdst hd)) (fun hq => by rw [hdst]; exact ht hq) (fun hq => by rw [hdst]; exact he hq)
theorem LexK.qD {q : Prop} [Decidable q] (h : QV P o ⟨n, t, L, H⟩ (bX (decide q))) (hg : o.guard = none) (hdst : o.dst = some d) (hd : Nat.blt d n = true) (ht : q → LexK P all K rest ⟨n, upd t d (bX true), L, H⟩ p (fp ++ [(lookT all o, dstT o)])) (he : ¬ q → LexK P all K rest ⟨n, upd t d (bX false), L, H⟩ p (fp ++ [(lookT all o, dstT o)])) : LexK P all K (o :: rest) ⟨n, t, L, H⟩ p fp :=
  LexK.consD (.q h hg (inb' hdst hd)) (fun hq => by rw [hdst]; exact ht hq) (fun hq => by rw [hdst]; exact he hq)
theorem LexK.qB {b : Bool} (h : QV P o ⟨n, t, L, H⟩ (bX b)) (hg : o.guard = none) (hdst : o.dst = some d) (hd : Nat.blt d n = true) (ht : b = true → LexK P all K rest ⟨n, upd t d (bX true), L, H⟩ p (fp ++ [(lookT all o, dstT o)])) (he : b = false → LexK P all K rest ⟨n, upd t d (bX false), L, H⟩ p (fp ++ [(lookT all o, dstT o)])) : LexK P all K (o :: rest) ⟨n, t, L, H⟩ p fp :=
  LexK.consB (.q h hg (inb' hdst hd)) (fun hq => by rw [hdst]; exact ht hq) (fun hq => by rw [hdst]; exact he hq)
theorem SeqK.onD {j i : Nat} {b : Bool} {q : Prop} [Decidable q] (h : QV P o ⟨n, t, L, H⟩ (bX (decide q))) (hg : o.guard = some (j, b)) (hj : (all[j]?).bind (·.dst) = some i) (hb : t i = tv (.bool b)) (hdst : o.dst = some d) (hd : Nat.blt d n = true) (ht : q → SeqK P all K rest ⟨n, upd t d (bX true), L, H⟩) (he : ¬ q → SeqK P all K rest ⟨n, upd t d (bX false), L, H⟩) : SeqK P all K (o :: rest) ⟨n, t, L, H⟩ :=
  SeqK.stepD (.on h hg hj hb (inb' hdst hd)) (fun hq => by rw [hdst]; exact ht hq) (fun hq => by rw [hdst]; exact he hq)
theorem SeqK.onB {j i : Nat} {b c : Bool} (h : QV P o ⟨n, t, L, H⟩ (bX c)) (hg : o.guard = some (j, b)) (hj : (all[j]?).bind (·.dst) = some i) (hb : t i = tv (.bool b)) (hdst : o.dst = some d) (hd : Nat.blt d n = true) (ht : c = true → SeqK P all K rest ⟨n, upd t d (bX true), L, H⟩) (he : c = false → SeqK P all K rest ⟨n, upd t d (bX false), L, H⟩) : SeqK P all K (o :: rest) ⟨n, t, L, H⟩ :=
  SeqK.stepB (.on h hg hj hb (inb' hdst hd)) (fun hq => by rw [hdst]; exact ht hq) (fun hq => by rw [hdst]; exact he hq)
theorem LexK.onD {j i : Nat} {b : Bool} {q : Prop} [Decidable q] (h : QV P o ⟨n, t, L, H⟩ (bX (decide q))) (hg : o.guard = some (j, b)) (hj : (all[j]?).bind (·.dst) = some i) (hb : t i = tv (.bool b)) (hdst : o.dst = some d) (hd : Nat.blt d n = true) (ht : q → LexK P all K rest ⟨n, upd t d (bX true), L, H⟩ p (fp ++ [(lookT all o, dstT o)])) (he : ¬ q → LexK P all K rest ⟨n, upd t d (bX false), L, H⟩ p (fp ++ [(lookT all o, dstT o)])) : LexK P all K (o :: rest) ⟨n, t, L, H⟩ p fp :=
  LexK.consD (.on h hg hj hb (inb' hdst hd)) (fun hq => by rw [hdst]; exact ht hq) (fun hq => by rw [hdst]; exact he hq)
theorem LexK.onB {j i : Nat} {b c : Bool} (h : QV P o ⟨n, t, L, H⟩ (bX c)) (hg : o.guard = some (j, b)) (hj : (all[j]?).bind (·.dst) = some i) (hb : t i = tv (.bool b)) (hdst : o.dst = some d) (hd : Nat.blt d n = true) (ht : c = true → LexK P all K rest ⟨n, upd t d (bX true), L, H⟩ p (fp ++ [(lookT all o, dstT o)])) (he : c = false → LexK P all K rest ⟨n, upd t d (bX false), L, H⟩ p (fp ++ [(lookT all o, dstT o)])) : LexK P all K (o :: rest) ⟨n, t, L, H⟩ p fp :=
  LexK.consB (.on h hg hj hb (inb' hdst hd)) (fun hq => by rw [hdst]; exact ht hq) (fun hq => by rw [hdst]; exact he hq)
/-! reads and writes of memory, the state written out -/
theorem c_put {s : S} {d : Nat} {x : X} : s.put (some d) x = ⟨s.n, upd s.t d x, s.L, s.H⟩ := rfl
theorem lr_cast {s s' s'' : S} (h : LR P o R W s s') (e : s' = s'') : LR P o R W s s'' := e ▸ h
theorem b_load {tt : TypeId} {y : Operand} {agg : Bool} {m b off : Nat} {cells : List A} {r : C} (ho : o.op = .load tt y) (ty : tyB P tt agg m = true) (hy : S.eval ⟨n, t, L, H⟩ y = .lp b off) (hL : L b = some (.box cells)) (hr : mkC agg ((cells.drop off).take m) = r) (hn : Nat.ble (off + m) cells.length = true) (hdst : o.dst = some d) (hd : Nat.blt d n = true) :
    LR P o (.b b :: lk o) (dstT o) ⟨n, t, L, H⟩ ⟨n, upd t d (.c r), L, H⟩ := lr_cast (l_load r ho ty hy hL hr hn (inb' hdst hd)) (by rw [hdst]; rfl)
theorem g_load {tt : TypeId} {y : Operand} {agg : Bool} {m k off : Nat} {cells : List A} {r : C} (ho : o.op = .load tt y) (ty : tyB P tt agg m = true) (hy : S.eval ⟨n, t, L, H⟩ y = .c (.a (.bp k off))) (hH : H k = some (.box cells)) (hr : mkC agg ((cells.drop off).take m) = r) (hn : Nat.ble (off + m) cells.length = true) (hdst : o.dst = some d) (hd : Nat.blt d n = true) :
    LR P o (.h :: lk o) (dstT o) ⟨n, t, L, H⟩ ⟨n, upd t d (.c r), L, H⟩ := lr_cast (h_load r ho ty hy hH hr hn (inb' hdst hd)) (by rw [hdst]; rfl)
theorem b_box {e : TypeId} {y : Operand} {x : C} {r : List A} (ho : o.op = .box e y) (hdst : o.dst = some d) (hy : S.eval ⟨n, t, L, H⟩ y = .c x) (hr : x.cells = r) (hL : L d = none) (hd : Nat.blt d n = true) :
    LR P o (.b d :: lk o) [.t d, .b d] ⟨n, t, L, H⟩ ⟨n, upd t d (.lp d 0), upd L d (some (.box r)), H⟩ := l_box r ho hdst hy hr hL (inb' hdst hd)
theorem b_alloc {e : TypeId} {z : Value} {r : List A} (ho : o.op = .alloc e) (hdst : o.dst = some d) (hz : zeroIs P e z) (h1 : z.cells.toList.all Value.oneCell' = true) (hr : z.cells.toList.map litA = r) (hL : L d = none) (hd : Nat.blt d n = true) :
    LR P o (.b d :: lk o) [.t d, .b d] ⟨n, t, L, H⟩ ⟨n, upd t d (.lp d 0), upd L d (some (.box r)), H⟩ := l_alloc r ho hdst hz h1 hr hL (inb' hdst hd)
theorem b_store {tt : TypeId} {y z : Operand} {agg : Bool} {m b off : Nat} {cells : List A} {x : C} {r : List A} (ho : o.op = .store tt y z) (hdst : o.dst = none) (ty : tyB P tt agg m = true) (hy : S.eval ⟨n, t, L, H⟩ y = .lp b off) (hz : S.eval ⟨n, t, L, H⟩ z = .c x) (hL : L b = some (.box cells)) (hr : splice cells off x.cells = r) (hx : x.cells.length = m) (hn : Nat.ble (off + m) cells.length = true) :
    LR P o (.b b :: lk o) [.b b] ⟨n, t, L, H⟩ ⟨n, t, upd L b (some (.box r)), H⟩ := l_store r ho hdst ty hy hz hL hr hx hn
theorem g_store {tt : TypeId} {y z : Operand} {agg : Bool} {m k off : Nat} {cells : List A} {x : C} {r : List A} (ho : o.op = .store tt y z) (hdst : o.dst = none) (ty : tyB P tt agg m = true) (hy : S.eval ⟨n, t, L, H⟩ y = .c (.a (.bp k off))) (hz : S.eval ⟨n, t, L, H⟩ z = .c x) (hH : H k = some (.box cells)) (hr : splice cells off x.cells = r) (hx : x.cells.length = m) (hn : Nat.ble (off + m) cells.length = true) :
    LR P o (.h :: lk o) [.h] ⟨n, t, L, H⟩ ⟨n, t, L, upd H k (some (.box r))⟩ := h_store r ho hdst ty hy hz hH hr hx hn
theorem SeqK.newBox {e : TypeId} {y : Operand} {x : C} {r : List A} (ho : o.op = .box e y) (hg : o.guard = none) (hdst : o.dst = some d) (hy : S.eval ⟨n, t, L, H⟩ y = .c x) (hr : x.cells = r) (hd : Nat.blt d n = true)
    (k : ∀ k, H k = none → SeqK P all K rest ⟨n, upd t d (.c (.a (.bp k 0))), L, upd H k (some (.box r))⟩) : SeqK P all K (o :: rest) ⟨n, t, L, H⟩ :=
  SeqK.any (e_box r hg ho hy hr (inb' hdst hd) fun k' hk' => by rw [hdst]; exact k k' hk')
theorem SeqK.newAlloc {e : TypeId} {z : Value} {r : List A} (ho : o.op = .alloc e) (hg : o.guard = none) (hdst : o.dst = some d) (hz : zeroIs P e z) (h1 : z.cells.toList.all Value.oneCell' = true) (hr : z.cells.toList.map litA = r) (hd : Nat.blt d n = true)
    (k : ∀ k, H k = none → SeqK P all K rest ⟨n, upd t d (.c (.a (.bp k 0))), L, upd H k (some (.box r))⟩) : SeqK P all K (o :: rest) ⟨n, t, L, H⟩ :=
  SeqK.any (e_alloc r hg ho hz h1 hr (inb' hdst hd) fun k' hk' => by rw [hdst]; exact k k' hk')
theorem SeqK.newMap {e : TypeId} (kk : KK) (ho : o.op = .makeMap e none) (hg : o.guard = none) (hdst : o.dst = some d) (hd : Nat.blt d n = true)
    (k : ∀ k, H k = none → SeqK P all K rest ⟨n, upd t d (.c (.a (.mp k))), L, upd H k (some (.map kk [] 0))⟩) : SeqK P all K (o :: rest) ⟨n, t, L, H⟩ :=
  SeqK.any (e_makeMap kk hg ho (inb' hdst hd) fun k' hk' => by rw [hdst]; exact k k' hk')
theorem b_makeMap {e : TypeId} (kk : KK) (ho : o.op = .makeMap e none) (hdst : o.dst = some d) (hL : L d = none) (hd : Nat.blt d n = true) :
    LR P o (.b d :: lk o) [.t d, .b d] ⟨n, t, L, H⟩ ⟨n, upd t d (.lmp d), upd L d (some (.map kk [] 0)), H⟩ := l_makeMap kk ho hdst hL (inb' hdst hd)
end

/-! ### forgetting -/
/-- the slots of the list, and no others, are still known -/
def keepT (t : Nat → X) : List (Nat × X) → Prop
  | [] => True
  | (i, x) :: l => t i = x ∧ keepT t l
theorem keepT_le {t : Nat → X} : ∀ {l : List (Nat × X)}, keepT t l → ∀ i, sp l i = .any ∨ sp l i = t i
  | [], _, i => .inl rfl
  | (j, x) :: l, h, i => by
    simp only [sp]
    by_cases e : i = j
    · subst e; rw [upd_same]; exact .inr h.1.symm
    · rw [upd_ne _ _ e]; exact keepT_le h.2 i
def keepL (L : Nat → Option AO) : List (Nat × AO) → Prop
  | [] => True
  | (i, x) :: l => L i = some x ∧ keepL L l
theorem keepL_le {L : Nat → Option AO} : ∀ {l : List (Nat × AO)}, keepL L l → ∀ i, lv l i = none ∨ lv l i = L i
  | [], _, i => .inl rfl
  | (j, x) :: l, h, i => by
    simp only [lv]
    by_cases e : i = j
    · subst e; rw [upd_same]; exact .inr h.1.symm
    · rw [upd_ne _ _ e]; exact keepL_le h.2 i
def hasLoc (ll : List (Nat × AO)) (x : X) : Bool :=
  match x.loc with
  | some d => (lv ll d).isSome
  | none => true
def okLoc (l : List (Nat × X)) (ll : List (Nat × AO)) : Bool := l.all fun p => hasLoc ll p.2
theorem sp_mem : ∀ {l : List (Nat × X)} {i : Nat}, sp l i ≠ .any → ∃ p ∈ l, p.2 = sp l i
  | [], i, h => absurd rfl h
  | (j, x) :: l, i, h => by
    simp only [sp] at h ⊢
    by_cases e : i = j
    · subst e; rw [upd_same] at h ⊢; exact ⟨_, List.mem_cons_self, rfl⟩
    · rw [upd_ne _ _ e] at h ⊢
      obtain ⟨p, h1, h2⟩ := sp_mem h
      exact ⟨p, List.mem_cons_of_mem _ h1, h2⟩
theorem Wk.keep {s : S} (N : Nat) (l : List (Nat × X)) (ll : List (Nat × AO)) (H : Heap) (hn : s.n = N) (ht : keepT s.t l) (hL : keepL s.L ll) (hH : ∀ k o, H k = some o → s.H k = some o) (hok : okLoc l ll = true) : Wk s ⟨N, sp l, lv ll, H⟩ := by
  subst hn
  intro c a w g
  have hs : ∀ i x, S.own { n := s.n, t := sp l, L := lv ll, H := H } i = some x → s.own i = some x := fun i x h => by
    cases i with
    | e k => exact hH k x h
    | l d => rcases keepL_le hL d with h' | h'
             · have h : lv ll d = some x := h
               rw [h'] at h; cases h
             · have h : lv ll d = some x := h
               rw [h'] at h; exact h
  refine ⟨c, ⟨g.conc.sub hs, g.size, fun i => ?_, g.defers, fun i d h => ?_⟩, (Ext.refl _ _ _).sub hs⟩
  · rcases keepT_le ht i with h | h
    · show RepX c (sp l i) _; rw [h]; trivial
    · show RepX c (sp l i) _; rw [h]; exact g.tmps i
  · have h : (sp l i).loc = some d := h
    have hne : sp l i ≠ .any := fun e => by rw [e] at h; cases h
    obtain ⟨p, h1, h2⟩ := sp_mem hne
    have := List.all_eq_true.1 hok p h1
    unfold hasLoc at this
    rw [h2, h] at this
    show lv ll d ≠ none
    cases h3 : lv ll d with
    | none => simp only [h3] at this; cases this
    | some => simp
end Go.Proofs.Ytojkjiakkcgfcaa.E
