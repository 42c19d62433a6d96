import Derived.Test.YtgnnjebfoffphaaGreatDoorM2
import Derived.WalkLawsBesides
import Derived.Lib.ConvBytes
set_option linter.unusedVariables false
namespace Go.Proofs.YtgnnjebfoffphaaGreatDoor.E
open Go.RowKit
structure MemOk (c : Ctx) (w : World) : Prop where
  mem : ∀ b o u, c.μ b o = some u → w.cell? ⟨b, o, none⟩ = some u
  fin : ∃ N, ∀ k, N ≤ k → c.β k = none
  tabw : TabW w
structure Mk (c : Ctx) (w : World) (c' : Ctx) (w' : World) : Prop where
  os : w'.os = w.os
  tape : w'.tape = w.tape
  output : w'.output = w.output
  size : w.heap.size ≤ w'.heap.size
  blk : ∀ b, b < w.heap.size → w'.heap[b]? = w.heap[b]?
  mem : ∀ b o u, c.μ b o = some u → c'.μ b o = some u
  new : ∀ b o u, c'.μ b o = some u → c.μ b o = some u ∨ w.heap.size ≤ b
  ext : ∀ k p, c.β k = some p → c'.β k = some p
  lam : c'.lam = c.lam
  base : c'.base = c.base
  ok : MemOk c' w'
theorem Mk.refl {c : Ctx} {w : World} (h : MemOk c w) : Mk c w c w := ⟨rfl, rfl, rfl, jA _, fun _ _ => rfl, fun _ _ _ h => h, fun _ _ _ h => .inl h, fun _ _ h => h, rfl, rfl, h⟩
theorem Sat.memOk {c : Ctx} {s : S} {a : Act} {w : World} (g : Sat c s a w) : MemOk c w := ⟨g.conc.mem, by obtain ⟨N, h⟩ := g.conc.fin; exact ⟨N, fun k hk => (h k hk).1⟩, g.conc.tabw⟩
theorem RepX.mono {c c' : Ctx} (h : ∀ b o u, c.μ b o = some u → c'.μ b o = some u) (hb : ∀ k p, c.β k = some p → c'.β k = some p) (hl : c'.lam = c.lam) {x : X} {v : Value} (r : RepX c x v) : RepX c' x v := by
  cases x with
  | c x => exact RepC.mono h hb r
  | tup l => obtain ⟨us, h1, h2⟩ := r; exact ⟨us, h1, h2.mono fun _ _ => RepC.mono h hb⟩
  | lp d off => have r : v = .pointer (some ⟨(c.lam d).1, off, none⟩) := r; show v = _; rw [hl]; exact r
  | lts d z sz es =>
    rcases r with r | r | ⟨r1, r2, r3⟩
    · exact .inl r
    · exact .inr (.inl r)
    · exact .inr (.inr ⟨r1, by rw [hl]; exact r2, r3.mono h⟩)
  | lmp d => have r : v = .map (some (c.lam d).1) := r; show v = _; rw [hl]; exact r
  | pc l => obtain ⟨b, off, h1, u, h2⟩ := r; exact ⟨b, off, h1, u, fun i x hx => ⟨h _ _ _ (h2 i x hx).1, (h2 i x hx).2.mono h⟩⟩
  | any => trivial
theorem ORep.lt {c : Ctx} {w : World} {x : AO} {b n : Nat} (h : ORep c w x b n) : b < w.heap.size := by
  have key : ∀ {y : Obj}, w.heap[b]? = some y → b < w.heap.size := fun h => (Array.getElem?_eq_some_iff.1 h).1
  cases x with
  | box => obtain ⟨_, _, h, _⟩ := h; exact key h
  | row => obtain ⟨_, h, _⟩ := h; exact key h
  | tip => obtain ⟨_, h, _⟩ := h; exact key h
  | new => obtain ⟨_, h, _⟩ := h; exact key h
  | map => obtain ⟨_, h, _⟩ := h; exact key h
  | iter => obtain ⟨_, _, _, h⟩ := h; exact key h
  | iter0 => exact key h
  | loop => exact key h.1
theorem ORep.keep {c c' : Ctx} {w w' : World} {x : AO} {b n : Nat} (h : ORep c w x b n) (hb : w'.heap[b]? = w.heap[b]?) (hm : ∀ b o u, c.μ b o = some u → c'.μ b o = some u)
    (hn : ∀ o u, c'.μ b o = some u → c.μ b o = some u) (hx : ∀ k p, c.β k = some p → c'.β k = some p) : ORep c' w' x b n := by
  have nm : ∀ o, c.μ b o = none → c'.μ b o = none := fun o h => by
    cases h' : c'.μ b o with
    | none => rfl
    | some u => rw [hn o u h'] at h; cases h
  cases x with
  | box cs => obtain ⟨us, ty, h1, h2, h3⟩ := h; exact ⟨us, ty, hb.trans h1, h2.mono fun _ _ => RepA.mono hm hx, fun o => nm o (h3 o)⟩
  | row e sz cs => obtain ⟨us, h1, h4, h5, h2, h3⟩ := h; exact ⟨us, hb.trans h1, h4, h5, h2.mono fun _ _ => RepA.mono hm hx, fun o => nm o (h3 o)⟩
  | tip e sz m => obtain ⟨us, h1, h4, h5, h3⟩ := h; exact ⟨us, hb.trans h1, h4, h5, fun o ho => nm o (h3 o ho)⟩
  | new e sz => obtain ⟨us, h1, h4, h5, h3⟩ := h; exact ⟨us, hb.trans h1, h4, h5, fun o => nm o (h3 o)⟩
  | map kk es cl => obtain ⟨ents, h1, h2⟩ := h; exact ⟨ents, hb.trans h1, h2.len, fun i m e he hf => ⟨(h2.ent i m e he hf).1, (h2.ent i m e he hf).2.1, RepC.mono hm hx (h2.ent i m e he hf).2.2⟩, h2.key, h2.born, h2.nodup, h2.inj⟩
  | iter k since seen c0 => obtain ⟨bm, nm, h1, h2⟩ := h; exact ⟨bm, nm, hx _ _ h1, hb.trans h2⟩
  | iter0 => exact hb.trans h
  | loop => exact ⟨hb.trans h.1, fun i x hi => RepC.mono hm hx (h.2 i x hi)⟩
theorem Conc.grow {c c' : Ctx} {own : Own} {w w' : World} (g : Conc c own w) (m : Mk c w c' w') : Conc c' own w' ∧ Ext c own w c' own w' := by
  have pos' : ∀ i p, c.pos i = some p → c'.pos i = some p := fun i p h => by
    cases i with
    | e k => exact m.ext _ _ h
    | l d => simp only [Ctx.pos] at h ⊢; rw [m.lam]; exact h
  have posb : ∀ i x b n, own i = some x → ¬ x.empty → c'.pos i = some (b, n) → c.pos i = some (b, n) := fun i x b n h he hp => by
    obtain ⟨b', n', h1, h2⟩ := g.obj i x h he
    have := pos' i _ h1
    rw [hp] at this; injection this with this; rw [h1, this]
  refine ⟨⟨m.ok.mem, fun i x hi he => ?_, fun i j x y b n n' hi hj he hf hp hq => g.inj i j x y b n n' hi hj he hf (posb i x b n hi he hp) (posb j y b n' hj hf hq), ?_, m.ok.tabw, fun tg cs th i x n hi he hp => g.tabo tg cs th i x n hi he (posb i x tg n hi he hp)⟩, ⟨m.os, m.tape, m.output, m.size, fun b hb _ => m.blk b hb, m.mem, fun b o u h => (m.new b o u h).imp id .inl, m.ext, fun i x b n hi he hp => .inr ⟨i, x, n, hi, he, posb i x b n hi he hp⟩, m.base, fun k x h => .inl (by rw [h]; simp)⟩⟩
  · obtain ⟨b, n, h1, h2⟩ := g.obj i x hi he
    refine ⟨b, n, pos' i _ h1, h2.keep (m.blk b h2.lt) m.mem (fun o u h => ?_) m.ext⟩
    rcases m.new b o u h with h3 | h3
    · exact h3
    · have := h2.lt; omega
  · obtain ⟨N, h1⟩ := g.fin
    obtain ⟨N', h2⟩ := m.ok.fin
    exact ⟨max N N', fun k hk => ⟨h2 k (by omega), (h1 k (by omega)).2⟩⟩
theorem own_put (s : S) (d : Option Nat) (x : X) : (s.put d x).own = s.own := by
  funext i; cases d <;> cases i <;> rfl
theorem put_len (s : S) (d : Option Nat) (x : X) : Len (s.put d x) s := by cases d <;> rfl
def inB (d : Option Nat) (n : Nat) : Bool := match d with | some d => decide (d < n) | none => true
theorem Sat.put {c : Ctx} {s : S} {a : Act} {w : World} (g : Sat c s a w) (d : Option Nat) {x : X} {v : Value} (hd : inB d s.n = true) (h : RepX c x v) (hw : ∀ d, x.loc = some d → s.L d ≠ none) : Sat c (s.put d x) (a.put d v) w := by
  cases d with
  | none => exact g
  | some d =>
    have hd : d < s.n := by simpa [inB] using hd
    refine ⟨by rw [own_put]; exact g.conc, by simp [Act.put, S.put, g.size], fun i => ?_, g.defers, fun i e hy => ?_⟩
    · simp only [S.put, Act.put, Array.getD_eq_getD_getElem?, Array.getElem?_setIfInBounds]
      by_cases hid : d = i
      · subst hid
        rw [upd_same, if_pos rfl, if_pos (by rw [g.size]; exact hd)]
        exact h
      · rw [upd_ne _ _ (Ne.symm hid), if_neg hid]
        have := g.tmps i
        rwa [Array.getD_eq_getD_getElem?] at this
    · simp only [S.put] at hy
      by_cases hid : d = i
      · subst hid
        rw [upd_same] at hy
        exact hw e hy
      · rw [upd_ne _ _ (Ne.symm hid)] at hy
        exact g.wf i e hy
theorem Sat.grow {c c' : Ctx} {s : S} {a : Act} {w w' : World} (g : Sat c s a w) (m : Mk c w c' w') : Sat c' s a w' ∧ Ext c s.own w c' s.own w' :=
  ⟨⟨(g.conc.grow m).1, g.size, fun i => (g.tmps i).mono m.mem m.ext m.lam, g.defers.ext g.conc (g.conc.grow m).2, g.wf⟩, (g.conc.grow m).2⟩
section
variable {P : Program} {all : Array Oper} {o : Oper} {s : S}
def QV (P : Program) (o : Oper) (s : S) (x : X) : Prop :=
  (∀ d, x.loc = some d → ∃ y, y ∈ o.op.operands ∧ (s.eval y).loc = some d) ∧
  ∀ (c : Ctx) (w : World) (a : Act), MemOk c w → (∀ y, y ∈ o.op.operands → RepX c (s.eval y) (a.eval y)) → o.wp P a w (fun a' w' => ∃ v c', a' = a.put o.dst v ∧ RepX c' x v ∧ Mk c w c' w') (fun _ _ _ => False)
theorem QV.of_run {x : X} (hl : ∀ d, x.loc = some d → ∃ y, y ∈ o.op.operands ∧ (s.eval y).loc = some d)
    (h : ∀ (c : Ctx) (w : World) (a : Act), MemOk c w → (∀ y, y ∈ o.op.operands → RepX c (s.eval y) (a.eval y)) → ∃ v w' c', (execOp a.eval o).run P w = .ok (.value v) w' ∧ RepX c' x v ∧ Mk c w c' w') : QV P o s x := by
  refine ⟨hl, fun c w a hm hr => ?_⟩
  obtain ⟨v, w', c', h1, h2, h3⟩ := h c w a hm hr
  unfold Oper.wp
  rw [h1]
  exact ⟨v, c', rfl, h2, h3⟩
theorem QV.of_same {x : X} (hl : ∀ d, x.loc = some d → ∃ y, y ∈ o.op.operands ∧ (s.eval y).loc = some d)
    (h : ∀ (c : Ctx) (w : World) (a : Act), MemOk c w → (∀ y, y ∈ o.op.operands → RepX c (s.eval y) (a.eval y)) → ∃ v, (execOp a.eval o).run P w = .ok (.value v) w ∧ RepX c x v) : QV P o s x :=
  .of_run hl fun c w a hm hr => by
    obtain ⟨v, h1, h2⟩ := h c w a hm hr
    exact ⟨v, w, c, h1, h2, .refl hm⟩
theorem nolp {x : C} {q : Prop} {d : Nat} (h : (X.c x).loc = some d) : q := by cases h
def lookT (all : Array Oper) (o : Oper) : List Loc := (o.looksAt all).map .t
def dstT (o : Oper) : List Loc := o.dst.toList.map .t
theorem eval_same {s s1 : S} (h : ∀ ℓ, ℓ ∈ lookT all o → Same ℓ s1 s) {y : Operand} (hy : y ∈ o.op.operands) : s1.eval y = s.eval y := by
  cases y with
  | tmp t =>
    have : Same (.t t) s1 s := h _ (by
      refine jE.2 ⟨t, ?_, rfl⟩
      exact List.mem_append_left _ (List.mem_filterMap.2 ⟨.tmp t, by simpa using hy, rfl⟩))
    simp only [Same] at this
    exact this
  | _ => rfl
theorem over_put {s1 s : S} {d : Option Nat} {x : X} : s1.over (d.toList.map .t) (s.put d x) = s1.put d x := by
  refine S.ext' (by cases d <;> rfl) fun ℓ => ?_
  cases d with
  | none => exact over_out (by simp)
  | some d =>
    by_cases h : ℓ = .t d
    · subst h
      refine (over_in (by simp)).trans ?_
      simp only [Same, S.put, upd_same]
    · refine (over_out (by simpa using h)).trans ?_
      cases ℓ with
      | t i =>
        have hdi : i ≠ d := fun e => h (by rw [e])
        simp [Same, S.put, upd_ne _ _ hdi]
      | _ => rfl
theorem put_out {s : S} {d : Option Nat} {x : X} {ℓ : Loc} (h : ℓ ∉ d.toList.map Loc.t) : Same ℓ (s.put d x) s := by
  cases d with
  | none => exact .refl _ _
  | some d =>
    cases ℓ with
    | t i =>
      have hdi : i ≠ d := fun e => h (by simp [e])
      simp [Same, S.put, upd_ne _ _ hdi]
    | _ => rfl
theorem lp_wf {c : Ctx} {s1 : S} {a : Act} {w : World} {y : Operand} {d : Nat} (g : Sat c s1 a w) (hy : (s1.eval y).loc = some d) : s1.L d ≠ none := by
  cases y with
  | tmp t => exact g.wf t d hy
  | const u => cases u <;> simp only [S.eval, constX] at hy <;> first | cases hy | (split at hy <;> cases hy)
  | _ => cases hy
theorem LOp.q {x : X} (h : QV P o s x) (hg : o.guard = none) (hd : inB o.dst s.n = true) : LOp P all o (lookT all o) (dstT o) s (s.put o.dst x) := by
  refine ⟨put_len _ _ _, fun ℓ hℓ => put_out hℓ, fun s1 hl hs => ?_⟩
  unfold dstT
  rw [over_put]
  intro c a w g
  unfold opRun
  rw [if_pos (by simp [Region.wanted, hg])]
  refine wp_weak (h.2 c w a g.memOk fun y hy => by rw [← eval_same hs hy]; exact g.eval y) ?_
  rintro a' w' ⟨v, c', rfl, hr, m⟩
  obtain ⟨g', x'⟩ := g.grow m
  refine ⟨_, c', rfl, g'.put _ (hl ▸ hd) hr fun d e => ?_, by rw [own_put]; exact x'⟩
  obtain ⟨y, hy, hy'⟩ := h.1 d e
  rw [← eval_same hs hy] at hy'
  exact lp_wf g hy'
theorem yield_of {c : Ctx} {a : Act} {w : World} {j t : Nat} {b : Bool} (g : Sat c s a w) (hj : (all[j]?).bind (·.dst) = some t) (hb : s.t t = tv (.bool b)) : yielded all a.tmps j = some b := by
  have h1 := g.tmps t
  rw [hb] at h1
  have h2 : a.tmps.getD t undef = .bool b := rep_tv h1
  unfold yielded
  rw [hj]
  have h3 : a.tmps[t]? = some (.bool b) := by
    rw [Array.getD_eq_getD_getElem?] at h2
    cases h4 : a.tmps[t]? with
    | none => rw [h4] at h2; cases h2
    | some z => rw [h4] at h2; simp at h2; rw [h2]
  simp [h3]
theorem LOp.on {x : X} {j t : Nat} {b : Bool} (h : QV P o s x) (hg : o.guard = some (j, b)) (hj : (all[j]?).bind (·.dst) = some t) (hb : s.t t = tv (.bool b)) (hd : inB o.dst s.n = true) : LOp P all o (lookT all o) (dstT o) s (s.put o.dst x) := by
  refine ⟨put_len _ _ _, fun ℓ hℓ => put_out hℓ, fun s1 hl hs => ?_⟩
  have hb1 : s1.t t = tv (.bool b) := by
    have : Same (.t t) s1 s := hs _ (jE.2 ⟨t, List.mem_append_right _ (by simp [hg, hj]), rfl⟩)
    exact Eq.trans this hb
  unfold dstT
  rw [over_put]
  intro c a w g
  unfold opRun
  rw [if_pos (by simp [Region.wanted, hg, yield_of g hj hb1])]
  refine wp_weak (h.2 c w a g.memOk fun y hy => by rw [← eval_same hs hy]; exact g.eval y) ?_
  rintro a' w' ⟨v, c', rfl, hr, m⟩
  obtain ⟨g', x'⟩ := g.grow m
  refine ⟨_, c', rfl, g'.put _ (hl ▸ hd) hr fun d e => ?_, by rw [own_put]; exact x'⟩
  obtain ⟨y, hy, hy'⟩ := h.1 d e
  rw [← eval_same hs hy] at hy'
  exact lp_wf g hy'
theorem LOp.off {j t : Nat} {b b' : Bool} (hg : o.guard = some (j, b)) (hj : (all[j]?).bind (·.dst) = some t) (hb : s.t t = tv (.bool b')) (hne : b' ≠ b) (hd : inB o.dst s.n = true) : LOp P all o (lookT all o) (dstT o) s (s.put o.dst (.tup [])) := by
  refine ⟨put_len _ _ _, fun ℓ hℓ => put_out hℓ, fun s1 hl hs => ?_⟩
  have hb1 : s1.t t = tv (.bool b') := by
    have : Same (.t t) s1 s := hs _ (jE.2 ⟨t, List.mem_append_right _ (by simp [hg, hj]), rfl⟩)
    exact Eq.trans this hb
  unfold dstT
  rw [over_put]
  intro c a w g
  unfold opRun
  rw [if_neg (by simp [Region.wanted, hg, yield_of g hj hb1, hne])]
  exact ⟨_, c, rfl, g.put _ (x := .tup []) (hl ▸ hd) ⟨#[], rfl, .nil⟩ (fun _ h => by cases h), by rw [own_put]; exact .refl _ _ _⟩
theorem yield_un {c : Ctx} {a : Act} {w : World} {j t : Nat} (g : Sat c s a w) (hj : (all[j]?).bind (·.dst) = some t) (hb : s.t t = .tup []) : yielded all a.tmps j = none := by
  have h1 := g.tmps t
  rw [hb] at h1
  obtain ⟨us, h2, h3⟩ := h1
  have h4 : us = #[] := by have := h3.1; exact Array.eq_empty_of_size_eq_zero (by simpa using this.symm)
  subst h4
  unfold yielded
  rw [hj]
  simp only [Option.bind_some]
  cases h5 : a.tmps[t]? with
  | none => rfl
  | some z => rw [Array.getD_eq_getD_getElem?, h5] at h2; simp at h2; rw [h2]
theorem LOp.offU {j t : Nat} {b : Bool} (hg : o.guard = some (j, b)) (hj : (all[j]?).bind (·.dst) = some t) (hb : s.t t = .tup []) (hd : inB o.dst s.n = true) : LOp P all o (lookT all o) (dstT o) s (s.put o.dst (.tup [])) := by
  refine ⟨put_len _ _ _, fun ℓ hℓ => put_out hℓ, fun s1 hl hs => ?_⟩
  have hb1 : s1.t t = .tup [] := by
    have : Same (.t t) s1 s := hs _ (jE.2 ⟨t, List.mem_append_right _ (by simp [hg, hj]), rfl⟩)
    exact Eq.trans this hb
  unfold dstT
  rw [over_put]
  intro c a w g
  unfold opRun
  rw [if_neg (by simp [Region.wanted, hg, yield_un g hj hb1])]
  exact ⟨_, c, rfl, g.put _ (x := .tup []) (hl ▸ hd) ⟨#[], rfl, .nil⟩ (fun _ h => by cases h), by rw [own_put]; exact .refl _ _ _⟩
abbrev iX (k : IntKind) (n : Int) : X := tv (.int k n)
abbrev bX (b : Bool) : X := tv (.bool b)
abbrev sX (s : ByteArray) : X := tv (.string s)
theorem q_move {y : Operand} (ho : o.op = .move y) : QV P o s (s.eval y) :=
  .of_same (fun d h => ⟨y, by rw [ho]; simp [Op.operands], h⟩) fun c w a hm hr => ⟨a.eval y, by simp [execOp, ho], hr y (by rw [ho]; simp [Op.operands])⟩
theorem q_assign {y : Operand} (ho : o.op = .assign y) : QV P o s (s.eval y) :=
  .of_same (fun d h => ⟨y, by rw [ho]; simp [Op.operands], h⟩) fun c w a hm hr => ⟨a.eval y, by simp [execOp, ho], hr y (by rw [ho]; simp [Op.operands])⟩
theorem q_pick {q y z : Operand} (b : Bool) (ho : o.op = .pick q y z) (hq : s.eval q = bX b) : QV P o s (bif b then s.eval y else s.eval z) :=
  .of_same (fun d h => by
    cases b
    · exact ⟨z, by rw [ho]; simp [Op.operands], h⟩
    · exact ⟨y, by rw [ho]; simp [Op.operands], h⟩) fun c w a hm hr => by
    have h0 := hr q (by rw [ho]; simp [Op.operands])
    rw [hq] at h0
    have h0 := rep_tv h0
    cases b
    · exact ⟨a.eval z, by simp [execOp, ho, h0, asBool], hr z (by rw [ho]; simp [Op.operands])⟩
    · exact ⟨a.eval y, by simp [execOp, ho, h0, asBool], hr y (by rw [ho]; simp [Op.operands])⟩
theorem q_bin {op : BinOp} {t u : TypeId} {x y : Operand} {a b r : Value} (ho : o.op = .binOp op t x y u) (hx : s.eval x = tv a) (hy : s.eval y = tv b) (h1 : r.oneCell' = true)
    (h : ∀ w, (do eqGuard op t x y a b; binOp op t a b : Sem Value).run P w = .ok r w) : QV P o s (tv r) :=
  .of_same (fun _ => nolp) fun c w f hm hr => by
    have ha := hr x (by rw [ho]; simp [Op.operands])
    have hb := hr y (by rw [ho]; simp [Op.operands])
    rw [hx] at ha
    rw [hy] at hb
    have ha := rep_tv ha
    have hb := rep_tv hb
    have h2 := h w
    rw [Sem.run_bind] at h2
    refine ⟨r, ?_, tv_rep h1⟩
    simp only [execOp, ho, ha, hb, Sem.run_bind]
    cases h3 : (eqGuard op t x y a b).run P w with
    | ok _ w1 => rw [h3] at h2; simp only [Result.andThen_ok] at h2 ⊢; rw [h2]; rfl
    | halt _ _ => rw [h3] at h2; cases h2
theorem str_eq (p q : ByteArray) : (p.data == q.data) = decide (p = q) := by rw [Bool.eq_iff_iff]; simp [ByteArray.ext_iff]
theorem eqg {op : BinOp} {t : TypeId} {x y : Operand} {k k' : IntKind} {a b : Int} {w : World} : (eqGuard op t x y (.int k a) (.int k' b)).run P w = .ok () w := by
  unfold eqGuard; split <;> rfl
theorem eqgS {op : BinOp} {t : TypeId} {x y : Operand} {a b : ByteArray} {w : World} : (eqGuard op t x y (.string a) (.string b)).run P w = .ok () w := by
  unfold eqGuard; split <;> rfl
section
variable {t u : TypeId} {x y : Operand} {k : IntKind} {a b : Int}
theorem q_add (r : Int) (ho : o.op = .binOp .add t x y u) (hx : s.eval x = iX k a) (hy : s.eval y = iX k b) (hr : k.wrap (a + b) = r) : QV P o s (iX k r) :=
  q_bin ho hx hy rfl fun w => by rw [Sem.run_bind, eqg]; simp [binOp, Op.intArith, hr]
theorem q_sub (r : Int) (ho : o.op = .binOp .sub t x y u) (hx : s.eval x = iX k a) (hy : s.eval y = iX k b) (hr : k.wrap (a - b) = r) : QV P o s (iX k r) :=
  q_bin ho hx hy rfl fun w => by rw [Sem.run_bind, eqg]; simp [binOp, Op.intArith, hr]
theorem q_mul (r : Int) (ho : o.op = .binOp .mul t x y u) (hx : s.eval x = iX k a) (hy : s.eval y = iX k b) (hr : k.wrap (a * b) = r) : QV P o s (iX k r) :=
  q_bin ho hx hy rfl fun w => by rw [Sem.run_bind, eqg]; simp [binOp, Op.intArith, hr]
theorem q_quo (r : Int) (ho : o.op = .binOp .quo t x y u) (hx : s.eval x = iX k a) (hy : s.eval y = iX k b) (h0 : b ≠ 0) (hr : k.wrap (a.tdiv b) = r) : QV P o s (iX k r) :=
  q_bin ho hx hy rfl fun w => by rw [Sem.run_bind, eqg]; simp [binOp, Op.intDiv, hr, h0]
theorem q_rem (ho : o.op = .binOp .rem t x y u) (hx : s.eval x = iX k a) (hy : s.eval y = iX k b) (h0 : b ≠ 0) : QV P o s (iX k (a.tmod b)) :=
  q_bin ho hx hy rfl fun w => by rw [Sem.run_bind, eqg]; simp [binOp, Op.intDiv, h0]
theorem q_eql (ho : o.op = .binOp .eql t x y u) (hx : s.eval x = iX k a) (hy : s.eval y = iX k b) : QV P o s (bX (decide (a = b))) :=
  q_bin ho hx hy rfl fun w => by rw [Sem.run_bind, eqg]; simp [binOp, Op.intCmp]; rfl
theorem q_neq (ho : o.op = .binOp .neq t x y u) (hx : s.eval x = iX k a) (hy : s.eval y = iX k b) : QV P o s (bX (decide (a ≠ b))) :=
  q_bin ho hx hy rfl fun w => by rw [Sem.run_bind, eqg]; simp [binOp, Op.intCmp]; rfl
theorem q_lss (ho : o.op = .binOp .lss t x y u) (hx : s.eval x = iX k a) (hy : s.eval y = iX k b) : QV P o s (bX (decide (a < b))) :=
  q_bin ho hx hy rfl fun w => by rw [Sem.run_bind, eqg]; simp [binOp, Op.intCmp]
theorem q_leq (ho : o.op = .binOp .leq t x y u) (hx : s.eval x = iX k a) (hy : s.eval y = iX k b) : QV P o s (bX (decide (a ≤ b))) :=
  q_bin ho hx hy rfl fun w => by rw [Sem.run_bind, eqg]; simp [binOp, Op.intCmp]
theorem q_gtr (ho : o.op = .binOp .gtr t x y u) (hx : s.eval x = iX k a) (hy : s.eval y = iX k b) : QV P o s (bX (decide (b < a))) :=
  q_bin ho hx hy rfl fun w => by rw [Sem.run_bind, eqg]; simp [binOp, Op.intCmp]
theorem q_geq (ho : o.op = .binOp .geq t x y u) (hx : s.eval x = iX k a) (hy : s.eval y = iX k b) : QV P o s (bX (decide (b ≤ a))) :=
  q_bin ho hx hy rfl fun w => by rw [Sem.run_bind, eqg]; simp [binOp, Op.intCmp]
variable {p q : ByteArray}
theorem q_eqlS (ho : o.op = .binOp .eql t x y u) (hx : s.eval x = sX p) (hy : s.eval y = sX q) : QV P o s (bX (decide (p = q))) :=
  q_bin ho hx hy rfl fun w => by rw [Sem.run_bind, eqgS]; simp [binOp, Op.stringOp, ByteArray.toList_eq, str_eq]
theorem q_not {b : Bool} (ho : o.op = .unOp .not t x) (hx : s.eval x = bX b) : QV P o s (bX (!b)) :=
  .of_same (fun _ => nolp) fun c w f hm hr => by
    have ha := hr x (by rw [ho]; simp [Op.operands])
    rw [hx] at ha
    have ha := rep_tv ha
    exact ⟨.bool (!b), by simp [execOp, ho, ha, Op.unary], tv_rep rfl⟩
theorem q_neg (r : Int) (ho : o.op = .unOp .neg t x) (hx : s.eval x = iX k a) (hr : k.wrap (0 - a) = r) : QV P o s (iX k r) :=
  .of_same (fun _ => nolp) fun c w f hm hrr => by
    have ha := hrr x (by rw [ho]; simp [Op.operands])
    rw [hx] at ha
    have ha := rep_tv ha
    exact ⟨.int k r, by simp [execOp, ho, ha, Op.unary, Op.intArith] at hr ⊢; exact hr, tv_rep rfl⟩
end
end
end Go.Proofs.YtgnnjebfoffphaaGreatDoor.E
