import Derived.Test.YtgnnjebfoffphaaGreatDoorM7
import Derived.Sort.Grow
import Derived.ProofKit
import Derived.OpenShut
import Derived.ShutString
import Derived.ChangeOld
import Derived.Carry
import Derived.Deep.Slices
import Derived.Lib.SmallJoins
import Derived.SizedLaws
import Derived.Laws.MakeOwn
set_option linter.unusedVariables false
namespace Go.Proofs.YtgnnjebfoffphaaGreatDoor.E
open Go.RowKit
open Go.RowKit Go.ChangeShapes Go.WideShapes Go.ChangeAt Go.Deep
section
variable {H : Type} {enc : TypeId × Value → H} {P : Program} {w W W' : World}
theorem trodAll_below (hl : laidOutB P = true) : ∀ (ts : List TypeId) (vs : List Value) (ds : List (DataW H)) (ps : List MemPlace), (∀ t ∈ ts, P.readableRec t = true ∧ t < P.types.size) →
    DataW.TrodAll enc P W 0 (fun _ => true) true ts vs ds ps → Below W.heap.size W W' → DataW.TrodAll enc P W' 0 (fun b => decide (b < W.heap.size)) true ts vs ds ps
  | [], vs, ds, ps, _, h, _ => by
    obtain ⟨rfl, rfl, rfl⟩ := trodAll_nil h
    exact trodAll_mk0
  | t :: ts, vs, ds, ps, hr, h, hb => by
    obtain ⟨v, vs', d, ds', p, q, rfl, rfl, rfl, h1, h2⟩ := trodAll_cons h
    refine trodAll_cons_mk (Below.trod hl (hr t (by simp)).1 (hr t (by simp)).2 h1 hb ?_) (trodAll_below hl ts vs' ds' q (fun t ht => hr t (by simp [ht])) h2 hb)
    obtain ⟨m, hm⟩ := h1
    exact DataW.trod_lt m _ _ _ hm
def Sz {H : Type} (P : Program) (t : TypeId) (d : DataW H) : Prop := ∀ n ∈ d.weights P t, n ≤ 140737488351232
end
abbrev mu (w : World) : Mem := fun b o => w.cell? ⟨b, o, none⟩
def Reads {α : Type} (P : Program) (N : Nat) (t : TypeId) (n : Nat) (F : α → List T) (ok : α → Prop) : Prop :=
  ∀ (H : Type) (enc : TypeId × Value → H) (w : World) (sp : Nat → Bool) (held : Bool) (fuel : Nat) (cs : List Value) (y : DataW H × List MemPlace), fuel ≤ N →
    DataW.trod enc P w 0 sp held fuel t cs = some y → Sz P t y.1 → cs.length = n → ∃ x, Reps (RepT (mu w)) (F x) cs ∧ ok x
def ReadsF {α : Type} (P : Program) (N : Nat) (off : Nat) (fl : List Field) (n : Nat) (F : α → List T) (ok : α → Prop) : Prop :=
  ∀ (H : Type) (enc : TypeId × Value → H) (w : World) (sp : Nat → Bool) (held : Bool) (m : Nat) (cs : List Value), m < N →
    (∀ f ∈ fl, ∃ y, DataW.trod enc P w 0 sp held m f.type ((cs.drop f.offset).take (P.cellsOf f.type)) = some y ∧ Sz P f.type y.1) → cs.length = off + n → ∃ x, Reps (RepT (mu w)) (F x) (cs.drop off) ∧ ok x
section
variable {α β : Type} {P : Program} {N n : Nat} {t e : TypeId} {F : α → List T} {ok : α → Prop} {G : β → List T} {ok' : β → Prop}
theorem reps1 {μ : Mem} {x : T} {v : Value} (h : RepT μ x v) : Reps (RepT μ) [x] [v] := .cons h .nil
variable {H : Type} {enc : TypeId × Value → H} {w : World} {r : Reach} {b0 : Nat} {v : Value} {d : DataW H} {p : List MemPlace} {sp : Nat → Bool} {held : Bool} {c : Ctx}
end
theorem Spec.row {P : Program} {f : FuncId} {args : List C} {w : World} {vs : Array Value} {u : Value} (ht : TabW w) (h : Spec P f args (fun _ => none) fun x _ => x = tv u) (hr : Reps (RepC (mu w) (fun _ => none)) args vs.toList) :
    Calls P f vs w fun e w' => e = .returned u ∧ Below w.heap.size w w' := by
  have hc : Conc ⟨mu w, fun _ => none, fun _ => (0, 0), 0⟩ (ownH fun _ => none) w := ⟨fun b o u h => h, fun i x hi => (by cases i <;> cases hi), fun i j x y b n m hi => (by cases i <;> cases hi), ⟨0, fun k _ => ⟨rfl, rfl⟩⟩, ht, fun tg cs th i x n hi => (by cases i <;> cases hi)⟩
  refine (h _ w vs hc hr).mono ?_
  rintro e w' ⟨v, x, H', c', rfl, rfl, hx, _, hE⟩
  have := rep_tv hx
  subst this
  exact ⟨rfl, hE.os, hE.tape, hE.output, hE.size, fun b hb => hE.blk b hb fun i x n hi => (by cases i <;> cases hi)⟩
open Classical in
noncomputable def full (H : Heap) : Heap := fun k => match H k with | some o => if o.empty then none else some o | none => none
structure Part (H A B : Heap) : Prop where
  left : ∀ k o, A k = some o → H k = some o
  right : ∀ k o, B k = some o → H k = some o ∧ A k = none ∧ ¬ o.empty
section
variable {P : Program} {all : Array Oper} {o : Oper} {s : S}
theorem over_two' {s1 s : S} {d d2 : Nat} {x : AO} {y : X} : s1.over [.t d2, .b d] ((s.setOwn (.l d) x).put (some d2) y) = (s1.setOwn (.l d) x).put (some d2) y := by
  refine S.ext' rfl fun ℓ => ?_
  cases ℓ with
  | t i =>
    by_cases h : i = d2
    · subst h; simp [Same, S.over, S.setOwn, S.put, upd_same]
    · simp [Same, S.over, S.setOwn, S.put, upd_ne _ _ h, h]
  | b i =>
    by_cases h : i = d
    · subst h; simp [Same, S.over, S.setOwn, S.put, upd_same]
    · simp [Same, S.over, S.setOwn, S.put, upd_ne _ _ h, h]
  | h => simp [Same, S.over, S.setOwn, S.put]
theorem two_out' {s : S} {d d2 : Nat} {x : AO} {y : X} : ∀ ℓ, ℓ ∉ [Loc.t d2, Loc.b d] → Same ℓ ((s.setOwn (.l d) x).put (some d2) y) s := fun ℓ hℓ => by
  cases ℓ with
  | t i => have h : i ≠ d2 := fun e => hℓ (by simp [e])
           simp [Same, S.setOwn, S.put, upd_ne _ _ h]
  | b i => have h : i ≠ d := fun e => hℓ (by simp [e])
           simp [Same, S.setOwn, S.put, upd_ne _ _ h]
  | h => simp [Same, S.setOwn, S.put]
theorem Sat.give {c : Ctx} {μ' : Mem} {s : S} {a : Act} {w w' : World} {d g n : Nat} {x : AO} (sat : Sat c s a w) (hx : x.empty) (hd : s.L d = none → False) (hos : w'.os = w.os) (ht : w'.tape = w.tape) (hout : w'.output = w.output) (hs : w.heap.size ≤ w'.heap.size)
    (hblk : ∀ b, b < w.heap.size → b ≠ g → w'.heap[b]? = w.heap[b]?) (hg : w.heap.size ≤ g ∨ ∃ y, s.L d = some y ∧ ¬ y.empty ∧ c.lam d = (g, n))
    (hμ : ∀ b o u, c.μ b o = some u → μ' b o = some u) (hnew : ∀ b o u, μ' b o = some u → c.μ b o = some u ∨ b = g) (hmem : ∀ b o u, μ' b o = some u → w'.cell? ⟨b, o, none⟩ = some u) :
    Sat { c with μ := μ' } (s.setOwn (.l d) x) a w' ∧ Ext c s.own w { c with μ := μ' } (s.setOwn (.l d) x).own w' := by
  have pos : ∀ j, ({ c with μ := μ' } : Ctx).pos j = c.pos j := fun j => by cases j <;> rfl
  have own' : ∀ j y, (s.setOwn (.l d) x).own j = some y → ¬ y.empty → j ≠ .l d ∧ s.own j = some y := fun j y h hy => by
    by_cases hj : j = .l d
    · subst hj; rw [setOwn_same] at h; injection h with h; subst h; exact absurd hx hy
    · rw [setOwn_ne _ _ hj] at h; exact ⟨hj, h⟩
  have away : ∀ j y b1 n1, j ≠ .l d → s.own j = some y → ¬ y.empty → c.pos j = some (b1, n1) → b1 ≠ g ∧ b1 < w.heap.size := fun j y b1 n1 hj h hy hp => by
    obtain ⟨b2, n2, h1, h2⟩ := sat.conc.obj j y h hy
    rw [hp] at h1; injection h1 with h1; injection h1 with h1; subst h1
    refine ⟨fun e => ?_, h2.lt⟩
    subst e
    rcases hg with hg | ⟨y', h3, h4, h5⟩
    · have := h2.lt; omega
    · exact hj (sat.conc.inj j (.l d) y y' b1 n1 n h h3 hy h4 hp (by show some (c.lam d) = _; rw [h5]))
  refine ⟨⟨⟨hmem, fun j y hj hy => ?_, fun j i y z b1 n1 n2 hj hi hy hz h1 h2 => ?_, ?_, sat.conc.tabw.of sat.conc.tabo (fun b hb hn => hblk b hb fun e => by
      subst e
      rcases hg with hg | ⟨y', h3, h4, h5⟩
      · omega
      · exact hn (.l d) y' n h3 h4 (by show some (c.lam d) = _; rw [h5])), fun tg cs th j y n1 hj hy h1 => by
      obtain ⟨hne, hj'⟩ := own' j y hj hy
      rw [pos] at h1
      exact sat.conc.tabo tg cs th j y n1 hj' hy h1⟩, by rw [sat.size, (setOwn_t s _ x).2], fun j => ?_, sat.defers.blk hs fun D hD => hblk D (Array.getElem?_eq_some_iff.1 hD).1 fun e => ?_, fun j e h => ?_⟩, ⟨hos, ht, hout, hs, fun b hb hn => ?_, hμ, fun b o u h => ?_, fun _ _ h => h, fun j y b1 n1 hj hy h1 => ?_, rfl, fun k y hk => .inl (by have hk : s.H k = some y := hk; show s.H k ≠ none; rw [hk]; simp)⟩⟩
  · obtain ⟨hne, hj'⟩ := own' j y hj hy
    obtain ⟨b1, n1, h1, h2⟩ := sat.conc.obj j y hj' hy
    obtain ⟨h3, h4⟩ := away j y b1 n1 hne hj' hy h1
    exact ⟨b1, n1, by rw [pos]; exact h1, h2.keep (hblk b1 h4 h3) hμ (fun o u h => (hnew b1 o u h).resolve_right h3) (fun _ _ h => h)⟩
  · exact sat.conc.inj j i y z b1 n1 n2 (own' j y hj hy).2 (own' i z hi hz).2 hy hz (by rw [← pos]; exact h1) (by rw [← pos]; exact h2)
  · obtain ⟨N, hN⟩ := sat.conc.fin
    exact ⟨N, fun k hk => ⟨(hN k hk).1, by rw [setOwn_ne _ _ (by simp)]; exact (hN k hk).2⟩⟩
  · rw [(setOwn_t s _ x).1]; exact RepX.mono (c := c) (c' := { c with μ := μ' }) hμ (fun _ _ h => h) rfl (sat.tmps j)
  · subst e
    rcases hg with hg | ⟨y', h3, h4, h5⟩
    · have := (Array.getElem?_eq_some_iff.1 hD).1; omega
    · obtain ⟨b2, n2, h6, h7⟩ := sat.conc.obj (.l d) y' h3 h4
      have h6 : some (c.lam d) = some (b2, n2) := h6
      rw [h5] at h6; injection h6 with h6; injection h6 with h6; subst h6
      exact h7.nd hD
  · rw [(setOwn_t s _ x).1] at h
    have := sat.wf j e h
    simp only [S.setOwn]
    by_cases he : e = d
    · subst he; rw [upd_same]; simp
    · rw [upd_ne _ _ he]; exact this
  · by_cases hbg : b = g
    · subst hbg
      rcases hg with hg | ⟨y', h3, h4, h5⟩
      · omega
      · exact absurd (by show some (c.lam d) = _; rw [h5]) (hn (.l d) y' n h3 h4)
    · exact hblk b hb hbg
  · rcases hnew b o u h with h1 | rfl
    · exact .inl h1
    · rcases hg with hg | ⟨y', h3, h4, h5⟩
      · exact .inr (.inl hg)
      · exact .inr (.inr ⟨.l d, y', n, h3, h4, by show some (c.lam d) = _; rw [h5]⟩)
  · obtain ⟨hne, hj'⟩ := own' j y hj hy
    rw [pos] at h1
    exact .inr ⟨j, y, n1, hj', hy, h1⟩
theorem Sat.newL0 {c : Ctx} {s : S} {a : Act} {w : World} {d : Nat} {x : AO} (g : Sat c s a w) (hx : x.empty) : Sat c (s.setOwn (.l d) x) a w ∧ Ext c s.own w c (s.setOwn (.l d) x).own w := by
  have own' : ∀ j y, (s.setOwn (.l d) x).own j = some y → ¬ y.empty → s.own j = some y := fun j y h hy => by
    by_cases hj : j = .l d
    · subst hj; rw [setOwn_same] at h; injection h with h; subst h; exact absurd hx hy
    · rw [setOwn_ne _ _ hj] at h; exact h
  refine ⟨⟨⟨g.conc.mem, fun j y hj hy => g.conc.obj j y (own' j y hj hy) hy, fun j i y z b1 n1 n2 hj hi hy hz => g.conc.inj j i y z b1 n1 n2 (own' j y hj hy) (own' i z hi hz) hy hz, ?_, g.conc.tabw, fun tg cs th j y n1 hj hy => g.conc.tabo tg cs th j y n1 (own' j y hj hy) hy⟩, by rw [g.size, (setOwn_t s _ x).2], fun j => by rw [(setOwn_t s _ x).1]; exact g.tmps j, g.defers, fun j e h => ?_⟩, ⟨rfl, rfl, rfl, jA _, fun _ _ _ => rfl, fun _ _ _ h => h, fun _ _ _ h => .inl h, fun _ _ h => h, fun j y b1 n1 hj hy h1 => .inr ⟨j, y, n1, own' j y hj hy, hy, h1⟩, rfl, fun k y hk => .inl (by have hk : s.H k = some y := hk; show s.H k ≠ none; rw [hk]; simp)⟩⟩
  · obtain ⟨N, hN⟩ := g.conc.fin
    exact ⟨N, fun k hk => ⟨(hN k hk).1, by rw [setOwn_ne _ _ (by simp)]; exact (hN k hk).2⟩⟩
  · rw [(setOwn_t s _ x).1] at h
    have := g.wf j e h
    simp only [S.setOwn]
    by_cases he : e = d
    · subst he; rw [upd_same]; simp
    · rw [upd_ne _ _ he]; exact this
theorem l_app0 {x y : Operand} {t e : TypeId} {k sz bytes d : Nat} {z : Nz} {es : List (List T)} (ho : o.op = .call { callee := .builtin .append, args := #[x, y], argTypes := #[t, t] }) (ty : elB P t e sz bytes = true) (hx : s.eval x = .c (.a (.ts k z sz []))) (hy : srcX (s.eval y) = some (es, sz)) (hb : es.length * bytes ≤ 140737488355328 ∧ es.length ≤ 9223372036854775807)
    (hdst : o.dst = some d) (hL : s.L d = none) (hd : inB o.dst s.n = true) :
    LR P o (.b d :: lk o) [.t d, .b d] s ((s.setOwn (.l d) (.tip e sz es.length)).put (some d) (.lts d z sz es)) := by
  refine ⟨(setOwn_t s (.l d) (.tip e sz es.length)).2, new_out, fun s1 hl hs c a w g => ?_⟩
  rw [over_new]
  have hL1 : s1.L d = none := Eq.trans (hs (.b d) (by simp)) hL
  have ev : ∀ u, u ∈ o.op.operands → s1.eval u = s.eval u := fun u hu => evs hs (fun _ h => List.mem_cons_of_mem _ h) hu
  have hin : inB (some d) s1.n = true := by rw [hdst] at hd; have e : s1.n = s.n := hl; rw [e]; exact hd
  obtain ⟨i, zz, g1, g2, g3, g4, g5, g6, g7⟩ := elB_get ty
  have ha := g.eval x
  rw [ev x (by rw [ho]; simp [Op.operands, Call.operands]), hx] at ha
  have hbr := g.eval y
  rw [ev y (by rw [ho]; simp [Op.operands, Call.operands])] at hbr
  obtain ⟨ad, m, cp, hv, rfl, cs, hcl, hel, hr, hcs⟩ := src_cells (by omega) (src_rep hbr hy)
  obtain ⟨b0, hb0, hz⟩ : ∃ b0, a.eval x = .slice b0 0 0 ∧ ((z = .ne ∧ b0 = none) ∨ (z = .nn ∧ ∃ q, b0 = some q)) := by
    generalize a.eval x = v at ha
    cases ha with
    | ts0 => exact ⟨none, rfl, .inl ⟨rfl, rfl⟩⟩
    | tsE => exact ⟨some _, rfl, .inr ⟨rfl, _, rfl⟩⟩
    | ts hk hne => exact absurd rfl hne
  rcases app0_run (P := P) w ty o.type b0 ad es.length cp cs hcl (fun j u hu => by
    obtain ⟨b, off, h, hc⟩ := hcs j u hu
    exact ⟨b, off, h, g.conc.mem _ _ _ hc⟩) (reps_one hr) hb.1 hb.2 with ⟨h0, hrun⟩ | ⟨h0, cap, w', hrun, hown, hgr⟩
  · have he : es = [] := List.eq_nil_of_length_eq_zero h0
    subst he
    simp only [qQ] at hrun
    have hrun' : (execOp a.eval o).run P w = .ok (.value (.slice b0 0 0)) w := by simp [execOp, ho, hb0, hv, resolve, invoke, builtin, hrun]
    unfold Oper.wp
    rw [hrun']
    simp only [Oper.upon, hdst]
    obtain ⟨q1, q2⟩ := g.newL0 (d := d) (x := .tip e sz ([] : List (List T)).length) rfl
    refine ⟨c, q1.put (some d) hin ?_ (fun d' e => by injection e with e; subst e; simp [S.setOwn, upd_same]), by rw [own_put]; exact q2⟩
    rcases hz with ⟨h1, rfl⟩ | ⟨h1, q, rfl⟩
    · exact .inl ⟨rfl, h1, rfl⟩
    · exact .inr (.inl ⟨rfl, h1, q, rfl⟩)
  · have hne : es ≠ [] := fun h => h0 (by rw [h]; rfl)
    obtain ⟨g0, cap1, cur, e1, k1, k2, k3, k4, k5⟩ := own_cells hown (by simp)
    injection e1 with e1 _ e2; injection e1 with e1; injection e1 with e1; subst e1 e2
    have hblk : ∀ b, b < w.heap.size → w'.heap[b]? = w.heap[b]? := fun b hb => hgr.block b hb (by simp)
    have mk := Mk.block (b := w.heap.size) (cs := cs) g.memOk hgr.os hgr.tape hgr.output hgr.size hblk (jA _) k5
    have hrun' : (execOp a.eval o).run P w = .ok (.value (.slice (some ⟨w.heap.size, 0, none⟩) es.length cap)) w' := by simp [execOp, ho, hb0, hv, resolve, invoke, builtin, hrun]
    unfold Oper.wp
    rw [hrun']
    simp only [Oper.upon, hdst]
    obtain ⟨q1, q2⟩ := g.newL (d := d) (x := .tip e sz es.length) (b := w.heap.size) (n := cap) mk hL1 (jA _) ⟨cur, k1, k2, k3, fun q hq => by
      cases hz : c.μ.add w.heap.size cs w.heap.size q with
      | none => exact hz
      | some u =>
        exfalso
        rcases Mem.add_new hz with h | ⟨_, h⟩
        · have := World.block_lt_of_cell? w _ (g.conc.mem _ q u h); simp at this
        · have := (List.getElem?_eq_some_iff.1 h).1
          omega⟩
    refine ⟨_, q1.put (some d) hin ?_ (fun d' e => by injection e with e; subst e; simp [S.setOwn, upd_same]), by rw [own_put]; exact q2⟩
    refine .inr (.inr ⟨hne, by simp [upd_same], ?_⟩)
    exact flat_sl hne k4 hel (hr.monoT mk.mem) fun j u hu => by rw [Nat.zero_add]; exact Mem.add_in hu
theorem l_app {x y : Operand} {t e : TypeId} {sz bytes d d2 : Nat} {z : Nz} {es es' : List (List T)} (ho : o.op = .call { callee := .builtin .append, args := #[x, y], argTypes := #[t, t] }) (ty : elB P t e sz bytes = true) (hx : s.eval x = .lts d z sz es) (hL : s.L d = some (.tip e sz es.length)) (hy : srcX (s.eval y) = some (es', sz)) (hb : (es.length + es'.length) * bytes ≤ 140737488355328 ∧ es.length + es'.length ≤ 9223372036854775807)
    (hdst : o.dst = some d2) (hd : inB o.dst s.n = true) :
    LR P o (.b d :: lk o) [.t d2, .b d] s ((s.setOwn (.l d) (.tip e sz 0)).put (some d2) (.c (.a (.t (.sl z sz (es ++ es')))))) := by
  refine ⟨(setOwn_t s (.l d) (.tip e sz 0)).2, two_out', fun s1 hl hs c a w g => ?_⟩
  rw [over_two']
  have hL1 : s1.L d = some (.tip e sz es.length) := Eq.trans (hs (.b d) (by simp)) hL
  have ev : ∀ u, u ∈ o.op.operands → s1.eval u = s.eval u := fun u hu => evs hs (fun _ h => List.mem_cons_of_mem _ h) hu
  have hin : inB (some d2) s1.n = true := by rw [hdst] at hd; have e : s1.n = s.n := hl; rw [e]; exact hd
  obtain ⟨i, zz, g1, g2, g3, g4, g5, g6, g7⟩ := elB_get ty
  have ha := g.eval x
  rw [ev x (by rw [ho]; simp [Op.operands, Call.operands]), hx] at ha
  have hbr := g.eval y
  rw [ev y (by rw [ho]; simp [Op.operands, Call.operands])] at hbr
  obtain ⟨ad, m, cp, hv, rfl, cs, hcl, hel, hr, hcs⟩ := src_cells (by omega) (src_rep hbr hy)
  have hcells : ∀ (j : Nat) (u : Value), cs[j]? = some u → ∃ b off, ad = some ⟨b, off, none⟩ ∧ w.cell? ⟨b, off + j, none⟩ = some u := fun j u hu => by
    obtain ⟨b, off, h, hc⟩ := hcs j u hu
    exact ⟨b, off, h, g.conc.mem _ _ _ hc⟩
  -- once the new value is known
  have fin : ∀ (w' : World) (g0 cap : Nat) (xs : List Value), (execOp a.eval o).run P w = .ok (.value (.slice (some ⟨g0, 0, none⟩) (es ++ es').length cap)) w' → w'.os = w.os → w'.tape = w.tape → w'.output = w.output → w.heap.size ≤ w'.heap.size →
      (∀ b, b < w.heap.size → b ≠ g0 → w'.heap[b]? = w.heap[b]?) → (w.heap.size ≤ g0 ∨ ∃ y, s1.L d = some y ∧ ¬ y.empty ∧ c.lam d = (g0, (c.lam d).2)) →
      es ++ es' ≠ [] → (es ++ es').length ≤ cap → (∀ (j : Nat) (u : Value), (xs ++ cs)[j]? = some u → w'.cell? ⟨g0, j, none⟩ = some u) → (∀ o u, c.μ g0 o = some u → xs[o]? = some u) → (∀ e ∈ es, e.length = sz) → Reps (RepT c.μ) es.flatten xs →
      o.wp P a w (fun a' w' => ∃ c', Sat c' ((s1.setOwn (.l d) (.tip e sz 0)).put (some d2) (.c (.a (.t (.sl z sz (es ++ es')))))) a' w' ∧ Ext c s1.own w c' ((s1.setOwn (.l d) (.tip e sz 0)).put (some d2) (.c (.a (.t (.sl z sz (es ++ es')))))).own w') (fun _ _ _ => False) := by
    intro w' g0 cap xs h1 h2 h3 h4 h5 h6 h7 hne hc1 hcell hold hlen hxs
    have hext : ∀ b o u, c.μ b o = some u → c.μ.add g0 (xs ++ cs) b o = some u := Mem.add_ext fun o u h hlt => by
      have := hold o u h
      rw [List.getElem?_append_left (List.getElem?_eq_some_iff.1 this).1]; exact this
    have hmem : ∀ b o u, c.μ.add g0 (xs ++ cs) b o = some u → w'.cell? ⟨b, o, none⟩ = some u := fun b o u hq => by
      rcases Mem.add_new hq with h8 | ⟨hbg, h8⟩
      · by_cases hb : b = g0
        · rw [hb] at h8 ⊢
          refine hcell o u ?_
          have := hold o u h8
          rw [List.getElem?_append_left (List.getElem?_eq_some_iff.1 this).1]; exact this
        · have h8 := g.conc.mem _ _ _ h8
          have hlt := World.block_lt_of_cell? w _ h8
          unfold World.cell? at h8 ⊢
          rw [h6 b hlt hb]; exact h8
      · rw [hbg]; exact hcell o u h8
    obtain ⟨q3, q4⟩ := g.give (d := d) (x := .tip e sz 0) (n := (c.lam d).2) rfl (fun h => by rw [hL1] at h; cases h) h2 h3 h4 h5 h6 h7 hext (fun b o u h => (Mem.add_new h).imp id (·.1)) hmem
    unfold Oper.wp
    rw [h1]
    simp only [Oper.upon, hdst]
    refine ⟨_, q3.put (some d2) hin ?_ (fun _ h => by cases h), by rw [own_put]; exact q4⟩
    refine .t (flat_sl hne hc1 (fun e he => (jC.1 he).elim (hlen e) (hel e)) ?_ fun j u hu => by rw [Nat.zero_add]; exact Mem.add_in hu)
    rw [List.flatten_append]
    exact (hxs.monoT hext).append (hr.monoT hext)
  -- nothing was there
  have none0 : ∀ b0, es = [] → a.eval x = .slice b0 0 0 → RepT c.μ (.sl z sz []) (.slice b0 0 0) → o.wp P a w (fun a' w' => ∃ c', Sat c' ((s1.setOwn (.l d) (.tip e sz 0)).put (some d2) (.c (.a (.t (.sl z sz (es ++ es')))))) a' w' ∧ Ext c s1.own w c' ((s1.setOwn (.l d) (.tip e sz 0)).put (some d2) (.c (.a (.t (.sl z sz (es ++ es')))))).own w') (fun _ _ _ => False) := by
    intro b0 he hb0 hz
    subst he
    rcases app0_run (P := P) w ty o.type b0 ad es'.length cp cs hcl hcells (reps_one hr) (by simpa using hb.1) (by simpa using hb.2) with ⟨h0, hrun⟩ | ⟨h0, cap, w', hrun, hown, hgr⟩
    · have hes' : es' = [] := List.eq_nil_of_length_eq_zero h0
      subst hes'
      simp only [qQ] at hrun
      have hrun' : (execOp a.eval o).run P w = .ok (.value (.slice b0 0 0)) w := by simp [execOp, ho, hb0, hv, resolve, invoke, builtin, hrun]
      unfold Oper.wp
      rw [hrun']
      simp only [Oper.upon, hdst]
      obtain ⟨q1, q2⟩ := g.newL0 (d := d) (x := .tip e sz 0) rfl
      exact ⟨c, q1.put (some d2) hin (.t (by rw [List.append_nil]; exact hz)) (fun _ h => by cases h), by rw [own_put]; exact q2⟩
    · have hne' : es' ≠ [] := fun h => h0 (by rw [h]; rfl)
      obtain ⟨g1, cap1, cur, e1, k1, k2, k3, k4, k5⟩ := own_cells hown (by simp)
      injection e1 with e1 _ e2; injection e1 with e1; injection e1 with e1; subst e1 e2
      refine fin w' w.heap.size cap [] (by simp [execOp, ho, hb0, hv, resolve, invoke, builtin, hrun]) hgr.os hgr.tape hgr.output hgr.size (fun b hb _ => hgr.block b hb (by simp)) (.inl (jA _)) (by simpa using hne') (by simpa using k4) (by simpa using k5) (fun o u h => ?_) (by simp) .nil
      have := World.block_lt_of_cell? w _ (g.conc.mem _ o u h); simp at this
  rcases ha with ⟨he, hz, hv0⟩ | ⟨he, hz, q, hv0⟩ | ⟨hne, hax, h⟩
  · exact none0 none he hv0 (.nil (by rw [hz]; simp))
  · exact none0 (some q) he hv0 (.emp (by rw [hz]; simp))
  · rw [hax] at h
    obtain ⟨b', off, c', xs, e1, hc, hlen, hxs, hcx⟩ := sl_flat h hne (by omega)
    injection e1 with e1 e2 e3; injection e1 with e1; injection e1 with e1 e4; subst e4 e3
    have hnm : ¬ (AO.tip e sz es.length).empty := fun h => hne (List.eq_nil_of_length_eq_zero h)
    obtain ⟨b1, n1, p1, us, u1, u2, u3, u4⟩ := g.conc.obj (.l d) _ hL1 hnm
    have p1 : some (c.lam d) = some (b1, n1) := p1
    injection p1 with p1
    have hxl : xs.length = es.length * sz := by rw [← hxs.1, flat_length es hlen]
    rw [p1] at e1 hax hc
    simp only at e1 hax hc
    subst e1
    have hcw : ∀ (j : Nat) (u : Value), xs[j]? = some u → us.toList[j]? = some u := fun j u hu => by
      have := g.conc.mem _ _ _ (hcx j u hu)
      simpa [World.cell?, u1] using this
    have hown : w.ownsRow 0 e sz (.slice (some ⟨b1, 0, none⟩) es.length n1) es.length xs := by
      refine ⟨hxl, .inr ⟨b1, n1, us, rfl, qZ _, u1, hc, u3, u2, ?_⟩⟩
      apply List.ext_getElem?
      intro j
      rw [List.getElem?_take]
      split
      · rename_i hj
        rw [← hxl] at hj
        rw [qF hj]
        exact hcw j _ (qF hj)
      · rename_i hj
        rw [List.getElem?_eq_none (by omega)]
    obtain ⟨v', w', h1, h2, h3, h5⟩ := app_run (P := P) w ty o.type _ _ _ hown ad es'.length cp cs hcl hcells (reps_one hr) hb.1 hb.2
    have hv' : v' ≠ .slice none 0 0 := fun e => by have := (h5.1 e).1; cases this
    obtain ⟨g1, cap1, cur, rfl, k1, k2, k3, k4, k5⟩ := own_cells h2 hv'
    have gr : ((g1 = b1 ∧ w.grownBy w' (some b1)) ∨ (g1 = w.heap.size ∧ w.grownBy w' none)) := by
      rcases h3 with ⟨h4, h6⟩ | ⟨h4, h6⟩
      · simp [Value.ownBlock] at h4 h6; exact .inl ⟨h4, h6⟩
      · simp [Value.ownBlock] at h4 h6; exact .inr ⟨h4, h6⟩
    have holdb : ∀ q u, c.μ b1 q = some u → xs[q]? = some u := fun q u hq => by
      have hlt : q < es.length * sz := by
        rcases Nat.lt_or_ge q (es.length * sz) with h | h
        · exact h
        · rw [u4 q h] at hq; cases hq
      rw [← hxl] at hlt
      have := hcx q _ (qF hlt)
      rw [Nat.zero_add, hq] at this
      rw [qF hlt]; exact this.symm
    rcases gr with ⟨rfl, q3⟩ | ⟨rfl, q3⟩
    · exact fin w' g1 cap1 xs (by simp [execOp, ho, hax, hv, resolve, invoke, builtin, h1]) q3.os q3.tape q3.output q3.size (fun b2 hb2 hb3 => q3.block b2 hb2 (by simpa using hb3)) (.inr ⟨_, hL1, hnm, by rw [p1]⟩) (by simp [hne]) (by simpa using k4) k5 holdb hlen hxs
    · exact fin w' w.heap.size cap1 xs (by simp [execOp, ho, hax, hv, resolve, invoke, builtin, h1]) q3.os q3.tape q3.output q3.size (fun b2 hb2 hb3 => q3.block b2 hb2 (by simp)) (.inl (jA _)) (by simp [hne]) (by simpa using k4) k5 (fun q u hq => by
        have := World.block_lt_of_cell? w _ (g.conc.mem _ q u hq); simp at this) hlen hxs
end
section
variable {P : Program} {o : Oper} {n d : Nat} {t : Nat → X} {L : Nat → Option AO} {H : Heap}
theorem b_app0 {x y : Operand} {tt e : TypeId} {k sz bytes : Nat} {z : Nz} {es : List (List T)} (ho : o.op = .call { callee := .builtin .append, args := #[x, y], argTypes := #[tt, tt] }) (ty : elB P tt e sz bytes = true) (hx : S.eval ⟨n, t, L, H⟩ x = .c (.a (.ts k z sz []))) (hy : srcX (S.eval ⟨n, t, L, H⟩ y) = some (es, sz)) (hb : es.length * bytes ≤ 140737488355328 ∧ es.length ≤ 9223372036854775807)
    (hdst : o.dst = some d) (hL : L d = none) (hd : Nat.blt d n = true) :
    LR P o (.b d :: lk o) [.t d, .b d] ⟨n, t, L, H⟩ ⟨n, upd t d (.lts d z sz es), upd L d (some (.tip e sz es.length)), H⟩ := l_app0 ho ty hx hy hb hdst hL (inb' hdst hd)
theorem b_app {x y : Operand} {tt e : TypeId} {sz bytes b : Nat} {z : Nz} {es es' r : List (List T)} (ho : o.op = .call { callee := .builtin .append, args := #[x, y], argTypes := #[tt, tt] }) (ty : elB P tt e sz bytes = true) (hx : S.eval ⟨n, t, L, H⟩ x = .lts b z sz es) (hL : L b = some (.tip e sz es.length)) (hy : srcX (S.eval ⟨n, t, L, H⟩ y) = some (es', sz)) (hr : es ++ es' = r) (hb : r.length * bytes ≤ 140737488355328 ∧ r.length ≤ 9223372036854775807)
    (hdst : o.dst = some d) (hd : Nat.blt d n = true) :
    LR P o (.b b :: lk o) [.t d, .b b] ⟨n, t, L, H⟩ ⟨n, upd t d (.c (.a (.t (.sl z sz r)))), upd L b (some (.tip e sz 0)), H⟩ := by
  subst hr
  exact l_app ho ty hx hL hy (by rw [qG] at hb; exact hb) hdst (inb' hdst hd)
theorem SeqK.xw {all : Array Oper} {K : S → Prop} {rest : List Oper} (i : Nat) {x y : X} (hi : t i = x) (h : XW x y) (k : SeqK P all K (o :: rest) ⟨n, upd t i y, L, H⟩) : SeqK P all K (o :: rest) ⟨n, t, L, H⟩ := OpW.wk (.xw i hi h) k
end
section
variable {P : Program} {all : Array Oper} {o : Oper} {s : S} {K : S → Prop} {rest : List Oper} {n d : Nat} {t : Nat → X} {L : Nat → Option AO} {H : Heap}
def fnX : X → Option (FuncId × List A)
  | .c (.a (.fn f cs)) => some (f, cs)
  | .c (.a (.t (.v (.func (.func f) fs vs)))) => if fs.size = 0 ∧ vs.size = 0 then some (f, []) else none
  | _ => none
theorem fn_rep {c : Ctx} {x : X} {v : Value} {f : FuncId} {cs : List A} (h : RepX c x v) (hf : fnX x = some (f, cs)) : ∃ vs : Array Value, v = .func (.func f) #[] vs ∧ Reps (RepC c.μ c.β) (cs.map C.a) vs.toList := by
  unfold fnX at hf
  split at hf
  · cases hf
    have h : RepA c.μ c.β (.fn f cs) v := h
    cases h with
    | @fn _ _ vs u hv h9 =>
      refine ⟨vs, rfl, by rw [hv]; simp, fun i x v h1 h2 => ?_⟩
      rw [qR] at h1
      obtain ⟨y, hy, rfl⟩ := Option.map_eq_some_iff.1 h1
      have hi : i < cs.length := (List.getElem?_eq_some_iff.1 hy).1
      have : v = u i := by rw [hv, qR, List.getElem?_range hi] at h2; simpa using h2.symm
      subst this
      exact h9 i y hy
  · split at hf
    · rename_i fs vs hs
      cases hf
      have := rep_tv h
      subst this
      have e1 : fs = #[] := Array.eq_empty_of_size_eq_zero hs.1
      have e2 : vs = #[] := Array.eq_empty_of_size_eq_zero hs.2
      subst e1 e2
      exact ⟨#[], rfl, .nil⟩
    · cases hf
  · cases hf
theorem callV_wp {z : Operand} {f : FuncId} {cs : List A} {ys : Array Operand} {ts : Array TypeId} {args : List C} {Q : X → Heap → Prop} {c : Ctx} {a : Act} {w : World} (g : Sat c s a w) (ho : o.op = .call { callee := .value z, args := ys, argTypes := ts }) (hz : fnX (s.eval z) = some (f, cs)) (hf : fnB P f = true) (ha : argsX s ys.toList = some args) (h : Spec P f (args ++ cs.map C.a) s.H Q) (hl : ∀ x H', Q x H' → x.loc = none) (hd : inB o.dst s.n = true) :
    o.wp P a w (fun a' w' => ∃ x H' c', Q x H' ∧ Sat c' ((⟨s.n, s.t, s.L, H'⟩ : S).put o.dst x) a' w' ∧ Ext c s.own w c' ((⟨s.n, s.t, s.L, H'⟩ : S).put o.dst x).own w') (fun _ _ _ => False) := by
  have hr : Reps (RepC c.μ c.β) args (ys.map a.eval).toList := by
    have := args_rep (c := c) (f := a.eval) ha fun y _ => g.eval y
    simpa using this
  obtain ⟨vs, hv, hvs⟩ := fn_rep (g.eval z) hz
  have hc : Conc c (ownH s.H) w := g.conc.sub fun i x h => by cases i with
    | e k => exact h
    | l d => cases h
  have hcall := h c w (ys.map a.eval ++ vs) hc (by rw [Array.toList_append]; exact hr.append hvs)
  have hrun : (execOp a.eval o).run P w = .ok (.enter f (ys.map a.eval ++ vs)) w := by
    simp [execOp, ho, resolve, hv, Deferred.ofValue, invoke, enter_run hf]
  unfold Oper.wp
  rw [hrun, Oper.upon_enter]
  refine hcall.mono ?_
  rintro e w' ⟨v, y, H', c', rfl, hq, hrx, hc', hx'⟩
  obtain ⟨g', x'⟩ := g.call hc' hx'
  exact ⟨y, H', _, hq, g'.put o.dst hd (hrx.relam (hl y H' hq)) (fun d e => by rw [hl y H' hq] at e; cases e), by rw [own_put]; exact x'⟩
end
abbrev rowE {α : Type} (F : α → List T) (l : List α) : List A := (l.map F).flatten.map .t
section
variable {α : Type} {F : α → List T} {sz : Nat}
theorem rowE_len (hF : ∀ x, (F x).length = sz) (l : List α) : (rowE F l).length = l.length * sz := by
  rw [qA, flat_length (sz := sz) _ (fun e he => by obtain ⟨x, _, rfl⟩ := jE.1 he; exact hF x), qA]
theorem rowE_app (a b : List α) : rowE F (a ++ b) = rowE F a ++ rowE F b := by simp [rowE]
theorem rowE_cons (x : α) (l : List α) : rowE F (x :: l) = (F x).map .t ++ rowE F l := by simp [rowE]
theorem rowE_split {l : List α} {i : Nat} (hi : i < l.length) : rowE F l = rowE F (l.take i) ++ (F l[i]).map .t ++ rowE F (l.drop (i + 1)) := by
  conv => lhs; rw [← List.take_append_drop i l, qH hi]
  rw [rowE_app, rowE_cons, qO]
theorem mid_ld {α : Type} {P M Q : List α} {p f m : Nat} (hP : P.length = p) (hf : f + m ≤ M.length) : ((P ++ M ++ Q).drop (p + f)).take m = (M.drop f).take m := by
  subst hP
  rw [qO, List.drop_append, qW (by omega), List.nil_append, show P.length + f - P.length = f by omega, List.drop_append_of_le_length (by omega), List.take_append_of_le_length (by simp; omega)]
theorem mid_st {α : Type} {P M Q v : List α} {p f : Nat} (hP : P.length = p) (hf : f + v.length ≤ M.length) : splice (P ++ M ++ Q) (p + f) v = P ++ splice M f v ++ Q := by
  subst hP
  unfold splice
  have h1 : (P ++ M ++ Q).take (P.length + f) = P ++ M.take f := by
    rw [qO, List.take_append, qU (by omega), show P.length + f - P.length = f by omega, List.take_append_of_le_length (by omega)]
  have h2 : (P ++ M ++ Q).drop (P.length + f + v.length) = M.drop (f + v.length) ++ Q := by
    rw [qO, List.drop_append, qW (by omega), List.nil_append, show P.length + f + v.length - P.length = f + v.length by omega, List.drop_append_of_le_length (by omega)]
  rw [h1, h2]; simp [qO]
theorem rowE_take (hF : ∀ x, (F x).length = sz) {l : List α} {i : Nat} (hi : i < l.length) : (rowE F (l.take i)).length = 0 + i * sz := by
  rw [rowE_len hF, List.length_take, Nat.min_eq_left (by omega), Nat.zero_add]
theorem row_load (hF : ∀ x, (F x).length = sz) {l : List α} {i : Nat} (hi : i < l.length) : ((rowE F l).drop (0 + i * sz)).take sz = (F l[i]).map .t := by
  rw [rowE_split hi]
  have := mid_ld (M := (F l[i]).map A.t) (Q := rowE F (l.drop (i + 1))) (rowE_take hF hi) (f := 0) (m := sz) (by simp [hF])
  rw [Nat.add_zero] at this
  rw [this, List.drop_zero, qU (by simp [hF])]
theorem row_stf (hF : ∀ x, (F x).length = sz) {l : List α} {i f : Nat} {v : List A} (hi : i < l.length) (hf : f + v.length ≤ sz) (x : α) (hx : splice ((F l[i]).map .t) f v = (F x).map .t) : splice (rowE F l) (0 + i * sz + f) v = rowE F (l.set i x) := by
  have h1 : rowE F (l.set i x) = rowE F (l.take i) ++ (F x).map .t ++ rowE F (l.drop (i + 1)) := by
    rw [rowE_split (l := l.set i x) (i := i) (by simpa using hi)]
    simp [List.take_set_of_le, List.drop_set_of_lt]
  rw [h1, rowE_split hi, mid_st (rowE_take hF hi) (by simp [hF]; exact hf), hx]
theorem row_in (hF : ∀ x, (F x).length = sz) {l : List α} {i f m : Nat} (hi : i < l.length) (hf : f + m ≤ sz) : 0 + i * sz + f + m ≤ (rowE F l).length := by
  rw [rowE_len hF]
  have : (i + 1) * sz ≤ l.length * sz := Nat.mul_le_mul_right _ hi
  rw [Nat.add_mul] at this; omega
theorem row_in0 (hF : ∀ x, (F x).length = sz) {l : List α} {i : Nat} (hi : i < l.length) : 0 + i * sz + sz ≤ (rowE F l).length := by
  have := row_in hF hi (f := 0) (m := sz) (by omega)
  omega
end
section
variable {P : Program} {all : Array Oper} {o : Oper} {s : S} {K : S → Prop} {rest : List Oper} {n d : Nat} {t : Nat → X} {L : Nat → Option AO} {H : Heap}
theorem OpW.appZR {x y : Operand} {tt e : TypeId} {k sz bytes : Nat} {z : Nz} {es : List (List T)} (hg : o.guard = none) (ho : o.op = .call { callee := .builtin .append, args := #[x, y], argTypes := #[tt, tt] }) (ty : elB P tt e sz bytes = true) (hx : S.eval ⟨n, t, L, H⟩ x = .c (.a (.ts k z sz []))) (hy : srcX (S.eval ⟨n, t, L, H⟩ y) = some (es, sz)) (hb : es.length * bytes ≤ 140737488355328 ∧ es.length ≤ 9223372036854775807) (hdst : o.dst = some d) (hd : Nat.blt d n = true)
    (hk : ∀ k', H k' = none → K ⟨n, upd t d (.c (.a (.os k' 0 es.length sz))), L, upd H k' (some (.row e sz (es.flatten.map .t)))⟩) : OpW P all o K ⟨n, t, L, H⟩ := by
  intro c a w g
  unfold opRun
  rw [if_pos (by simp [Region.wanted, hg])]
  refine wp_to ?_
  obtain ⟨i, zz, g1, g2, g3, g4, g5, g6, g7⟩ := elB_get ty
  obtain ⟨b0, ha⟩ : ∃ b0, a.eval x = .slice b0 0 0 := by
    have ha := g.eval x
    rw [hx] at ha
    generalize a.eval x = v at ha
    cases ha with
    | ts0 => exact ⟨none, rfl⟩
    | tsE => exact ⟨some _, rfl⟩
    | ts hk hne => exact absurd rfl hne
  obtain ⟨ad, m, cp, hv, rfl, cs, hcl, hel, hr, hcs⟩ := src_cells (by omega) (src_rep (g.eval y) hy)
  rcases app0_run (P := P) w ty o.type b0 ad es.length cp cs hcl (fun j u hu => by
    obtain ⟨b, off, h, hc⟩ := hcs j u hu
    exact ⟨b, off, h, g.conc.mem _ _ _ hc⟩) (reps_one hr) hb.1 hb.2 with ⟨h0, hrun⟩ | ⟨h0, cap, w', hrun, hown, hgr⟩
  · have he : es = [] := List.eq_nil_of_length_eq_zero h0
    subst he
    simp only [qQ] at hrun
    obtain ⟨k', q1, q3, q4⟩ := g.add0 (x := .row e sz (([] : List (List T)).flatten.map .t)) rfl
    have hrun' : (execOp a.eval o).run P w = .ok (.value (.slice b0 0 0)) w := by simp [execOp, ho, ha, hv, resolve, invoke, builtin, hrun]
    unfold Oper.wp
    rw [hrun']
    refine ⟨_, c, hk k' q1, ?_, q4⟩
    have := q3.put (some d) (x := .c (.a (.os k' 0 ([] : List (List T)).length sz))) (v := .slice b0 0 0) (jH (inb hd)) .os0 (fun _ h => by cases h)
    rw [hdst]; exact this
  · have hne : es ≠ [] := fun h => h0 (by rw [h]; rfl)
    obtain ⟨g0, cap1, cur, e1, k1, k2, k3, k4, k5⟩ := own_cells hown (by simp)
    injection e1 with e1 _ e2; injection e1 with e1; injection e1 with e1; subst e1 e2
    have hblk : ∀ b, b < w.heap.size → w'.heap[b]? = w.heap[b]? := fun b hb => hgr.block b hb (by simp)
    have hrun' : (execOp a.eval o).run P w = .ok (.value (.slice (some ⟨w.heap.size, 0, none⟩) es.length cap)) w' := by simp [execOp, ho, ha, hv, resolve, invoke, builtin, hrun]
    have mk := Mk.grew g.memOk hgr.os hgr.tape hgr.output hgr.size hblk
    have hfl : (es.flatten.map A.t).length = cs.length := by rw [qA]; exact hr.1
    obtain ⟨k', q1, _, q3, q4⟩ := g.newE (x := .row e sz (es.flatten.map .t)) (b := w.heap.size) (n := cap) mk (jA _) ⟨cur, k1, k2, k3, ⟨by
      have hle : cs.length ≤ cur.size := by rw [k2, hcl]; exact Nat.mul_le_mul_right _ k4
      rw [List.length_take, hfl]; simp; omega, fun j q u hj hu => by
      rw [List.getElem?_take] at hu
      split at hu
      · rename_i hlt
        rw [hfl] at hlt
        have h8 := k5 j cs[j] (qF hlt)
        unfold World.cell? at h8
        rw [k1] at h8
        have h9 : u = cs[j] := by simp at h8 hu; rw [h8] at hu; injection hu with hu; exact hu.symm
        rw [qR] at hj
        obtain ⟨q', hq', rfl⟩ := Option.map_eq_some_iff.1 hj
        rw [h9]
        exact .t (hr.2 j q' _ hq' (qF hlt))
      · cases hu⟩, fun q => by
      cases hz : c.μ w.heap.size q with
      | none => rfl
      | some u => have := World.block_lt_of_cell? w _ (g.conc.mem _ q u hz); simp at this⟩
    unfold Oper.wp
    rw [hrun']
    refine ⟨_, _, hk k' q1, ?_, q4⟩
    have := q3.put (some d) (x := .c (.a (.os k' 0 es.length sz))) (v := .slice (some ⟨w.heap.size, 0, none⟩) es.length cap) (jH (inb hd)) (.os (upd_same _ _ _) (by omega)) (fun _ h => by cases h)
    rw [hdst]; exact this
theorem SeqK.appZR {x y : Operand} {tt e : TypeId} {k sz bytes : Nat} {z : Nz} {es : List (List T)} (hg : o.guard = none) (ho : o.op = .call { callee := .builtin .append, args := #[x, y], argTypes := #[tt, tt] }) (ty : elB P tt e sz bytes = true) (hx : S.eval ⟨n, t, L, H⟩ x = .c (.a (.ts k z sz []))) (hy : srcX (S.eval ⟨n, t, L, H⟩ y) = some (es, sz)) (hb : es.length * bytes ≤ 140737488355328 ∧ es.length ≤ 9223372036854775807) (hdst : o.dst = some d) (hd : Nat.blt d n = true)
    (hk : ∀ k', H k' = none → SeqK P all K rest ⟨n, upd t d (.c (.a (.os k' 0 es.length sz))), L, upd H k' (some (.row e sz (es.flatten.map .t)))⟩) : SeqK P all K (o :: rest) ⟨n, t, L, H⟩ := OpW.appZR hg ho ty hx hy hb hdst hd hk
end
theorem SeqK.eqlNZ {P : Program} {all : Array Oper} {K : S → Prop} {rest : List Oper} {o : Oper} {n d : Nat} {t : Nat → X} {L : Nat → Option AO} {H : Heap} {tt u : TypeId} {x y : Operand} {z : Nz} {sz : Nat} {es : List (List T)} (ho : o.op = .binOp .eql tt x y u) (hg : o.guard = none) (hdst : o.dst = some d) (hd : Nat.blt d n = true) (hx : S.eval ⟨n, t, L, H⟩ x = .c (.a (.t (.sl z sz es)))) (hy : nilT (S.eval ⟨n, t, L, H⟩ y) = some (.sl, true)) (ty : nkB P tt .sl = true)
    (k : ∀ b, (b = true → es = []) → (z = .ne → es = [] → b = true) → SeqK P all K rest ⟨n, upd t d (bX b), L, H⟩) : SeqK P all K (o :: rest) ⟨n, t, L, H⟩ := by
  intro c a w g
  unfold opRun
  rw [if_pos (by simp [Region.wanted, hg])]
  refine wp_to ?_
  have ha := g.eval x
  rw [hx] at ha
  have hb := nilT_rep (g.eval y) hy
  obtain ⟨b, hv, he, he2⟩ : ∃ b, NV .sl b (a.eval x) ∧ (b = true → es = []) ∧ (z = .ne → es = [] → b = true) := by
    generalize a.eval x = v at ha
    cases ha with | t ha =>
    cases ha with
    | nil h => exact ⟨true, ⟨_, _, rfl⟩, (fun _ => rfl), (fun _ _ => rfl)⟩
    | emp h => exact ⟨false, ⟨_, _, _, rfl⟩, (fun h => by cases h), (fun e => absurd e h)⟩
    | sl u ne => exact ⟨false, ⟨_, _, _, rfl⟩, (fun h => by cases h), (fun _ e => absurd e ne)⟩
  have hrun : (execOp a.eval o).run P w = .ok (.value (.bool b)) w := by
    simp only [execOp, ho, Sem.run_bind, nil_guard hv, Result.andThen_ok, (nil_bin ty hv hb w).1]; rfl
  unfold Oper.wp
  rw [hrun]
  refine ⟨_, c, k b he he2, ?_, .refl _ _ _⟩
  have := g.put (some d) (x := bX b) (v := .bool b) (by have h9 := inb' (o := o) hdst hd; rw [hdst] at h9; exact h9) (tv_rep rfl) (fun _ h => by cases h)
  rw [hdst]; exact this
def NOp (P : Program) (all : Array Oper) (o : Oper) (R W : List Loc) (s : S) (K : S → Prop) : Prop :=
  ∀ s1, Len s1 s → (∀ ℓ, ℓ ∈ R → Same ℓ s1 s) → OpW P all o (fun s2 => ∃ s', Len s' s ∧ (∀ ℓ, ℓ ∉ W → Same ℓ s' s) ∧ s2 = s1.over W s' ∧ K s') s1
abbrev Hi := Nat × Fp
def okO (all : Array Oper) (hs : List Hi) : Bool :=
  (List.range hs.length).all fun j => (List.range j).all fun i => !conflict (hs.getD i default).2 (hs.getD j default).2 || reach all 8 (hs.getD j default).1 (hs.getD i default).1
def aheadO (all : Array Oper) (dn : List Nat) (j : Nat) : Bool := (all.getD j default).after.all fun e => !Region.binds .any e || dn.contains e.on
def okX (all : Array Oper) (j : Nat) (rest : List Nat) : Bool := rest.all fun i => reach all 8 i j
def LexO (P : Program) (all : Array Oper) (K : S → Prop) : List Nat → S → List Hi → Prop
  | [], s, hs => okO all hs = true ∧ K s
  | j :: rest, s, hs => aheadO all (hs.map (·.1)) j = true ∧ ∃ o, all[j]? = some o ∧
      ((∃ R W s', LOp P all o R W s s' ∧ LexO P all K rest s' (hs ++ [(j, (R, W))])) ∨
       (okX all j rest = true ∧ ∃ R W, okO all (hs ++ [(j, (R, W))]) = true ∧ NOp P all o R W s fun s' => LexO P all K rest s' (hs ++ [(j, (R, W))])))
section
variable {P : Program} {all : Array Oper} {K : S → Prop}
def standO (hs : List Hi) (sq : Nat → S) (Lm : Array Bool) : Nat → S
  | 0 => sq 0
  | i + 1 => if Lm.getD (hs.getD i default).1 false = true then (standO hs sq Lm i).over (hs.getD i default).2.2 (sq (i + 1)) else standO hs sq Lm i
structure StepO (P : Program) (all : Array Oper) (hs : List Hi) (sq : Nat → S) (Lm : Array Bool) (i : Nat) : Prop where
  len : Len (sq (i + 1)) (sq i)
  out : ∀ ℓ, ℓ ∉ (hs.getD i default).2.2 → Same ℓ (sq (i + 1)) (sq i)
  run : Lm.getD (hs.getD i default).1 false = true ∨ ∃ o, all[(hs.getD i default).1]? = some o ∧ LOp P all o (hs.getD i default).2.1 (hs.getD i default).2.2 (sq i) (sq (i + 1))
variable {hs : List Hi} {sq : Nat → S} {Lm : Array Bool}
theorem standO_len : ∀ k, Len (standO hs sq Lm k) (sq 0)
  | 0 => rfl
  | k + 1 => by
    simp only [standO]
    split
    · exact (over_len (hs.getD k default).2.2 (standO hs sq Lm k) (sq (k + 1))).trans (standO_len k)
    · exact standO_len k
theorem sqO_len (hL : ∀ i, i < hs.length → StepO P all hs sq Lm i) : ∀ k, k ≤ hs.length → Len (sq k) (sq 0)
  | 0, _ => rfl
  | k + 1, h => (hL k (by omega)).len.trans (sqO_len hL k (by omega))
theorem standO_same (hL : ∀ i, i < hs.length → StepO P all hs sq Lm i) {ℓ : Loc} :
    ∀ k, k ≤ hs.length → (∀ i, i < k → ℓ ∈ (hs.getD i default).2.2 → Lm.getD (hs.getD i default).1 false = true) → Same ℓ (standO hs sq Lm k) (sq k)
  | 0, _, _ => .refl _ _
  | k + 1, hk, h => by
    have ho := hL k (by omega)
    simp only [standO]
    by_cases hw : ℓ ∈ (hs.getD k default).2.2
    · rw [if_pos (h k (by omega) hw)]
      exact over_in hw
    · have ih := standO_same hL k (by omega) (fun i hi => h i (by omega)) (ℓ := ℓ)
      split
      · exact (over_out hw).trans (ih.trans (ho.out ℓ hw).symm)
      · exact ih.trans (ho.out ℓ hw).symm
theorem standO_later {ℓ : Loc} {j : Nat} : ∀ k, j ≤ k → (∀ i, j ≤ i → i < k → ℓ ∈ (hs.getD i default).2.2 → Lm.getD (hs.getD i default).1 false = false) → Same ℓ (standO hs sq Lm k) (standO hs sq Lm j)
  | 0, hk, h => by obtain rfl : j = 0 := by omega
                   exact .refl _ _
  | k + 1, hk, h => by
    by_cases e : j = k + 1
    · subst e; exact .refl _ _
    · simp only [standO]
      have ih := standO_later (ℓ := ℓ) (j := j) k (by omega) (fun i h1 h2 => h i h1 (by omega))
      split
      · rename_i hl
        refine (over_out fun hw => ?_).trans ih
        rw [h k (by omega) (by omega) hw] at hl; cases hl
      · exact ih
theorem okO_at (h : okO all hs = true) {j : Nat} (hj : j < hs.length) : ∀ i, i < j → conflict (hs.getD i default).2 (hs.getD j default).2 = false ∨ reach all 8 (hs.getD j default).1 (hs.getD i default).1 = true := by
  simp only [okO, List.all_eq_true, List.mem_range, Bool.or_eq_true, Bool.not_eq_true'] at h
  exact h j hj
def Aheads (all : Array Oper) (hs : List Hi) : Prop := ∀ k, k < hs.length → aheadO all ((hs.take k).map (·.1)) (hs.getD k default).1 = true
def EndO (P : Program) (all : Array Oper) (K : S → Prop) (hs : List Hi) (rest : List Nat) (s : S) : Prop :=
  (rest = [] ∧ okO all hs = true ∧ K s) ∨ ∃ j r o R W, rest = j :: r ∧ aheadO all (hs.map (·.1)) j = true ∧ all[j]? = some o ∧ okX all j r = true ∧ okO all (hs ++ [(j, (R, W))]) = true ∧ NOp P all o R W s fun s' => LexO P all K r s' (hs ++ [(j, (R, W))])
theorem getD_app1 {t : List Hi} {i : Nat} (h : i < hs.length) : (hs ++ t).getD i default = hs.getD i default := by
  rw [qI, qI, List.getElem?_append_left h]
theorem getD_app2 {x : Hi} : (hs ++ [x]).getD hs.length default = x := by
  rw [qI, List.getElem?_append_right (jA _)]; simp
theorem StepO.app {t : List Hi} {sq' : Nat → S} {i : Nat} (h : StepO P all hs sq Lm i) (hi : i < hs.length) (h1 : sq' i = sq i) (h2 : sq' (i + 1) = sq (i + 1)) : StepO P all (hs ++ t) sq' Lm i := by
  obtain ⟨a, b, c⟩ := h
  rw [← h1, ← h2] at a
  refine ⟨a, ?_, ?_⟩
  · rw [getD_app1 hi, h1, h2]; exact b
  · rw [getD_app1 hi, h1, h2]; exact c
theorem Aheads.snoc (h : Aheads all hs) {x : Hi} (hx : aheadO all (hs.map (·.1)) x.1 = true) : Aheads all (hs ++ [x]) := fun k hk => by
  by_cases e : k < hs.length
  · rw [getD_app1 e, List.take_append_of_le_length (by omega)]; exact h k e
  · have : k = hs.length := by simp at hk; omega
    subst this
    rw [getD_app2, List.take_append_of_le_length (jA _), qT]; exact hx
theorem LexO.ext : ∀ (rest : List Nat) (hs : List Hi) (sq : Nat → S), LexO P all K rest (sq hs.length) hs → (∀ i, i < hs.length → StepO P all hs sq Lm i) → Aheads all hs →
    ∃ (t : List Hi) (sq' : Nat → S) (rest' : List Nat), rest = t.map (·.1) ++ rest' ∧ (∀ i, i ≤ hs.length → sq' i = sq i) ∧ (∀ i, i < (hs ++ t).length → StepO P all (hs ++ t) sq' Lm i) ∧ Aheads all (hs ++ t) ∧ EndO P all K (hs ++ t) rest' (sq' (hs ++ t).length)
  | [], hs, sq, h, hL, ha => ⟨[], sq, [], rfl, fun _ _ => rfl, by simpa using hL, by simpa using ha, .inl ⟨rfl, by simpa using h.1, by simpa using h.2⟩⟩
  | j :: rest, hs, sq, h, hL, ha => by
    obtain ⟨h1, o, ho, ⟨R, W, s', hop, k⟩ | ⟨hx, R, W, hok, hn⟩⟩ := h
    · let sq1 : Nat → S := fun i => if i ≤ hs.length then sq i else s'
      have e1 : ∀ i, i ≤ hs.length → sq1 i = sq i := fun i hi => if_pos hi
      have e2 : sq1 (hs.length + 1) = s' := if_neg (by omega)
      have hlen : (hs ++ [(j, (R, W))]).length = hs.length + 1 := by simp
      have hL1 : ∀ i, i < (hs ++ [(j, (R, W))]).length → StepO P all (hs ++ [(j, (R, W))]) sq1 Lm i := fun i hi => by
        by_cases e : i < hs.length
        · exact (hL i e).app e (e1 i (by omega)) (e1 (i + 1) (by omega))
        · have : i = hs.length := by omega
          subst this
          refine ⟨?_, ?_, .inr ⟨o, ?_, ?_⟩⟩
          · rw [e2, e1 _ (jA _)]; exact hop.len
          · rw [getD_app2, e2, e1 _ (jA _)]; exact hop.out
          · rw [getD_app2]; exact ho
          · rw [getD_app2, e2, e1 _ (jA _)]; exact hop
      obtain ⟨t, sq', rest', g1, g2, g3, g4, g5⟩ := LexO.ext rest (hs ++ [(j, (R, W))]) sq1 (by rw [hlen, e2]; exact k) hL1 (ha.snoc h1)
      have ea : hs ++ [(j, (R, W))] ++ t = hs ++ ((j, (R, W)) :: t) := by simp
      rw [ea] at g3 g4 g5
      exact ⟨(j, (R, W)) :: t, sq', rest', by rw [g1]; rfl, fun i hi => (g2 i (by rw [hlen]; omega)).trans (e1 i hi), g3, g4, g5⟩
    · exact ⟨[], sq, j :: rest, rfl, fun _ _ => rfl, by simpa using hL, by simpa using ha, .inr ⟨j, rest, o, R, W, rfl, by simpa using h1, ho, hx, by simpa using hok, by simpa using hn⟩⟩
theorem hi_at {hs : List Hi} {i : Nat} (h : i < hs.length) : (hs.getD i default).1 ∈ hs.map (·.1) := by
  rw [qI, qF h]; exact jE.2 ⟨_, qC h, rfl⟩
theorem okO_pre {x : Hi} (h : okO all (hs ++ [x]) = true) {j : Nat} (hj : j < hs.length) : ∀ i, i < j → conflict (hs.getD i default).2 (hs.getD j default).2 = false ∨ reach all 8 (hs.getD j default).1 (hs.getD i default).1 = true := fun i hi => by
  have := okO_at h (j := j) (by simp; omega) i hi
  rwa [getD_app1 hj, getD_app1 (by omega)] at this
theorem EndO.ok {rest : List Nat} {s : S} (h : EndO P all K hs rest s) {j : Nat} (hj : j < hs.length) : ∀ i, i < j → conflict (hs.getD i default).2 (hs.getD j default).2 = false ∨ reach all 8 (hs.getD j default).1 (hs.getD i default).1 = true := by
  rcases h with ⟨_, h, _⟩ | ⟨j', r, o, R, W, _, _, _, _, h, _⟩
  · exact okO_at h hj
  · exact okO_pre h hj
theorem hi_inj {hs : List Hi} {rest : List Nat} (h : (hs.map (·.1) ++ rest).Nodup) {i k : Nat} (hi : i < hs.length) (hk : k < hs.length) (hne : i ≠ k) : (hs.getD i default).1 ≠ (hs.getD k default).1 := fun e => by
  have h1 := (List.nodup_append.1 h).1
  have h2 := List.pairwise_iff_getElem.1 h1
  rw [qI, qF hi, qI, qF hk] at e
  rcases Nat.lt_or_gt_of_ne hne with h3 | h3
  · exact h2 i k (by simpa using hi) (by simpa using hk) h3 (by simpa using e)
  · exact h2 k i (by simpa using hk) (by simpa using hi) h3 (by simpa using e.symm)
theorem standO_read {rest : List Nat} {s : S} {q : Nat} {R : List Loc} (hq : q ≤ hs.length) (hL : ∀ i, i < hs.length → StepO P all hs sq Lm i)
    (hbefore : ∀ i, i < q → ∀ ℓ, ℓ ∈ (hs.getD i default).2.2 → ℓ ∈ R → Lm.getD (hs.getD i default).1 false = true)
    (hlater : ∀ i, q ≤ i → i < hs.length → Lm.getD (hs.getD i default).1 false = true → ∀ ℓ, ℓ ∈ R → ℓ ∉ (hs.getD i default).2.2) :
    ∀ ℓ, ℓ ∈ R → Same ℓ (standO hs sq Lm hs.length) (sq q) := fun ℓ hℓ =>
  (standO_later (j := q) hs.length hq fun i h1 h2 hw => by
    cases h3 : Lm.getD (hs.getD i default).1 false with
    | false => rfl
    | true => exact absurd hw (hlater i h1 h2 h3 ℓ hℓ)).trans (standO_same hL q hq fun i hi hw => hbefore i hi ℓ hw hℓ)
theorem standO_set {rest : List Nat} (hnd : (hs.map (·.1) ++ rest).Nodup) {q : Nat} (hq : q < hs.length) (hsz : (hs.getD q default).1 < Lm.size) (hL : ∀ i, i < hs.length → StepO P all hs sq Lm i) (hun : Lm.getD (hs.getD q default).1 false = false)
    (hbefore : ∀ i, i < q → ∀ ℓ, ℓ ∈ (hs.getD i default).2.2 → ℓ ∈ (hs.getD q default).2.2 → Lm.getD (hs.getD i default).1 false = true)
    (hlater : ∀ i, q < i → i < hs.length → Lm.getD (hs.getD i default).1 false = true → ∀ ℓ, ℓ ∈ (hs.getD q default).2.2 → ℓ ∉ (hs.getD i default).2.2) :
    (standO hs sq Lm hs.length).over (hs.getD q default).2.2 (sq (q + 1)) = standO hs sq (Lm.setIfInBounds (hs.getD q default).1 true) hs.length := by
  have hne : ∀ i, i < hs.length → i ≠ q → (hs.getD q default).1 ≠ (hs.getD i default).1 := fun i hi e => hi_inj hnd hq hi (Ne.symm e)
  have hself : (Lm.setIfInBounds (hs.getD q default).1 true).getD (hs.getD q default).1 false = true := getD_set_self hsz
  have hL1 : ∀ i, i < hs.length → StepO P all hs sq (Lm.setIfInBounds (hs.getD q default).1 true) i := fun i hi => ⟨(hL i hi).len, (hL i hi).out, (hL i hi).run.imp (fun h => getD_set_true h) id⟩
  refine S.ext' ((over_len _ _ _).trans ((standO_len _).trans (standO_len _).symm)) fun ℓ => ?_
  by_cases hw : ℓ ∈ (hs.getD q default).2.2
  · refine (over_in hw).trans ?_
    refine Same.symm ((standO_later (j := q + 1) hs.length (by omega) fun i h1 h2 hwi => ?_).trans (standO_same hL1 (q + 1) (by omega) fun i hi hwi => ?_))
    · rw [getD_set_ne false (hne i h2 (by omega))]
      cases h3 : Lm.getD (hs.getD i default).1 false with
      | false => rfl
      | true => exact absurd hwi (hlater i (by omega) h2 h3 ℓ hw)
    · by_cases hij : i = q
      · subst hij; exact hself
      · exact getD_set_true (hbefore i (by omega) ℓ hwi hw)
  · refine (over_out hw).trans ?_
    have key : ∀ k, k ≤ hs.length → Same ℓ (standO hs sq Lm k) (standO hs sq (Lm.setIfInBounds (hs.getD q default).1 true) k) := by
      intro k
      induction k with
      | zero => intro _; exact .refl _ _
      | succ k ihk =>
        intro hk
        have ihk := ihk (by omega)
        simp only [standO]
        by_cases hkj : k = q
        · subst hkj
          rw [if_neg (by rw [hun]; simp), if_pos hself]
          exact ihk.trans (over_out hw).symm
        · rw [getD_set_ne false (hne k (by omega) hkj)]
          split
          · by_cases hwk : ℓ ∈ (hs.getD k default).2.2
            · exact (over_in hwk).trans (over_in hwk).symm
            · exact (over_out hwk).trans (ihk.trans (over_out hwk).symm)
          · exact ihk
    exact key hs.length (jA _)
theorem standO_grow {t : List Hi} {sq' : Nat → S} {Lm' : Array Bool} (h1 : ∀ i, i ≤ hs.length → sq' i = sq i) (h2 : ∀ i, i < hs.length → Lm'.getD (hs.getD i default).1 false = Lm.getD (hs.getD i default).1 false) : ∀ k, k ≤ hs.length → standO (hs ++ t) sq' Lm' k = standO hs sq Lm k
  | 0, _ => h1 0 (qZ _)
  | k + 1, hk => by
    simp only [standO]
    rw [getD_app1 (by omega), h2 k (by omega), standO_grow h1 h2 k (by omega), h1 (k + 1) hk]
theorem standO_idle {t : List Hi} {sq' : Nat → S} (h : ∀ i, i < t.length → Lm.getD ((hs ++ t).getD (hs.length + i) default).1 false = false) : ∀ k, k ≤ t.length → standO (hs ++ t) sq' Lm (hs.length + k) = standO (hs ++ t) sq' Lm hs.length
  | 0, _ => rfl
  | k + 1, hk => by
    rw [show hs.length + (k + 1) = hs.length + k + 1 by omega]
    simp only [standO]
    rw [h k (by omega), if_neg (by simp), standO_idle h k (by omega)]
theorem ready_iffO {Lm : Array Bool} {j : Nat} (hj : j ∈ Region.ready .any all Lm) : Lm.getD j true = false ∧ ∀ i, waits all j i = true → Lm.getD i false = true := by
  obtain ⟨h0, o, ho, hall⟩ := mem_ready.1 hj
  refine ⟨h0, fun i hi => ?_⟩
  have : all.getD j default = o := by simp [ho]
  unfold waits at hi
  rw [this, Array.any_eq_true] at hi
  obtain ⟨q, hq, hi⟩ := hi
  simp only [jG, beq_iff_eq] at hi
  have := hall _ (Array.getElem_mem hq) hi.1
  rwa [hi.2] at this
theorem ready_ofO {Lm : Array Bool} {n j : Nat} {dn : List Nat} (hn : all.size = n) (hj : j < n) (h0 : Lm.getD j true = false) (ha : aheadO all dn j = true) (hb : ∀ i, i ∈ dn → Lm.getD i false = true) : j ∈ Region.ready .any all Lm := by
  refine mem_ready.2 ⟨h0, all[j]'(by omega), Array.getElem?_eq_getElem (by omega), fun e he hbnd => ?_⟩
  have : all.getD j default = all[j]'(by omega) := by simp [show j < all.size by omega]
  unfold aheadO at ha
  rw [this] at ha
  have h1 := Array.all_eq_true_iff_forall_mem.1 ha e he
  simp only [hbnd, Bool.not_true, Bool.false_or] at h1
  exact hb _ (by simpa using h1)
theorem okO_last {x : Hi} (h : okO all (hs ++ [x]) = true) : ∀ i, i < hs.length → conflict (hs.getD i default).2 x.2 = false ∨ reach all 8 x.1 (hs.getD i default).1 = true := fun i hi => by
  have := okO_at h (j := hs.length) (by simp) i hi
  rwa [getD_app2, getD_app1 hi] at this
theorem getD_mem {hs : List Hi} {j : Nat} (h : j ∈ hs.map (·.1)) : ∃ q, q < hs.length ∧ (hs.getD q default).1 = j := by
  obtain ⟨x, hx, rfl⟩ := jE.1 h
  obtain ⟨q, hq⟩ := List.getElem?_of_mem hx
  exact ⟨q, (List.getElem?_eq_some_iff.1 hq).1, by rw [qI, hq]; rfl⟩
theorem StepO.done {Lm' : Array Bool} {i : Nat} (h : StepO P all hs sq Lm i) (hm : ∀ j, Lm.getD j false = true → Lm'.getD j false = true) : StepO P all hs sq Lm' i := ⟨h.len, h.out, h.run.imp (hm _) id⟩
theorem drawO_key {n : Nat} (hn : all.size = n) {Q' : Exit → Act → World → Prop} {c0 : Ctx} {own0 : Own} {w0 : World}
    (hQ : ∀ s c a w, K s → Sat c s a w → Ext c0 own0 w0 c s.own w → Q' .normal a w) :
    ∀ (fuel : Nat) (Lm : Array Bool) (hs : List Hi) (sq : Nat → S) (rest : List Nat) (c : Ctx) (a : Act) (w : World), Lm.size = n → Lm.toList.count false = fuel → shut all Lm →
      (hs.map (·.1) ++ rest).Nodup → (∀ j, j ∈ hs.map (·.1) ++ rest ↔ j < n) → (∀ i, i < hs.length → StepO P all hs sq Lm i) → Aheads all hs → EndO P all K hs rest (sq hs.length) → (∀ j, j ∈ rest → Lm.getD j false = false) →
      Sat c (standO hs sq Lm hs.length) a w → Ext c0 own0 w0 c (standO hs sq Lm hs.length).own w → wpAnyIn Fence.wide 0 P .any all Q' fuel Lm a w := by
  have getlt : ∀ {Lm : Array Bool} {j : Nat}, Lm.getD j true = false → j < Lm.size := fun {Lm j} h => by
    rcases Nat.lt_or_ge j Lm.size with h' | h'
    · exact h'
    · simp [Array.getElem?_eq_none h'] at h
  have count0 : ∀ {Lm : Array Bool} {j : Nat}, Lm.toList.count false = 0 → Lm.getD j true ≠ false := by
    intro Lm j hc h
    have hj := getlt h
    have hm : false ∈ Lm.toList := by
      have : Lm[j] = false := by simpa [hj] using h
      rw [← this]; simp
    exact absurd (List.count_pos_iff.2 hm) (by omega)
  intro fuel
  induction fuel with
  | zero =>
    intro Lm hs sq rest c a w hsz hc hsh hnd hmem hL ha hend hrest g x
    have hall : ∀ i, i < n → Lm.getD i false = true := fun i hi => by
      have := count0 (j := i) hc
      cases h : Lm[i]? with
      | none => simp at h; omega
      | some b => cases b <;> simp [h] at this ⊢
    have hr : Region.ready .any all Lm = [] := by
      cases hr : Region.ready .any all Lm with
      | nil => rfl
      | cons j r =>
        have hj : j ∈ Region.ready .any all Lm := by rw [hr]; simp
        exact absurd (ready_iffO hj).1 (count0 hc)
    have e : standO hs sq Lm hs.length = sq hs.length := S.ext' ((standO_len _).trans (sqO_len hL _ (jA _)).symm) fun ℓ => standO_same hL _ (jA _) fun i hi _ => hall _ ((hmem _).1 (List.mem_append_left _ (hi_at hi)))
    rw [e] at g x
    rcases hend with ⟨_, _, k⟩ | ⟨j, r, _, _, _, hj, _⟩
    · exact ⟨hr, hQ _ _ _ _ k g x⟩
    · have h1 := hrest j (by rw [hj]; simp)
      rw [hall j ((hmem j).1 (by rw [hj]; simp))] at h1; cases h1
  | succ fuel ih =>
    intro Lm hs sq rest c a w hsz hc hsh hnd hmem hL ha hend hrest g x
    have setfacts : ∀ {j : Nat}, Lm.getD j true = false → (Lm.setIfInBounds j true).size = n ∧ (Lm.setIfInBounds j true).toList.count false = fuel := by
      intro j hj
      have hlt := getlt hj
      refine ⟨by simpa using hsz, ?_⟩
      have h1 : Lm.toList[j]? = some false := by
        have : Lm[j] = false := by simpa [hlt] using hj
        rw [Array.getElem?_toList, Array.getElem?_eq_getElem hlt, this]
      have := cnt_set Lm.toList j h1
      rw [Array.toList_setIfInBounds]
      omega
    have unl : ∀ {j : Nat}, j < n → (Lm.getD j true = false ↔ Lm.getD j false = false) := fun {j} hj => by
      have hlt : j < Lm.size := by omega
      simp [hlt]
    refine ⟨fun hr => ?_, fun j hj => ?_⟩
    · -- nothing is ready, yet one is not carried out: the least of these is ready
      exfalso
      have hex : ∃ j, j < n ∧ Lm.getD j true = false := by
        have hm : false ∈ Lm.toList := List.count_pos_iff.1 (by omega)
        obtain ⟨j, hj⟩ := List.getElem?_of_mem hm
        have hj' : Lm[j]? = some false := by simpa using hj
        refine ⟨j, ?_, by simp [hj']⟩
        have := (Array.getElem?_eq_some_iff.1 hj').1
        omega
      have least : ∀ m, m ≤ hs.length → (∀ i, i < m → Lm.getD (hs.getD i default).1 false = true) ∨ ∃ q, q < m ∧ Lm.getD (hs.getD q default).1 false = false ∧ ∀ i, i < q → Lm.getD (hs.getD i default).1 false = true := by
        intro m
        induction m with
        | zero => intro _; exact .inl fun i hi => absurd hi (Nat.not_lt_zero i)
        | succ m ihm =>
          intro hm
          rcases ihm (by omega) with h | ⟨q, h1, h2, h3⟩
          · cases h4 : Lm.getD (hs.getD m default).1 false with
            | false => exact .inr ⟨m, by omega, h4, h⟩
            | true =>
              refine .inl fun i hi => ?_
              by_cases e : i = m
              · rw [e]; exact h4
              · exact h i (by omega)
          · exact .inr ⟨q, by omega, h2, h3⟩
      rcases least hs.length (jA _) with h | ⟨q, h1, h2, h3⟩
      · have hdone : ∀ i, i ∈ hs.map (·.1) → Lm.getD i false = true := fun i hi => by
          obtain ⟨q, hq, rfl⟩ := getD_mem hi
          exact h q hq
        rcases hend with ⟨h1, _, _⟩ | ⟨j, r, _, _, _, hj, hah, _⟩
        · obtain ⟨j, h4, h5⟩ := hex
          have hm := (hmem j).2 h4
          rw [h1, List.append_nil] at hm
          have h6 := hdone j hm
          rw [(unl h4).1 h5] at h6; cases h6
        · have hjr : j ∈ rest := by rw [hj]; simp
          have hjn : j < n := (hmem j).1 (List.mem_append_right _ hjr)
          have := ready_ofO hn hjn ((unl hjn).2 (hrest j hjr)) hah hdone
          rw [hr] at this; cases this
      · have hqn : (hs.getD q default).1 < n := (hmem _).1 (List.mem_append_left _ (hi_at h1))
        have := ready_ofO hn hqn ((unl hqn).2 h2) (ha q h1) (fun i hi => by
          obtain ⟨k, hk, rfl⟩ := getD_mem hi
          rw [List.length_take] at hk
          have e : (hs.take q).getD k default = hs.getD k default := by
            rw [qI, qI, List.getElem?_take, if_pos (by omega)]
          rw [e]; exact h3 k (by omega))
        rw [hr] at this; cases this
    · obtain ⟨hun, hwt⟩ := ready_iffO hj
      have hjn : j < n := by have := getlt hun; omega
      obtain ⟨hs1, hc1⟩ := setfacts hun
      have hunf := (unl hjn).1 hun
      have hrch : ∀ {i}, reach all 8 j i = true → Lm.getD i false = true := fun h => reach_pre hsh 8 j _ hwt h
      have hsh1 : shut all (Lm.setIfInBounds j true) := by
        intro q hq i hi
        by_cases hqj : j = q
        · subst hqj; exact getD_set_true (hwt i hi)
        · rw [getD_set_ne false hqj] at hq
          exact getD_set_true (hsh q hq i hi)
      rcases jC.1 ((hmem j).2 hjn) with hjh | hjr
      · obtain ⟨q, hqf, rfl⟩ := getD_mem hjh
        obtain ⟨o, ho, hop⟩ := (hL q hqf).run.resolve_left (by rw [hunf]; simp)
        have hcf := hend.ok hqf
        have nolater : ∀ i, q < i → i < hs.length → Lm.getD (hs.getD i default).1 false = true → conflict (hs.getD q default).2 (hs.getD i default).2 = false := by
          intro i h1 h2 h3
          rcases hend.ok h2 q h1 with h | h
          · exact h
          · have := reach_shut hsh h3 h; rw [hunf] at this; cases this
        have hread : ∀ ℓ, ℓ ∈ (hs.getD q default).2.1 → Same ℓ (standO hs sq Lm hs.length) (sq q) :=
          standO_read (rest := rest) (s := sq 0) (by omega) hL (fun i hi ℓ hw hℓ => by
            rcases hcf i hi with h | h
            · exact absurd hℓ ((conflict_of h (l := ℓ)).1 hw).1
            · exact hrch h) fun i h1 h2 h3 ℓ hℓ hw => by
            by_cases e : i = q
            · subst e; rw [hunf] at h3; cases h3
            · exact (conflict_of (nolater i (by omega) h2 h3) (l := ℓ)).2 hℓ hw
        have hlen : Len (standO hs sq Lm hs.length) (sq q) := (standO_len _).trans (sqO_len hL q (by omega)).symm
        have hafter := standO_set hnd hqf (by omega) hL hunf (fun i hi ℓ h1 h2 => by
            rcases hcf i hi with h | h
            · exact absurd h2 ((conflict_of h (l := ℓ)).1 h1).2
            · exact hrch h) fun i h1 h2 h3 ℓ hℓ hw => ((conflict_of (nolater i h1 h2 h3) (l := ℓ)).1 hℓ).2 hw
        have hrun := hop.run _ hlen hread c a w g
        unfold wpOpIn
        rw [ho]
        have go : ∀ a' w', (∃ s' c', s' = (standO hs sq Lm hs.length).over (hs.getD q default).2.2 (sq (q + 1)) ∧ Sat c' s' a' w' ∧ Ext c (standO hs sq Lm hs.length).own w c' s'.own w') → wpAnyIn Fence.wide 0 P .any all Q' fuel (Lm.setIfInBounds (hs.getD q default).1 true) a' w' := by
          rintro a' w' ⟨s', c', rfl, g', x'⟩
          rw [hafter] at g' x'
          exact ih _ hs sq rest c' a' w' hs1 hc1 hsh1 hnd hmem (fun i hi => (hL i hi).done fun j h => getD_set_true h) ha hend (fun i hi => by
            rw [getD_set_ne false (fun e => (List.nodup_append.1 hnd).2.2 _ (hi_at hqf) _ hi e)]; exact hrest i hi) g' (x.trans x')
        unfold opRun at hrun
        simp only []
        split
        · rename_i hw; rw [if_pos hw] at hrun; exact wpIn_weak hrun go
        · rename_i hw; rw [if_neg hw] at hrun; exact ⟨fun _ _ => trivial, go _ _ hrun⟩
      · rcases hend with ⟨h1, _, _⟩ | ⟨j', r, o, R, W, hr, hah, ho, hx, hok, hno⟩
        · rw [h1] at hjr; cases hjr
        · have hjj : j = j' := by
            rw [hr] at hjr
            rcases jD.1 hjr with h | h
            · exact h
            · have h1 := hrch (List.all_eq_true.1 hx j h)
              rw [hrest j' (by rw [hr]; simp)] at h1; cases h1
          subst hjj
          have hlast := okO_last hok
          have hread : ∀ ℓ, ℓ ∈ R → Same ℓ (standO hs sq Lm hs.length) (sq hs.length) :=
            standO_read (rest := rest) (s := sq 0) (jA _) hL (fun i hi ℓ hw hℓ => by
              rcases hlast i hi with h | h
              · exact absurd hℓ ((conflict_of h (l := ℓ)).1 hw).1
              · exact hrch h) fun i h1 h2 => by omega
          have hlen : Len (standO hs sq Lm hs.length) (sq hs.length) := (standO_len _).trans (sqO_len hL _ (jA _)).symm
          have hrun := hno _ hlen hread c a w g
          unfold wpOpIn
          rw [ho]
          have go : ∀ a' w', (∃ s2 c', (∃ s', Len s' (sq hs.length) ∧ (∀ ℓ, ℓ ∉ W → Same ℓ s' (sq hs.length)) ∧ s2 = (standO hs sq Lm hs.length).over W s' ∧ LexO P all K r s' (hs ++ [(j, (R, W))])) ∧ Sat c' s2 a' w' ∧ Ext c (standO hs sq Lm hs.length).own w c' s2.own w') → wpAnyIn Fence.wide 0 P .any all Q' fuel (Lm.setIfInBounds j true) a' w' := by
            rintro a' w' ⟨s2, c', ⟨s', hl', ho', rfl, hk⟩, g', x'⟩
            let sq1 : Nat → S := fun i => if i ≤ hs.length then sq i else s'
            have e1 : ∀ i, i ≤ hs.length → sq1 i = sq i := fun i hi => if_pos hi
            have e2 : sq1 (hs.length + 1) = s' := if_neg (by omega)
            have hlen1 : (hs ++ [(j, (R, W))]).length = hs.length + 1 := by simp
            have hself : (Lm.setIfInBounds j true).getD j false = true := getD_set_self (by omega)
            have hL1 : ∀ i, i < (hs ++ [(j, (R, W))]).length → StepO P all (hs ++ [(j, (R, W))]) sq1 (Lm.setIfInBounds j true) i := fun i hi => by
              by_cases e : i < hs.length
              · exact ((hL i e).app e (e1 i (by omega)) (e1 (i + 1) (by omega))).done fun j h => getD_set_true h
              · have : i = hs.length := by omega
                subst this
                refine ⟨?_, ?_, .inl ?_⟩
                · rw [e2, e1 _ (jA _)]; exact hl'
                · rw [getD_app2, e2, e1 _ (jA _)]; exact ho'
                · rw [getD_app2]; exact hself
            obtain ⟨t, sq', rest', f1, f2, f3, f4, f5⟩ := LexO.ext r (hs ++ [(j, (R, W))]) sq1 (by rw [hlen1, e2]; exact hk) hL1 (ha.snoc hah)
            have hsplit : (hs ++ [(j, (R, W))] ++ t).map (·.1) ++ rest' = hs.map (·.1) ++ rest := by rw [hr, f1]; simp
            have hne : ∀ i, i ∈ r → j ≠ i := fun i hi e => by
              have h1 := (List.nodup_append.1 hnd).2.1
              rw [hr] at h1
              exact (List.nodup_cons.1 h1).1 (e ▸ hi)
            have hidle : ∀ i, i < t.length → (Lm.setIfInBounds j true).getD ((hs ++ [(j, (R, W))] ++ t).getD ((hs ++ [(j, (R, W))]).length + i) default).1 false = false := fun i hi => by
              have hm : ((hs ++ [(j, (R, W))] ++ t).getD ((hs ++ [(j, (R, W))]).length + i) default).1 ∈ r := by
                rw [f1, qI, List.getElem?_append_right (by omega)]
                rw [Nat.add_sub_cancel_left, qF hi]
                exact List.mem_append_left _ (jE.2 ⟨_, qC hi, rfl⟩)
              rw [getD_set_ne false (hne _ hm)]
              exact hrest _ (by rw [hr]; exact List.mem_cons_of_mem _ hm)
            have hstand : standO (hs ++ [(j, (R, W))] ++ t) sq' (Lm.setIfInBounds j true) (hs ++ [(j, (R, W))] ++ t).length = (standO hs sq Lm hs.length).over W s' := by
              rw [qG, standO_idle hidle _ (jA _), standO_grow (hs := hs ++ [(j, (R, W))]) (sq := sq1) (Lm := Lm.setIfInBounds j true) f2 (fun _ _ => rfl) _ (jA _), hlen1]
              simp only [standO]
              rw [getD_app2, if_pos hself, e2, standO_grow (sq := sq) (Lm := Lm) e1 (fun i hi => ?_) _ (jA _)]
              rw [getD_set_ne false]
              intro e
              refine (List.nodup_append.1 hnd).2.2 _ (hi_at hi) j (by rw [hr]; simp) e.symm
            rw [← hstand] at g' x'
            refine ih _ (hs ++ [(j, (R, W))] ++ t) sq' rest' c' a' w' hs1 hc1 hsh1 (by rw [hsplit]; exact hnd) (by rw [hsplit]; exact hmem) f3 f4 f5 (fun i hi => ?_) g' (x.trans x')
            have hir : i ∈ r := by rw [f1]; exact List.mem_append_right _ hi
            rw [getD_set_ne false (hne i hir)]
            exact hrest i (by rw [hr]; exact List.mem_cons_of_mem _ hir)
          unfold opRun at hrun
          simp only []
          split
          · rename_i hw; rw [if_pos hw] at hrun; exact wpIn_weak hrun go
          · rename_i hw; rw [if_neg hw] at hrun; exact ⟨fun _ _ => trivial, go _ _ hrun⟩
def permB (n : Nat) (l : List Nat) : Bool := decide l.Nodup && l.all (fun j => Nat.blt j n) && (List.range n).all (l.contains ·)
end
theorem lexO_start {P : Program} {Q : Exit → S → Prop} {s : S} {l : List Oper} (pi : List Nat) (hp : permB l.length pi = true) (h : LexO P l.toArray (Q .normal) pi s []) {c : Ctx} {a : Act} {w : World} (g : Sat c s a w) : wpAnyIn Fence.wide 0 P .any l.toArray (fun e a' w' => ∃ s' c', Q e s' ∧ Sat c' s' a' w' ∧ Ext c s.own w c' s'.own w') l.toArray.size (Array.replicate l.toArray.size false) a { w with drawn := w.drawn + 1 } := by
  simp only [permB, jG, decide_eq_true_eq, List.all_eq_true, List.mem_range, List.contains_iff_mem] at hp
  obtain ⟨⟨hp1, hp2⟩, hp3⟩ := hp
  obtain ⟨t, sq, rest, f1, f2, f3, f4, f5⟩ := LexO.ext (Lm := Array.replicate l.toArray.size false) pi [] (fun _ => s) h (fun i hi => absurd hi (Nat.not_lt_zero i)) (fun k hk => absurd hk (Nat.not_lt_zero k))
  simp only [List.nil_append] at f3 f4 f5
  have hno : ∀ i, (Array.replicate l.toArray.size false).getD i false = false := fun j => by simp [Array.getElem?_replicate]; split <;> simp
  have e0 : standO t sq (Array.replicate l.toArray.size false) t.length = s := by
    have := standO_idle (hs := []) (t := t) (sq' := sq) (fun i _ => hno _) t.length (jA _)
    simp only [List.nil_append, qQ, Nat.zero_add] at this
    rw [this]; exact f2 0 (jA _)
  refine drawO_key (P := P) (all := l.toArray) (K := Q .normal) (c0 := c) (own0 := s.own) (w0 := w) rfl (fun s' c' a' w' k g' x' => ⟨s', c', k, g', x'⟩) _ _ t sq rest c a _ (by simp) ?_ (fun j hj => by rw [hno j] at hj; cases hj) (by rw [← f1]; exact hp1) (fun j => ?_) f3 f4 f5 (fun j _ => hno j) ?_ ?_
  · simp
  · rw [← f1]; exact ⟨fun h => by have h1 := Nat.le_of_ble_eq_true (hp2 j h); simpa using Nat.lt_of_succ_le h1, fun h => hp3 j (by simpa using h)⟩
  · rw [e0]; exact ⟨⟨g.conc.mem, g.conc.obj, g.conc.inj, g.conc.fin, g.conc.tabw, g.conc.tabo⟩, g.size, g.tmps, g.defers, g.wf⟩
  · rw [e0]; exact ⟨rfl, rfl, rfl, jA _, fun _ _ _ => rfl, fun _ _ _ h => h, fun _ _ _ h => .inl h, fun _ _ h => h, fun i x b n h1 he h2 => .inr ⟨i, x, n, h1, he, h2⟩, rfl, fun k x h => .inl (by rw [h]; simp)⟩
theorem AW.drawO {P : Program} {Q : Exit → S → Prop} {s : S} {id : Nat} {l : List Oper} (pi : List Nat) (hm : P.follows .mixedOrders = true) (hp : permB l.length pi = true) (h : LexO P l.toArray (Q .normal) pi s []) : AW P (.region id l.toArray true) Q s := fun c a w g => (wpIn_wide (n := 0)).1 (wpIn_region_any hm (lexO_start pi hp h g))
section
variable {P : Program} {all : Array Oper} {o : Oper} {s s' : S} {K : S → Prop} {rest : List Nat} {hs : List Hi} {R W : List Loc} {j d n : Nat} {t : Nat → X} {L : Nat → Option AO} {H : Heap} {x : X}
theorem LexO.nil (h : okO all hs = true) (k : K s) : LexO P all K [] s hs := ⟨h, k⟩
theorem LexO.cons (hj : all[j]? = some o) (ha : aheadO all (hs.map (·.1)) j = true) (h : LOp P all o R W s s') (k : LexO P all K rest s' (hs ++ [(j, (R, W))])) : LexO P all K (j :: rest) s hs := ⟨ha, o, hj, .inl ⟨R, W, s', h, k⟩⟩
theorem LexO.nop (hj : all[j]? = some o) (ha : aheadO all (hs.map (·.1)) j = true) (hx : okX all j rest = true) (hok : okO all (hs ++ [(j, (R, W))]) = true) (h : NOp P all o R W s fun s' => LexO P all K rest s' (hs ++ [(j, (R, W))])) : LexO P all K (j :: rest) s hs := ⟨ha, o, hj, .inr ⟨hx, R, W, hok, h⟩⟩
theorem LexO.q (hj : all[j]? = some o) (ha : aheadO all (hs.map (·.1)) j = true) (h : QV P o ⟨n, t, L, H⟩ x) (hg : o.guard = none) (hdst : o.dst = some d) (hd : Nat.blt d n = true) (k : LexO P all K rest ⟨n, upd t d x, L, H⟩ (hs ++ [(j, (lookT all o, dstT o))])) : LexO P all K (j :: rest) ⟨n, t, L, H⟩ hs :=
  .cons hj ha (.q h hg (inb' hdst hd)) (by rw [hdst]; exact k)
theorem LexO.r {s' : S} (hj : all[j]? = some o) (ha : aheadO all (hs.map (·.1)) j = true) (h : LR P o R W ⟨n, t, L, H⟩ s') (hg : o.guard = none) (k : LexO P all K rest s' (hs ++ [(j, (R, W))])) : LexO P all K (j :: rest) ⟨n, t, L, H⟩ hs := .cons hj ha (.r h hg) k
def EOp (P : Program) (all : Array Oper) (o : Oper) (R : List Loc) (d : Nat) (s : S) (Q : X → Heap → Prop) : Prop :=
  ∀ s1, Len s1 s → (∀ ℓ, ℓ ∈ R → Same ℓ s1 s) → OpW P all o (fun s2 => ∃ x H', Q x H' ∧ s2 = ⟨s1.n, upd s1.t d x, s1.L, H'⟩) s1
theorem NOp.e {Q : X → Heap → Prop} (h : EOp P all o R d ⟨n, t, L, H⟩ Q) (k : ∀ x H', Q x H' → K ⟨n, upd t d x, L, H'⟩) : NOp P all o R [.t d, .h] ⟨n, t, L, H⟩ K := fun s1 hl hs => (h s1 hl hs).mono fun s2 ⟨x, H', q, e⟩ => by
  refine ⟨⟨n, upd t d x, L, H'⟩, rfl, fun ℓ hℓ => ?_, ?_, k x H' q⟩
  · cases ℓ with
    | t i =>
      have h : i ≠ d := fun e => hℓ (by simp [e])
      simp [Same, upd_ne _ _ h]
    | b i => rfl
    | h => exact absurd (by simp) hℓ
  · subst e
    refine S.ext' rfl fun ℓ => ?_
    cases ℓ with
    | t i =>
      by_cases h : i = d
      · subst h; simp [Same, S.over, upd_same]
      · simp [Same, S.over, upd_ne _ _ h, h]
    | b i => simp [Same, S.over]
    | h => simp [Same, S.over]
def VOp (P : Program) (all : Array Oper) (o : Oper) (R : List Loc) (d : Nat) (s : S) (Q : X → Prop) : Prop :=
  ∀ s1, Len s1 s → (∀ ℓ, ℓ ∈ R → Same ℓ s1 s) → OpW P all o (fun s2 => ∃ x, Q x ∧ s2 = ⟨s1.n, upd s1.t d x, s1.L, s1.H⟩) s1
theorem evO {s1 s : S} (hs : ∀ ℓ, ℓ ∈ Loc.h :: lk o → Same ℓ s1 s) {y : Operand} (hy : y ∈ o.op.operands) : s1.eval y = s.eval y := evs hs (fun _ h => List.mem_cons_of_mem _ h) hy
theorem EOp.of {Q : X → Heap → Prop} (h : ∀ (t1 : Nat → X) (L1 : Nat → Option AO), (∀ y, y ∈ o.op.operands → S.eval ⟨n, t1, L1, H⟩ y = S.eval ⟨n, t, L, H⟩ y) → OpW P all o (fun s2 => ∃ x H', Q x H' ∧ s2 = ⟨n, upd t1 d x, L1, H'⟩) ⟨n, t1, L1, H⟩) : EOp P all o (.h :: lk o) d ⟨n, t, L, H⟩ Q := by
  intro s1 hl hs
  obtain ⟨n1, t1, L1, H1⟩ := s1
  have e1 : n1 = n := hl
  have e2 : H1 = H := hs .h (by simp)
  subst e1 e2
  exact h t1 L1 fun y hy => evO hs hy
abbrev fpE (o : Oper) (d : Nat) : Fp := (.h :: lk o, [.t d, .h])
theorem LexO.e {Q : X → Heap → Prop} (hj : all[j]? = some o) (ha : aheadO all (hs.map (·.1)) j = true) (hx : okX all j rest = true) (hok : okO all (hs ++ [(j, fpE o d)]) = true) (h : EOp P all o (.h :: lk o) d ⟨n, t, L, H⟩ Q) (k : ∀ x H', Q x H' → LexO P all K rest ⟨n, upd t d x, L, H'⟩ (hs ++ [(j, fpE o d)])) : LexO P all K (j :: rest) ⟨n, t, L, H⟩ hs :=
  .nop hj ha hx hok (.e h k)
variable {x0 y : Operand} {tt e : TypeId} {sz bytes k m : Nat} {z : Nz} {cells r : List A} {es es' : List (List T)} {H0 : Heap} {c : C}
theorem LexO.newAlloc {zv : Value} (hj : all[j]? = some o) (ha : aheadO all (hs.map (·.1)) j = true) (hx : okX all j rest = true) (hok : okO all (hs ++ [(j, fpE o d)]) = true) (ho : o.op = .alloc e) (hg : o.guard = none) (hdst : o.dst = some d) (hz : zeroIs P e zv) (h1 : zv.cells.toList.all Value.oneCell' = true) (hr : zv.cells.toList.map litA = r) (hd : Nat.blt d n = true)
    (k : ∀ k, H k = none → LexO P all K rest ⟨n, upd t d (.c (.a (.bp k 0))), L, upd H k (some (.box r))⟩ (hs ++ [(j, fpE o d)])) : LexO P all K (j :: rest) ⟨n, t, L, H⟩ hs :=
  .e (Q := fun x H' => ∃ k, H k = none ∧ x = .c (.a (.bp k 0)) ∧ H' = upd H k (some (.box r))) hj ha hx hok (.of fun t1 L1 ev => e_alloc r hg ho hz h1 hr (inb' hdst hd) fun k' hk' => ⟨_, _, ⟨k', hk', rfl, rfl⟩, by rw [hdst]; rfl⟩) fun x H' ⟨k', h1, h2, h3⟩ => by subst h2 h3; exact k k' h1
theorem LexO.app (hj : all[j]? = some o) (ha : aheadO all (hs.map (·.1)) j = true) (hok1 : okX all j rest = true) (hok : okO all (hs ++ [(j, fpE o d)]) = true) (hg : o.guard = none) (ho : o.op = .call { callee := .builtin .append, args := #[x0, y], argTypes := #[tt, tt] }) (ty : elB P tt e sz bytes = true) (hx : S.eval ⟨n, t, L, H⟩ x0 = .c (.a (.ts k z sz es))) (hH : H k = some (.tip e sz es.length)) (hy : srcX (S.eval ⟨n, t, L, H⟩ y) = some (es', sz)) (hb : (es.length + es'.length) * bytes ≤ 140737488355328 ∧ es.length + es'.length ≤ 9223372036854775807) (hdst : o.dst = some d) (hd : Nat.blt d n = true)
    (hk : ∀ k', H k' = none → LexO P all K rest ⟨n, upd t d (.c (.a (.ts k' z sz (es ++ es')))), L, upd (upd H k none) k' (some (.tip e sz (es ++ es').length))⟩ (hs ++ [(j, fpE o d)])) : LexO P all K (j :: rest) ⟨n, t, L, H⟩ hs :=
  .e (Q := fun x H' => ∃ k', H k' = none ∧ x = .c (.a (.ts k' z sz (es ++ es'))) ∧ H' = upd (upd H k none) k' (some (.tip e sz (es ++ es').length))) hj ha hok1 hok (.of fun t1 L1 ev => e_app hg ho ty (by rw [ev x0 (by rw [ho]; simp [Op.operands, Call.operands])]; exact hx) hH (by rw [ev y (by rw [ho]; simp [Op.operands, Call.operands])]; exact hy) hb hdst hd fun k' hk' => ⟨_, _, ⟨k', hk', rfl, rfl⟩, rfl⟩) fun x H' ⟨k', h1, h2, h3⟩ => by subst h2 h3; exact hk k' h1
theorem LexO.app1 (hj : all[j]? = some o) (ha : aheadO all (hs.map (·.1)) j = true) (hok1 : okX all j rest = true) (hok : okO all (hs ++ [(j, fpE o d)]) = true) (hg : o.guard = none) (h0 : H0 k = none) (ho : o.op = .call { callee := .builtin .append, args := #[x0, y], argTypes := #[tt, tt] }) (ty : elB P tt e sz bytes = true) (hx : S.eval ⟨n, t, L, upd H0 k (some (.tip e sz es.length))⟩ x0 = .c (.a (.ts k z sz es))) (hy : srcX (S.eval ⟨n, t, L, upd H0 k (some (.tip e sz es.length))⟩ y) = some (es', sz)) (hb : (es.length + es'.length) * bytes ≤ 140737488355328 ∧ es.length + es'.length ≤ 9223372036854775807) (hdst : o.dst = some d) (hd : Nat.blt d n = true)
    (hk : ∀ k', H0 k' = none → LexO P all K rest ⟨n, upd t d (.c (.a (.ts k' z sz (es ++ es')))), L, upd H0 k' (some (.tip e sz (es ++ es').length))⟩ (hs ++ [(j, fpE o d)])) : LexO P all K (j :: rest) ⟨n, t, L, upd H0 k (some (.tip e sz es.length))⟩ hs :=
  .app hj ha hok1 hok hg ho ty hx (upd_same _ _ _) hy hb hdst hd fun k' h' => by rw [upd_back h0]; exact hk k' (upd_lt h').2
end
end Go.Proofs.YtgnnjebfoffphaaGreatDoor.E
