/- Loops over maps; calls that turn objects; tests for nil. Plain theorems, for any program. -/
import Derived.Test.YtojkjiakkcgfcaaE15
namespace Go.Proofs.Ytojkjiakkcgfcaa.E
open Go.RowKit
set_option linter.unusedVariables false

section
variable {P : Program} {all : Array Oper} {o : Oper} {s s' : S} {K : S → Prop} {rest : List Oper}
/-! ### calls -/
theorem Sat.call {c c' : Ctx} {s : S} {a : Act} {w w' : World} {H' : Heap} (g : Sat c s a w) (hc : Conc c' (ownH H') w') (hx : Ext c (ownH s.H) w c' (ownH H') w') :
    Sat { c' with lam := c.lam } ⟨s.n, s.t, s.L, H'⟩ a w' ∧ Ext c s.own w { c' with lam := c.lam } (S.own ⟨s.n, s.t, s.L, H'⟩) w' := by
  have sub : ∀ i x, ownH s.H i = some x → s.own i = some x := fun i x h => by cases i with
    | e k => exact h
    | l d => cases h
  -- the block of a variable of the call's own is nobody else's
  have loc : ∀ d y b n, s.L d = some y → ¬ y.empty → c.lam d = (b, n) → b < w.heap.size ∧ ∀ i x m, ownH s.H i = some x → ¬ x.empty → c.pos i ≠ some (b, m) := fun d y b n h he hl => by
    obtain ⟨b', n', h1, h2⟩ := g.conc.obj (.l d) y h he
    have h1 : some (c.lam d) = some (b', n') := h1
    rw [hl] at h1; injection h1 with h1; injection h1 with e1 e2; subst e1 e2
    refine ⟨h2.lt, fun i x m hi hx hp => ?_⟩
    have := g.conc.inj i (.l d) x y b m n (sub i x hi) h hx he hp (by show some (c.lam d) = _; rw [hl])
    subst this; cases hi
  have own' : ∀ i x, S.own ⟨s.n, s.t, s.L, H'⟩ i = some x → (ownH H' i = some x ∧ ∃ k, i = .e k) ∨ ∃ d, i = .l d ∧ s.L d = some x := fun i x h => by
    cases i with
    | e k => exact .inl ⟨h, k, rfl⟩
    | l d => exact .inr ⟨d, rfl, h⟩
  have fresh : ∀ i x b n d y m, ownH H' i = some x → ¬ x.empty → c'.pos i = some (b, n) → s.L d = some y → ¬ y.empty → c.lam d = (b, m) → False := fun i x b n d y m h1 h2 h3 h4 h5 h6 => by
    obtain ⟨h7, h8⟩ := loc d y b m h4 h5 h6
    rcases hx.own i x b n h1 h2 h3 with h9 | ⟨j, z, q, h9, h10, h11⟩
    · omega
    · exact h8 j z q h9 h10 h11
  refine ⟨⟨⟨hc.mem, fun i x hi he => ?_, fun i j x y b n m hi hj he hf hp hq => ?_, ?_⟩, g.size, fun i => ?_, by
    show DefOk c'.base a.defers w'
    exact g.defers.ext (g.conc.sub sub) hx, g.wf⟩, ⟨hx.os, hx.tape, hx.output, hx.size, fun b hb hn => hx.blk b hb fun i x n hi => hn i x n (sub i x hi), hx.mem, fun b o u h => ?_, hx.ext, fun i x b n hi he hp => ?_, hx.base⟩⟩
  · rcases own' i x hi with ⟨h1, k, rfl⟩ | ⟨d, rfl, h1⟩
    · obtain ⟨b, n, h2, h3⟩ := hc.obj _ x h1 he
      exact ⟨b, n, h2, h3.keep rfl (fun _ _ _ h => h) (fun _ _ h => h) (fun _ _ h => h)⟩
    · obtain ⟨b, n, h2, h3⟩ := g.conc.obj (.l d) x h1 he
      have h2 : some (c.lam d) = some (b, n) := h2
      injection h2 with h2
      obtain ⟨h4, h5⟩ := loc d x b n h1 he h2
      refine ⟨b, n, by show some (c.lam d) = _; rw [h2], h3.keep (hx.blk b h4 fun i y m hi hy hp => h5 i y m hi hy hp) hx.mem (fun o u h => ?_) hx.ext⟩
      rcases hx.new b o u h with h6 | h6 | ⟨i, y, m, h6, h7, h8⟩
      · exact h6
      · omega
      · exact absurd h8 (h5 i y m h6 h7)
  · rcases own' i x hi with ⟨h1, k, rfl⟩ | ⟨d, rfl, h1⟩
    · rcases own' j y hj with ⟨h2, k', rfl⟩ | ⟨d, rfl, h2⟩
      · exact hc.inj _ _ x y b n m h1 h2 he hf hp hq
      · have hq : some (c.lam d) = some (b, m) := hq
        injection hq with hq
        exact (fresh _ x b n d y m h1 he hp h2 hf hq).elim
    · have hp : some (c.lam d) = some (b, n) := hp
      injection hp with hp
      rcases own' j y hj with ⟨h2, k', rfl⟩ | ⟨d', rfl, h2⟩
      · exact (fresh _ y b m d x n h2 hf hq h1 he hp).elim
      · exact g.conc.inj _ _ x y b n m h1 h2 he hf (by show some (c.lam d) = _; rw [hp]) hq
  · obtain ⟨N, hN⟩ := hc.fin
    exact ⟨N, hN⟩
  · exact RepX.mono (c := c) (c' := { c' with lam := c.lam }) hx.mem hx.ext rfl (g.tmps i)
  · rcases hx.new b o u h with h6 | h6 | ⟨i, y, m, h6, h7, h8⟩
    · exact .inl h6
    · exact .inr (.inl h6)
    · exact .inr (.inr ⟨i, y, m, sub i y h6, h7, h8⟩)
  · rcases own' i x hi with ⟨h1, k, rfl⟩ | ⟨d, rfl, h1⟩
    · rcases hx.own _ x b n h1 he hp with h2 | ⟨j, y, m, h2, h3, h4⟩
      · exact .inl h2
      · exact .inr ⟨j, y, m, sub j y h2, h3, h4⟩
    · exact .inr ⟨.l d, x, n, h1, he, hp⟩
theorem call_wp {f : FuncId} {ys : Array Operand} {ts : Array TypeId} {args : List C} {Q : X → Heap → Prop} {c : Ctx} {a : Act} {w : World} (g : Sat c s a w) (ho : o.op = .call { callee := .value (.func f), args := ys, argTypes := ts }) (hf : fnB P f = true) (ha : argsX s ys.toList = some args) (h : Spec P f args s.H Q) (hl : ∀ x H', Q x H' → x.loc = none) (hd : inB o.dst s.n = true) :
    o.wp P a w (fun a' w' => ∃ x H' c', Q x H' ∧ Sat c' ((⟨s.n, s.t, s.L, H'⟩ : S).put o.dst x) a' w' ∧ Ext c s.own w c' ((⟨s.n, s.t, s.L, H'⟩ : S).put o.dst x).own w') (fun _ _ _ => False) := by
  have hr : Reps (RepC c.μ c.β) args (ys.map a.eval).toList := by
    have := args_rep (c := c) (f := a.eval) ha fun y _ => g.eval y
    simpa using this
  have hc : Conc c (ownH s.H) w := g.conc.sub fun i x h => by cases i with
    | e k => exact h
    | l d => cases h
  have hcall := h c w (ys.map a.eval) hc hr
  have hrun : (execOp a.eval o).run P w = .ok (.enter f (ys.map a.eval)) w := by
    simp [execOp, ho, resolve, Act.eval, Deferred.ofValue, invoke, enter_run hf]
  unfold Oper.wp
  rw [hrun, Oper.upon_enter]
  refine hcall.mono ?_
  rintro e w' ⟨v, y, H', c', rfl, hq, hrx, hc', hx'⟩
  obtain ⟨g', x'⟩ := g.call hc' hx'
  exact ⟨y, H', _, hq, g'.put o.dst hd (hrx.relam (hl y H' hq)) (fun d e => by rw [hl y H' hq] at e; cases e), by rw [own_put]; exact x'⟩
theorem OpW.callE {f : FuncId} {ys : Array Operand} {ts : Array TypeId} {args : List C} {Q : X → Heap → Prop} {n d : Nat} {t : Nat → X} {L : Nat → Option AO} {H : Heap} (ho : o.op = .call { callee := .value (.func f), args := ys, argTypes := ts }) (hg : o.guard = none) (hdst : o.dst = some d) (hd : Nat.blt d n = true) (hf : fnB P f = true) (ha : argsX ⟨n, t, L, H⟩ ys.toList = some args) (h : Spec P f args H Q) (hl : ∀ x H', Q x H' → x.loc = none)
    (k : ∀ x H', Q x H' → K ⟨n, upd t d x, L, H'⟩) : OpW P all o K ⟨n, t, L, H⟩ := fun c a w g => by
  unfold opRun
  rw [if_pos (by simp [Region.wanted, hg])]
  refine wp_weak (call_wp g ho hf ha h hl (inb' hdst hd)) ?_
  rintro a' w' ⟨x, H', c', hq, g', x'⟩
  rw [hdst] at g' x'
  exact ⟨_, c', k x H' hq, g', x'⟩
theorem SeqK.callE {f : FuncId} {ys : Array Operand} {ts : Array TypeId} {args : List C} {Q : X → Heap → Prop} {n d : Nat} {t : Nat → X} {L : Nat → Option AO} {H : Heap} (ho : o.op = .call { callee := .value (.func f), args := ys, argTypes := ts }) (hg : o.guard = none) (hdst : o.dst = some d) (hd : Nat.blt d n = true) (hf : fnB P f = true) (ha : argsX ⟨n, t, L, H⟩ ys.toList = some args) (h : Spec P f args H Q) (hl : ∀ x H', Q x H' → x.loc = none)
    (k : ∀ x H', Q x H' → SeqK P all K rest ⟨n, upd t d x, L, H'⟩) : SeqK P all K (o :: rest) ⟨n, t, L, H⟩ := SeqK.any (OpW.callE ho hg hdst hd hf ha h hl k)
/-- a call that reads objects, and leaves them -/
theorem h_call {f : FuncId} {ys : Array Operand} {ts : Array TypeId} {args : List C} {x : X} (ho : o.op = .call { callee := .value (.func f), args := ys, argTypes := ts }) (hf : fnB P f = true) (ha : argsX s ys.toList = some args) (h : Spec P f args s.H fun y H' => y = x ∧ H' = s.H) (hx : x.loc = none) (hd : inB o.dst s.n = true) :
    LR P o (.h :: lk o) (dstT o) s (s.put o.dst x) := by
  refine ⟨put_len _ _ _, fun ℓ hℓ => put_out hℓ, fun s1 hl hs c a w g => ?_⟩
  unfold dstT
  rw [over_put]
  have hH : s1.H = s.H := hs .h (by simp)
  have ha1 : argsX s1 ys.toList = some args := by
    rw [← ha]
    have : ∀ l : List Operand, (∀ y ∈ l, y ∈ ys.toList) → argsX s1 l = argsX s l := by
      intro l
      induction l with
      | nil => intro _; rfl
      | cons y l ih =>
        intro hl'
        have e1 : s1.eval y = s.eval y := evs hs (fun _ h => List.mem_cons_of_mem _ h) (by rw [ho]; simp [Op.operands, Call.operands]; exact .inr (by simpa using hl' y (by simp)))
        simp only [argsX, e1, ih (fun z hz => hl' z (by simp [hz]))]
    exact this _ fun _ h => h
  refine wp_weak0 (call_wp g ho hf ha1 (Q := fun y H' => y = x ∧ H' = s.H) (by rw [hH]; exact h) (fun y H' e => by rw [e.1]; exact hx) (hl ▸ hd)) ?_
  rintro a' w' ⟨y, H', c', ⟨rfl, rfl⟩, g', x'⟩
  rw [← hH] at g' x'
  exact ⟨c', g', x'⟩
end
end Go.Proofs.Ytojkjiakkcgfcaa.E
