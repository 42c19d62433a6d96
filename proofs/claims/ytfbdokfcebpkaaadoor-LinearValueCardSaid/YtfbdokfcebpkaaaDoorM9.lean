/- Parts of the proof, one after the other: E35, E36, E37, E38. No condition. -/
import Derived.Test.YtfbdokfcebpkaaaDoorM8
import Derived.RangeFuncMany
/- Loops over functions: the rounds' code, the call that makes a round, the loop. Plain theorems, for any program. -/
namespace Go.Proofs.YtfbdokfcebpkaaaDoor.E
open Go.RowKit
set_option linter.unusedVariables false
/-! ### no operation defers a call: a round's frame runs it as any other -/
def ndB (ops : Array Oper) : Bool := ops.toList.all fun o => match o.op with | .defer _ => false | _ => true
section
variable {P : Program} {l : Nat} {o : Oper} {ops : Array Oper} {md : Region.Mode} {Q : Exit → Act → World → Prop}
theorem wpIn_round (hnd : ∀ c, o.op ≠ .defer c) {a : Act} {w : World} {K : Act → World → Prop} (h : o.wpIn Fence.wide 0 P a w K Q) : o.wpIn (Fence.wide.inRound l) 0 P a w K Q := by
  unfold Oper.wpIn at *
  refine ⟨fun _ _ => trivial, ?_⟩
  have h := h.2
  rw [Oper.semAt_eq _ _ _ hnd] at h ⊢
  generalize (execOp a.eval o).run P w = r at *
  cases r with
  | ok n w' => cases n <;> exact h
  | halt x w' => cases x <;> exact h
theorem nd_at (h : ndB ops = true) {i : Nat} {o : Oper} (ho : ops[i]? = some o) : ∀ c, o.op ≠ .defer c := fun c e => by
  have := List.all_eq_true.1 h o (by have := Array.mem_of_getElem? ho; simpa using this)
  rw [e] at this; cases this
theorem wpOpIn_round (h : ndB ops = true) {i : Nat} {K : Act → World → Prop} {a : Act} {w : World} (hh : wpOpIn Fence.wide 0 P ops Q i K a w) : wpOpIn (Fence.wide.inRound l) 0 P ops Q i K a w := by
  unfold wpOpIn at *
  cases ho : ops[i]? with
  | none => rw [ho] at hh; exact hh
  | some o =>
    rw [ho] at hh
    simp only at hh ⊢
    split
    · rename_i hw; rw [if_pos hw] at hh; exact wpIn_round (nd_at h ho) hh
    · rename_i hw; rw [if_neg hw] at hh; exact hh
theorem wpAnyIn_round (h : ndB ops = true) : ∀ (fuel : Nat) (Lm : Array Bool) (a : Act) (w : World), wpAnyIn Fence.wide 0 P md ops Q fuel Lm a w → wpAnyIn (Fence.wide.inRound l) 0 P md ops Q fuel Lm a w
  | 0, _, _, _, hh => hh
  | fuel + 1, Lm, a, w, hh => ⟨hh.1, fun i hi => wpOpIn_round h (wpOpIn_mono (fun a' w' h' => wpAnyIn_round h fuel _ a' w' h') (hh.2 i hi))⟩
theorem wpOpsIn_round (h : ndB ops = true) : ∀ (is : List Nat) (a : Act) (w : World), wpOpsIn Fence.wide 0 P ops Q is a w → wpOpsIn (Fence.wide.inRound l) 0 P ops Q is a w
  | [], _, _, hh => hh
  | i :: is, a, w, hh => by
    rw [wpOpsIn_cons] at hh ⊢
    exact wpOpIn_round h (wpOpIn_mono (fun a' w' h' => wpOpsIn_round h is a' w' h') hh)
end
/-! ### code in a round's frame -/
def AWR (P : Program) (l : Nat) (cd : Code) (Q : Exit → S → Prop) (s : S) : Prop :=
  ∀ c a w, Sat c s a w → cd.wpIn (Fence.wide.inRound l) 0 P (fun e a' w' => ∃ s' c', Q e s' ∧ Sat c' s' a' w' ∧ Ext c s.own w c' s'.own w') a w
section
variable {P : Program} {l : Nat} {Q Q' : Exit → S → Prop} {s : S}
theorem AWR.skip (h : Q .normal s) : AWR P l .skip Q s := fun c a w g => wpIn_skip ⟨s, c, h, g, .refl _ _ _⟩
theorem AWR.exit {id : Nat} (h : Q (.exit id) s) : AWR P l (.exit id) Q s := fun c a w g => wpIn_exit ⟨s, c, h, g, .refl _ _ _⟩
theorem AWR.ret (h : Q .ret s) : AWR P l .ret Q s := fun c a w g => wpIn_ret ⟨s, c, h, g, .refl _ _ _⟩
theorem AWR.seq {x y : Code} (h : AWR P l x (Eth (AWR P l y Q) Q) s) : AWR P l (.seq x y) Q s := by
  intro c a w g
  refine wpIn_seq (wpIn_mono (h c a w g) ?_)
  rintro e a1 w1 ⟨s1, c1, q, g1, x1⟩
  cases e with
  | normal => exact wpIn_mono (q c1 a1 w1 g1) fun e a2 w2 ⟨s2, c2, q2, g2, x2⟩ => ⟨s2, c2, q2, g2, x1.trans x2⟩
  | _ => exact ⟨s1, c1, q, g1, x1⟩
theorem AWR.mono {cd : Code} (h : AWR P l cd Q s) (hq : ∀ e s', Q e s' → Q' e s') : AWR P l cd Q' s :=
  fun c a w g => wpIn_mono (h c a w g) fun _ _ _ ⟨s', c', q, r⟩ => ⟨s', c', hq _ _ q, r⟩
theorem AWR.cond {y : Operand} {t e : Code} (b : Bool) (hy : s.eval y = tv (.bool b)) (ht : b = true → AWR P l t Q s) (he : b = false → AWR P l e Q s) : AWR P l (.cond y t e) Q s := by
  intro c a w g
  have hv := g.eval y
  rw [hy] at hv
  have hv : a.eval y = .bool b := rep_tv hv
  refine wpIn_cond hv ?_
  cases b
  · exact he rfl c a w g
  · exact ht rfl c a w g
theorem AWR.condD {y : Operand} {t e : Code} {p : Prop} [Decidable p] (hy : s.eval y = tv (.bool (decide p))) (ht : p → AWR P l t Q s) (he : ¬ p → AWR P l e Q s) : AWR P l (.cond y t e) Q s :=
  AWR.cond _ hy (fun h => ht (of_decide_eq_true h)) (fun h => he (of_decide_eq_false h))
theorem AWR.condT {y : Operand} {t e : Code} (hy : s.eval y = bX true) (ht : AWR P l t Q s) : AWR P l (.cond y t e) Q s := AWR.cond true hy (fun _ => ht) (fun h => by cases h)
theorem AWR.condF {y : Operand} {t e : Code} (hy : s.eval y = bX false) (he : AWR P l e Q s) : AWR P l (.cond y t e) Q s := AWR.cond false hy (fun h => by cases h) (fun _ => he)
theorem AWR.block {id : Nat} {cd : Code} (h : AWR P l cd (EBlock id Q) s) : AWR P l (.block id cd) Q s := by
  intro c a w g
  refine wpIn_block (wpIn_mono (h c a w g) ?_)
  rintro e a1 w1 ⟨s1, c1, q, g1, x1⟩
  cases e with
  | exit id' =>
    simp only [Exit.inBlock, EBlock] at q ⊢
    split
    · rename_i he; rw [if_pos he] at q; exact ⟨s1, c1, q, g1, x1⟩
    · rename_i he; rw [if_neg he] at q; exact ⟨s1, c1, q, g1, x1⟩
  | _ => exact ⟨s1, c1, q, g1, x1⟩
theorem AWR.wk {cd : Code} {s' : S} (hw : Wk s s') (h : AWR P l cd Q s') : AWR P l cd Q s := fun c a w g => by
  obtain ⟨c', g', x'⟩ := hw c a w g
  exact wpIn_mono (h c' a w g') fun e a1 w1 ⟨s1, c1, q, g1, x1⟩ => ⟨s1, c1, q, g1, x'.trans x1⟩
theorem AWR.gh {cd : Code} {F : S → Prop} (hg : Gh s F) (h : ∀ s', F s' → AWR P l cd Q s') : AWR P l cd Q s := fun c a w g => by
  obtain ⟨s', c', hf, g', x'⟩ := hg c a w g
  exact wpIn_mono (h s' hf c' a w g') fun e a1 w1 ⟨s1, c1, q, g1, x1⟩ => ⟨s1, c1, q, g1, x'.trans x1⟩
theorem AWR.seqM {x y : Code} (M : S → Prop) (h : AWR P l x (Eth (fun s' => ∃ s'', Wk s' s'' ∧ M s'') Q) s) (hy : ∀ s', M s' → AWR P l y Q s') : AWR P l (.seq x y) Q s :=
  AWR.seq (h.mono fun e s' q => by
    cases e with
    | normal => obtain ⟨s'', hk, hm⟩ := q; exact (hy s'' hm).wk hk
    | _ => exact q)
theorem AWR.reg {id : Nat} {ops : List Oper} (nd : ndB ops.toArray = true) (h : SeqK P ops.toArray (Q .normal) ops s) : AWR P l (.region id ops.toArray false) Q s := fun c a w g => wpIn_region (wpOpsIn_round nd _ _ _ (seq_start h g))
theorem AWR.draw {id : Nat} {ops : List Oper} (nd : ndB ops.toArray = true) (hm : P.follows .mixedOrders = true) (h : LexK P ops.toArray (Q .normal) ops s 0 []) : AWR P l (.region id ops.toArray true) Q s := fun c a w g => wpIn_region_any hm (wpAnyIn_round nd _ _ _ _ (lex_start h g))
theorem AWR.drawO {id : Nat} {ops : List Oper} (pi : List Nat) (nd : ndB ops.toArray = true) (hm : P.follows .mixedOrders = true) (hp : permB ops.length pi = true) (h : LexO P ops.toArray (Q .normal) pi s []) : AWR P l (.region id ops.toArray true) Q s := fun c a w g => wpIn_region_any hm (wpAnyIn_round nd _ _ _ _ (lexO_start pi hp h g))
end
end Go.Proofs.YtfbdokfcebpkaaaDoor.E
/- Loops over functions: the call that makes a round, what an iterator promises, the loop. Plain theorems, for any program. -/
namespace Go.Proofs.YtfbdokfcebpkaaaDoor.E
open Go.RowKit
set_option linter.unusedVariables false
/-! ### a call of yield -/
def YSpec (P : Program) (kl : Nat) (args : List C) (H : Heap) (Q : Bool → Heap → Prop) : Prop :=
  ∀ (c : Ctx) (w : World) (vs : Array Value) (b m : Nat), Conc c (ownH H) w → c.β kl = some (b, m) → Reps (RepC c.μ c.β) args vs.toList →
    YieldAt Fence.wide 0 P b vs w fun e w' => ∃ r H' c', e = .returned (.bool r) ∧ Q r H' ∧ Conc c' (ownH H') w' ∧ Ext c (ownH H) w c' (ownH H') w'
section
variable {P : Program} {all : Array Oper} {o : Oper} {K : S → Prop} {rest : List Oper} {n d : Nat} {t : Nat → X} {L : Nat → Option AO} {H : Heap}
theorem OpW.callY {z : Operand} {kl : Nat} {ys : Array Operand} {ts : Array TypeId} {args : List C} {Q : Bool → Heap → Prop} (ho : o.op = .call { callee := .value z, args := ys, argTypes := ts }) (hg : o.guard = none) (hdst : o.dst = some d) (hd : Nat.blt d n = true) (hz : S.eval ⟨n, t, L, H⟩ z = .c (.a (.yl kl))) (ha : argsX ⟨n, t, L, H⟩ ys.toList = some args) (h : YSpec P kl args H Q)
    (k : ∀ r H', Q r H' → K ⟨n, upd t d (bX r), L, H'⟩) : OpW P all o K ⟨n, t, L, H⟩ := fun c a w g => by
  unfold opRun
  rw [if_pos (by simp [Region.wanted, hg])]
  have hr : Reps (RepC c.μ c.β) args (ys.map a.eval).toList := by
    have := args_rep (c := c) (f := a.eval) ha fun y _ => g.eval y
    simpa using this
  have hzv := g.eval z
  rw [hz] at hzv
  have hzv : RepA c.μ c.β (.yl kl) (a.eval z) := hzv
  obtain ⟨b, m, hb, hv⟩ : ∃ b m, c.β kl = some (b, m) ∧ a.eval z = .func (.yield b) #[] #[] := by
    generalize a.eval z = v at hzv
    cases hzv with
    | yl h => exact ⟨_, _, h, rfl⟩
  have hc : Conc c (ownH H) w := g.conc.sub fun i x h => by cases i with
    | e k => exact h
    | l d => cases h
  obtain ⟨fn, tmps, as, bd, hrun, hround⟩ := h c w (ys.map a.eval) b m hc hb hr
  have hex : (execOp a.eval o).run P w = .ok (.round b fn tmps as bd) w := by
    simp [execOp, ho, resolve, hv, Deferred.ofValue, invoke, hrun]
  refine ⟨fun _ _ => trivial, ?_⟩
  rw [show o.semAt Fence.wide.round a.eval = execOp a.eval o from rfl, hex, Oper.uponIn_round]
  refine ⟨fun e => by simp [Fence.wide] at e, RoundIn.mono hround ?_⟩
  rintro e w' ⟨r, H', c', rfl, hq, hc', hx'⟩
  obtain ⟨g', x'⟩ := g.call hc' hx'
  refine ⟨_, { c' with lam := c.lam }, k r H' hq, ?_, x'⟩
  · have := g'.put (some d) (x := bX r) (v := .bool r) (by have h9 := inb' (o := o) hdst hd; rw [hdst] at h9; exact h9) (tv_rep rfl) (fun _ h => by cases h)
    rw [hdst]; exact this
theorem SeqK.callY {z : Operand} {kl : Nat} {ys : Array Operand} {ts : Array TypeId} {args : List C} {Q : Bool → Heap → Prop} (ho : o.op = .call { callee := .value z, args := ys, argTypes := ts }) (hg : o.guard = none) (hdst : o.dst = some d) (hd : Nat.blt d n = true) (hz : S.eval ⟨n, t, L, H⟩ z = .c (.a (.yl kl))) (ha : argsX ⟨n, t, L, H⟩ ys.toList = some args) (h : YSpec P kl args H Q)
    (k : ∀ r H', Q r H' → SeqK P all K rest ⟨n, upd t d (bX r), L, H'⟩) : SeqK P all K (o :: rest) ⟨n, t, L, H⟩ := SeqK.any (OpW.callY ho hg hdst hd hz ha h k)
end
/-! ### a round -/
def keepC : X → Option C
  | .c x => some x
  | _ => none
def cX : X → X
  | .c x => .c x
  | _ => .any
/-- the slots of a round: as they stood when the loop was entered, then yield's arguments -/
def roundT (t : Nat → X) : List Nat → List C → Nat → X
  | p :: ps, x :: xs => roundT (upd t p (.c x)) ps xs
  | _, _ => t
def jumpOf : Exit → Option Code
  | .ret => some .ret
  | .exit id => some (.exit id)
  | _ => none
def RPost (J : Heap → Prop) (Jx : Exit → Heap → Prop) : Exit → S → Prop
  | .normal, s => ∃ H', (∀ k o, H' k = some o → s.H k = some o) ∧ J H'
  | .exit id, s => ∃ H', (∀ k o, H' k = some o → s.H k = some o) ∧ Jx (.exit id) H'
  | .ret, s => ∃ H', (∀ k o, H' k = some o → s.H k = some o) ∧ Jx .ret H'
  | _, _ => False
theorem roundT_rep {c : Ctx} : ∀ (ps : List Nat) (xs : List C) (vs : List Value) (t : Nat → X) (tm : Array Value), Reps (RepC c.μ c.β) xs vs → ps.length = xs.length → (∀ p, p ∈ ps → p < tm.size) → (∀ i, RepX c (t i) (tm.getD i undef)) →
    ∀ i, RepX c (roundT t ps xs i) (((ps.zip vs).foldl (fun tm q => tm.setIfInBounds q.1 q.2) tm).getD i undef)
  | [], [], vs, t, tm, hr, hl, hp, h => by
    have : vs = [] := List.eq_nil_of_length_eq_zero hr.1.symm
    subst this
    exact h
  | [], _ :: _, _, _, _, _, hl, _, _ => by simp at hl
  | _ :: _, [], _, _, _, _, hl, _, _ => by simp at hl
  | p :: ps, x :: xs, vs, t, tm, hr, hl, hp, h => by
    cases vs with
    | nil => have := hr.1; simp at this
    | cons v vs =>
      have h1 : RepC c.μ c.β x v := hr.2 0 x v rfl rfl
      have h2 : Reps (RepC c.μ c.β) xs vs := ⟨by have := hr.1; simpa using this, fun i y u hy hu => hr.2 (i + 1) y u (by simpa using hy) (by simpa using hu)⟩
      have hlt := hp p (by simp)
      simp only [List.zip_cons_cons, List.foldl_cons, roundT]
      refine roundT_rep ps xs vs (upd t p (.c x)) (tm.setIfInBounds p v) h2 (by simpa using hl) (fun q hq => by rw [Array.size_setIfInBounds]; exact hp q (by simp [hq])) fun i => ?_
      simp only [Array.getD_eq_getD_getElem?, Array.getElem?_setIfInBounds]
      by_cases e : p = i
      · subst e
        rw [upd_same, if_pos rfl, if_pos hlt]
        exact h1
      · rw [upd_ne _ _ (Ne.symm e), if_neg e]
        have := h i
        rwa [Array.getD_eq_getD_getElem?] at this
theorem roundT_loc : ∀ (ps : List Nat) (xs : List C) (t : Nat → X), (∀ i, (t i).loc = none) → ∀ i, (roundT t ps xs i).loc = none
  | [], _, t, h, i => h i
  | _ :: _, [], t, h, i => h i
  | p :: ps, x :: xs, t, h, i => roundT_loc ps xs _ (fun j => by
    by_cases e : j = p
    · subst e; rw [upd_same]; rfl
    · rw [upd_ne _ _ e]; exact h j) i
theorem foldl_size : ∀ (l : List (Nat × Value)) (tm : Array Value), (l.foldl (fun tm q => tm.setIfInBounds q.1 q.2) tm).size = tm.size
  | [], _ => rfl
  | q :: l, tm => by rw [List.foldl_cons, foldl_size l, Array.size_setIfInBounds]
section
variable {P : Program}
/-- one round: yield's call, out of the body's walk -/
theorem round_spec {kl : Nat} {r : Loop} {t : Nat → X} {H1 : Heap} {args : List C} {J : Heap → Prop} {Jx : Exit → Heap → Prop} (hst : r.state = .ready) (hpd : r.pending = none) (hk : H1 kl = none) (hsz : args.length = r.params.size) (hin : ∀ p, p ∈ r.params.toList → p < r.tmps.size)
    (hbody : ∀ l, AWR P l r.assign (fun e s1 => e = .normal ∧ AWR P l r.body (RPost J Jx) s1) ⟨r.tmps.size, roundT (fun i => cX (t i)) r.params.toList args, fun _ => none, H1⟩) :
    YSpec P kl args (upd H1 kl (some (.loop r fun i => keepC (t i)))) fun b H' => (b = true ∧ ∃ H2, J H2 ∧ H2 kl = none ∧ H' = upd H2 kl (some (.loop r fun i => keepC (t i)))) ∨
      (b = false ∧ ∃ e cd H2, jumpOf e = some cd ∧ Jx e H2 ∧ H2 kl = none ∧ H' = upd H2 kl (some (.loop { r with state := .done, pending := some cd } fun i => keepC (t i)))) := by
  intro c w vs lb m hc hβ hrep
  obtain ⟨b0, m0, hp, hrec, htm⟩ := hc.obj (.e kl) _ (show upd H1 kl (some (.loop r fun i => keepC (t i))) kl = _ from upd_same _ _ _) (by simp [AO.empty])
  have hp : c.β kl = some (b0, m0) := hp
  rw [hβ] at hp; injection hp with hp; injection hp with e1 e2; subst e1 e2
  have hlt : lb < w.heap.size := (Array.getElem?_eq_some_iff.1 hrec).1
  have hvs : vs.size = r.params.size := by rw [← hsz, hrep.1, Array.length_toList]
  refine ⟨r.fn, _, r.assign, r.body, run_yield hrec hvs, roundIn_of_wpIn trivial ?_⟩
  obtain ⟨c0, hc0⟩ : ∃ c0 : Ctx, c0 = { c with base := w.heap.size } := ⟨_, rfl⟩
  -- the objects without the record
  have sub1 : ∀ i x, ownH H1 i = some x → ownH (upd H1 kl (some (.loop r fun i => keepC (t i)))) i = some x := fun i x h => by
    cases i with
    | l d => cases h
    | e k =>
      have h : H1 k = some x := h
      show upd H1 kl _ k = some x
      rw [upd_ne _ _ (fun e => by subst e; rw [hk] at h; cases h)]; exact h
  have hkne : ∀ k x, H1 k = some x → k ≠ kl := fun k x h e => by subst e; rw [hk] at h; cases h
  have un0 : ∀ i x n, ownH H1 i = some x → ¬ x.empty → c.pos i ≠ some (lb, n) := fun i x n hi hx hpos => by
    have := hc.inj i (.e kl) x _ lb n m (sub1 i x hi) (show upd H1 kl _ kl = _ from upd_same _ _ _) hx (by simp [AO.empty]) hpos hβ
    subst this
    have hi : H1 kl = some x := hi
    rw [hk] at hi; cases hi
  have hcn : Conc c0 (ownH H1) w := by subst hc0; exact (hc.sub sub1).rebase
  have hown : S.own ⟨r.tmps.size, roundT (fun i => cX (t i)) r.params.toList args, fun _ => none, H1⟩ = ownH H1 := by funext i; cases i <;> rfl
  have hloc0 : ∀ i, (cX (t i)).loc = none := fun i => by cases t i <;> rfl
  have htoks : ((r.params.zip vs).foldl (fun t (x : Nat × Value) => t.setIfInBounds x.1 x.2) r.tmps) = ((r.params.toList.zip vs.toList).foldl (fun tm q => tm.setIfInBounds q.1 q.2) r.tmps) := by
    rw [← Array.foldl_toList, Array.toList_zip]
  have g0 : Sat c0 ⟨r.tmps.size, roundT (fun i => cX (t i)) r.params.toList args, fun _ => none, H1⟩ { tmps := (r.params.zip vs).foldl (fun t (x : Nat × Value) => t.setIfInBounds x.1 x.2) r.tmps, defers := [] } w := by
    refine ⟨by rw [hown]; exact hcn, by rw [htoks]; exact foldl_size _ _, fun i => ?_, .nil (by subst hc0; exact Nat.le_refl _), fun i d h => ?_⟩
    · rw [htoks]
      refine roundT_rep (c := c0) _ _ _ _ _ (by subst hc0; exact hrep) (by simpa using hsz.symm) (fun p hp => hin p hp) (fun i => ?_) i
      cases ht : t i with
      | c x =>
        have := htm i x (by show keepC (t i) = some x; rw [ht]; rfl)
        subst hc0
        exact this
      | _ => trivial
    · have h : (roundT (fun i => cX (t i)) r.params.toList args i).loc = some d := h
      rw [roundT_loc _ _ _ hloc0 i] at h; cases h
  refine wpIn_mono (hbody lb c0 _ w g0) ?_
  rintro e a1 w1 ⟨s1, c1, ⟨rfl, hb⟩, g1, x1⟩
  rw [hown] at x1
  have pos0 : ∀ i, c0.pos i = c.pos i := fun i => by subst hc0; cases i <;> rfl
  have hl1 : w1.heap[lb]? = some (.loop r) := (x1.blk lb hlt fun i x n hi hx hpos => un0 i x n hi hx (by rw [← pos0]; exact hpos)).trans hrec
  have un1 : ∀ i x n, s1.own i = some x → ¬ x.empty → c1.pos i ≠ some (lb, n) := fun i x n hi hx hpos => by
    rcases x1.own i x lb n hi hx hpos with h1 | ⟨j, y, q, h1, h2, h3⟩
    · omega
    · exact un0 j y q h1 h2 (by rw [← pos0]; exact h3)
  have hlt1 : lb < w1.heap.size := (Array.getElem?_eq_some_iff.1 hl1).1
  refine ⟨_, run_beginRound hl1 hst, ?_⟩
  obtain ⟨w2, hw2⟩ : ∃ w2, w2 = w1.putObj lb (.loop { r with state := .busy }) := ⟨_, rfl⟩
  rw [← hw2]
  have hl2 : w2.heap[lb]? = some (.loop { r with state := .busy }) := by rw [hw2]; exact World.putObj_heap_same hlt1
  have hne : ∀ {u : World} {x : Loop} {b o v}, u.heap[lb]? = some (.loop x) → u.cell? ⟨b, o, none⟩ = some v → b ≠ lb := fun {u x b o v} h1 h2 e => by
    subst e; simp only [World.cell?, h1] at h2; cases h2
  have g2 : Sat c1 s1 a1 w2 := by
    refine ⟨⟨fun b o u hu => ?_, fun i x hi hx => ?_, g1.conc.inj, g1.conc.fin⟩, g1.size, g1.tmps, g1.defers.blk (by rw [hw2, World.putObj_size]; exact Nat.le_refl _) (fun D hD => ?_), g1.wf⟩
    · have h1 := g1.conc.mem b o u hu
      have h2 := hne hl1 h1
      rw [hw2]
      unfold World.cell? at h1 ⊢
      rw [World.putObj_heap_other h2]; exact h1
    · obtain ⟨b, n, h1, h2⟩ := g1.conc.obj i x hi hx
      exact ⟨b, n, h1, h2.keep (by rw [hw2]; exact World.putObj_heap_other fun e => un1 i x n hi hx (by rw [← e]; exact h1)) (fun _ _ _ h => h) (fun _ _ h => h) (fun _ _ h => h)⟩
    · rw [hw2]; exact World.putObj_heap_other fun e => by subst e; rw [hl1] at hD; cases hD
  refine wpIn_mono (hb c1 a1 w2 g2) ?_
  rintro e a2 w3 ⟨s2, c2, q, g3, x2⟩
  have hlt2 : lb < w2.heap.size := (Array.getElem?_eq_some_iff.1 hl2).1
  have hl3 : w3.heap[lb]? = some (.loop { r with state := .busy }) := (x2.blk lb hlt2 fun i x n hi hx => un1 i x n hi hx).trans hl2
  have hlt3 : lb < w3.heap.size := (Array.getElem?_eq_some_iff.1 hl3).1
  have un2 : ∀ i x n, s2.own i = some x → ¬ x.empty → c2.pos i ≠ some (lb, n) := fun i x n hi hx hpos => by
    rcases x2.own i x lb n hi hx hpos with h1 | ⟨j, y, q, h1, h2, h3⟩
    · omega
    · exact un1 j y q h1 h2 h3
  -- the same with the record as it was
  have xR : Ext c0 (ownH H1) w c2 s2.own (w3.putObj lb (.loop r)) := by
    refine x1.trans ⟨x2.os.trans (by rw [hw2]; rfl), x2.tape.trans (by rw [hw2]; rfl), x2.output.trans (by rw [hw2]; rfl), ?_, fun b hb hn => ?_, x2.mem, fun b o u hu => ?_, x2.ext, fun i x b n h1 h2 h3 => ?_, x2.base, x2.nm⟩
    · have := x2.size; rw [hw2, World.putObj_size] at this; rw [World.putObj_size]; exact this
    · by_cases e : b = lb
      · subst e; rw [World.putObj_heap_same hlt3, hl1]
      · rw [World.putObj_heap_other e, x2.blk b (by rw [hw2, World.putObj_size]; exact hb) hn, hw2, World.putObj_heap_other e]
    · rcases x2.new b o u hu with h1 | h1 | h1
      · exact .inl h1
      · exact .inr (.inl (by rw [hw2, World.putObj_size] at h1; exact h1))
      · exact .inr (.inr h1)
    · rcases x2.own i x b n h1 h2 h3 with h4 | h4
      · exact .inl (by rw [hw2, World.putObj_size] at h4; exact h4)
      · exact .inr h4
  have hβ2 : c2.β kl = some (lb, m) := xR.ext kl _ (by subst hc0; exact hβ)
  have hkl2 : ∀ H2 : Heap, (∀ k o, H2 k = some o → s2.H k = some o) → H2 kl = none := fun H2 hs => by
    cases h2 : H2 kl with
    | none => rfl
    | some y =>
      rcases xR.nm kl y (hs kl y h2) with h1 | h1
      · exact absurd hk h1
      · subst hc0; rw [show c.β kl = _ from hβ] at h1; cases h1
  have fin : ∀ (r' : Loop) (H2 : Heap), r'.tmps = r.tmps → (∀ k o, H2 k = some o → s2.H k = some o) →
      ∃ c', Conc c' (ownH (upd H2 kl (some (.loop r' fun i => keepC (t i))))) (w3.putObj lb (.loop r')) ∧ Ext c (ownH (upd H1 kl (some (.loop r fun i => keepC (t i))))) w c' (ownH (upd H2 kl (some (.loop r' fun i => keepC (t i))))) (w3.putObj lb (.loop r')) := by
    intro r' H2 htmps hs
    have hk2 := hkl2 H2 hs
    have own2 : ∀ i x, ownH (upd H2 kl (some (.loop r' fun i => keepC (t i)))) i = some x → (i = .e kl ∧ x = .loop r' fun i => keepC (t i)) ∨ (i ≠ .e kl ∧ s2.own i = some x) := fun i x h => by
      cases i with
      | l d => cases h
      | e k =>
        have h : upd H2 kl _ k = some x := h
        by_cases e : k = kl
        · subst e; rw [upd_same] at h; injection h with h; exact .inl ⟨rfl, h.symm⟩
        · rw [upd_ne _ _ e] at h; exact .inr ⟨by simpa using e, hs k x h⟩
    refine ⟨{ c2 with base := c.base }, Conc.rebase (c := c2) ⟨fun b o u hu => ?_, fun i x hi hx => ?_, fun i j x y b n1 n2 hi hj hx hy h1 h2 => ?_, ?_⟩, ?_⟩
    · have h1 := g3.conc.mem b o u hu
      have h2 := hne hl3 h1
      unfold World.cell? at h1 ⊢
      rw [World.putObj_heap_other h2]; exact h1
    · rcases own2 i x hi with ⟨rfl, rfl⟩ | ⟨hne', h1⟩
      · refine ⟨lb, m, hβ2, World.putObj_heap_same hlt3, fun j y hy => ?_⟩
        rw [htmps]
        exact RepC.mono xR.mem xR.ext (by subst hc0; exact htm j y hy)
      · obtain ⟨b, n, h2, h3⟩ := g3.conc.obj i x h1 hx
        exact ⟨b, n, h2, h3.keep (World.putObj_heap_other fun e => un2 i x n h1 hx (by rw [← e]; exact h2)) (fun _ _ _ h => h) (fun _ _ h => h) (fun _ _ h => h)⟩
    · rcases own2 i x hi with ⟨rfl, rfl⟩ | ⟨hni, hi'⟩
      · rcases own2 j y hj with ⟨rfl, rfl⟩ | ⟨hnj, hj'⟩
        · rfl
        · have h1 : c2.β kl = some (b, n1) := h1
          rw [hβ2] at h1; injection h1 with h1; injection h1 with e1 e2; subst e1
          exact absurd h2 (un2 j y n2 hj' hy)
      · rcases own2 j y hj with ⟨rfl, rfl⟩ | ⟨hnj, hj'⟩
        · have h2 : c2.β kl = some (b, n2) := h2
          rw [hβ2] at h2; injection h2 with h2; injection h2 with e1 e2; subst e1
          exact absurd h1 (un2 i x n1 hi' hx)
        · exact g3.conc.inj i j x y b n1 n2 hi' hj' hx hy h1 h2
    · obtain ⟨N, hN⟩ := g3.conc.fin
      refine ⟨N, fun k hkN => ⟨(hN k hkN).1, ?_⟩⟩
      have e : k ≠ kl := fun e => by subst e; rw [(hN k hkN).1] at hβ2; cases hβ2
      show upd H2 kl _ k = none
      rw [upd_ne _ _ e]
      cases h2 : H2 k with
      | none => rfl
      | some y => have := hs k y h2; rw [show s2.H k = none from (hN k hkN).2] at this; cases this
    · have own1 : ∀ i x, ownH H1 i = some x → ownH (upd H1 kl (some (.loop r fun i => keepC (t i)))) i = some x := sub1
      refine ⟨xR.os, xR.tape, xR.output, ?_, fun b hb hn => ?_, fun b o u hu => xR.mem b o u (by subst hc0; exact hu), fun b o u hu => ?_, fun k p hp => xR.ext k p (by subst hc0; exact hp), fun i x b n hi hx hpos => ?_, rfl, fun k x hx => ?_⟩
      · have := xR.size; rw [World.putObj_size] at this ⊢; exact this
      · have e : b ≠ lb := fun e => by
          subst e
          exact hn (.e kl) _ m (show upd H1 kl _ kl = _ from upd_same _ _ _) (by simp [AO.empty]) hβ
        have := xR.blk b hb fun i x n hi hx hpos => hn i x n (own1 i x hi) hx (by rw [← pos0]; exact hpos)
        rw [World.putObj_heap_other e] at this ⊢
        exact this
      · rcases xR.new b o u hu with h1 | h1 | ⟨i, x, n, h1, h2, h3⟩
        · exact .inl (by subst hc0; exact h1)
        · exact .inr (.inl h1)
        · exact .inr (.inr ⟨i, x, n, own1 i x h1, h2, by rw [← pos0]; exact h3⟩)
      · have hpos' : c2.pos i = some (b, n) := by cases i <;> exact hpos
        rcases own2 i x hi with ⟨rfl, rfl⟩ | ⟨hni, hi'⟩
        · have hpos' : c2.β kl = some (b, n) := hpos'
          rw [hβ2] at hpos'; injection hpos' with h1; injection h1 with e1 e2; subst e1
          exact .inr ⟨.e kl, _, m, show upd H1 kl _ kl = _ from upd_same _ _ _, by simp [AO.empty], hβ⟩
        · rcases xR.own i x b n hi' hx hpos' with h1 | ⟨j, y, q, h1, h2, h3⟩
          · exact .inl h1
          · exact .inr ⟨j, y, q, own1 j y h1, h2, by rw [← pos0]; exact h3⟩
      · rcases own2 _ x hx with ⟨e, _⟩ | ⟨hni, hi'⟩
        · injection e with e; subst e
          exact .inl (by show upd H1 k _ k ≠ none; rw [upd_same]; simp)
        · have e : k ≠ kl := by simpa using hni
          rcases xR.nm k x hi' with h1 | h1
          · exact .inl (by show upd H1 kl _ k ≠ none; rw [upd_ne _ _ e]; exact h1)
          · exact .inr (by subst hc0; exact h1)
  have hrr : ∀ (st : LoopState) (pd : Option Code), ({ { r with state := .busy } with state := st, pending := pd } : Loop) = { r with state := st, pending := pd } := fun _ _ => rfl
  have hr0 : ({ r with state := .ready, pending := none } : Loop) = r := by cases r; simp at hst hpd; subst hst hpd; rfl
  cases e with
  | normal =>
    obtain ⟨H2, hs, hJ⟩ := q
    obtain ⟨c', h1, h2⟩ := fin r H2 rfl hs
    refine ⟨_, _, run_endRound none hl3, true, _, c', rfl, .inl ⟨rfl, H2, hJ, hkl2 H2 hs, rfl⟩, ?_, ?_⟩
    · show Conc c' _ (w3.putObj lb (.loop { r with state := .ready, pending := none }))
      rw [hr0]; exact h1
    · show Ext c _ w c' _ (w3.putObj lb (.loop { r with state := .ready, pending := none }))
      rw [hr0]; exact h2
  | ret =>
    obtain ⟨H2, hs, hJ⟩ := q
    obtain ⟨c', h1, h2⟩ := fin { r with state := .done, pending := some .ret } H2 rfl hs
    exact ⟨_, _, run_endRound (some .ret) hl3, false, _, c', rfl, .inr ⟨rfl, .ret, .ret, H2, rfl, hJ, hkl2 H2 hs, rfl⟩, h1, h2⟩
  | exit id =>
    obtain ⟨H2, hs, hJ⟩ := q
    obtain ⟨c', h1, h2⟩ := fin { r with state := .done, pending := some (.exit id) } H2 rfl hs
    exact ⟨_, _, run_endRound (some (.exit id)) hl3, false, _, c', rfl, .inr ⟨rfl, .exit id, .exit id, H2, rfl, hJ, hkl2 H2 hs, rfl⟩, h1, h2⟩
  | goto => exact q.elim
  | panic => exact q.elim
  | outgrown => exact q.elim
end
end Go.Proofs.YtfbdokfcebpkaaaDoor.E
/- Loops over functions: what an iterator promises, the loop. Plain theorems, for any program. -/
namespace Go.Proofs.YtfbdokfcebpkaaaDoor.E
open Go.RowKit
set_option linter.unusedVariables false
/-- the function g, over what it has captured, hands the elements of one of the lists Xs to whoever asks, in turn, as long as I is true of the objects -/
def IterS (P : Program) (g : FuncId) (cs : List A) {α : Type} (enc : α → List C) (Xs : List α → Prop) (I : Heap → Prop) : Prop :=
  ∀ (kl : Nat) (J : List α → Heap → Prop) (Jx : Heap → Prop) (H : Heap), J [] H → (∀ pre H, J pre H → I H) →
    (∀ xs pre x H, Xs xs → (pre ++ [x]) <+: xs → J pre H → YSpec P kl (enc x) H fun b H' => (b = true ∧ J (pre ++ [x]) H') ∨ (b = false ∧ Jx H')) →
    Spec P g (.a (.yl kl) :: cs.map C.a) H fun _ H' => (∃ xs, Xs xs ∧ J xs H') ∨ Jx H'
section
variable {P : Program} {Q : Exit → S → Prop} {n : Nat} {t : Nat → X} {L : Nat → Option AO} {H : Heap}
theorem Sat.unloop {c c' : Ctx} {a : Act} {w w1 w' : World} {kl : Nat} {lo lo' : AO} {r' : Loop} {H1 : Heap} {o' : Obj} (g : Sat c ⟨n, t, L, H⟩ a w) (hL : ∀ d, L d = none) (hk : H kl = none) (hβ : c.β kl = none)
    (hw1 : w1.os = w.os ∧ w1.tape = w.tape ∧ w1.output = w.output) (hsz1 : w1.heap.size = w.heap.size + 2) (hblk : ∀ b, b < w.heap.size → w1.heap[b]? = w.heap[b]?) (hD : w1.heap[w.heap.size]? = some (.deferred (some []))) (hlo : ¬ lo.empty)
    (hc1 : Conc { c with β := upd c.β kl (some (w.heap.size + 1, 0)) } (ownH (upd H kl (some lo))) w1) (hk1 : H1 kl = none) (hlo' : ¬ lo'.empty) (hc' : Conc c' (ownH (upd H1 kl (some lo'))) w') (hE : Ext { c with β := upd c.β kl (some (w.heap.size + 1, 0)) } (ownH (upd H kl (some lo))) w1 c' (ownH (upd H1 kl (some lo'))) w') (hl : w'.heap[w.heap.size + 1]? = some (.loop r')) :
    Sat { c' with lam := c.lam } ⟨n, t, L, H1⟩ { a with defers := mark w.heap.size :: a.defers } (w'.putObj (w.heap.size + 1) o') ∧ Ext c (S.own ⟨n, t, L, H⟩) w { c' with lam := c.lam } (S.own ⟨n, t, L, H1⟩) (w'.putObj (w.heap.size + 1) o') := by
  have hβ' : c'.β kl = some (w.heap.size + 1, 0) := hE.ext kl _ (upd_same _ _ _)
  have up : ∀ k p, c.β k = some p → upd c.β kl (some (w.heap.size + 1, 0)) k = some p := fun k p h => by
    rw [upd_ne _ _ (fun e => by subst e; rw [hβ] at h; cases h)]; exact h
  have ext : ∀ k p, c.β k = some p → c'.β k = some p := fun k p h => hE.ext k p (up k p h)
  have own1 : ∀ i x, S.own ⟨n, t, L, H1⟩ i = some x → ownH (upd H1 kl (some lo')) i = some x ∧ ∃ k, i = .e k ∧ k ≠ kl := fun i x h => by
    cases i with
    | l d => rw [show S.own ⟨n, t, L, H1⟩ (.l d) = L d from rfl, hL d] at h; cases h
    | e k =>
      have h : H1 k = some x := h
      have e : k ≠ kl := fun e => by subst e; rw [hk1] at h; cases h
      exact ⟨by show upd H1 kl _ k = some x; rw [upd_ne _ _ e]; exact h, k, rfl, e⟩
  have own0 : ∀ i x, ownH (upd H kl (some lo)) i = some x → (i = .e kl ∧ x = lo) ∨ (∃ k, i = .e k ∧ k ≠ kl ∧ S.own ⟨n, t, L, H⟩ i = some x) := fun i x h => by
    cases i with
    | l d => cases h
    | e k =>
      have h : upd H kl _ k = some x := h
      by_cases e : k = kl
      · subst e; rw [upd_same] at h; injection h with h; exact .inl ⟨rfl, h.symm⟩
      · rw [upd_ne _ _ e] at h; exact .inr ⟨k, rfl, e, h⟩
  have un : ∀ i x b m, S.own ⟨n, t, L, H1⟩ i = some x → ¬ x.empty → c'.pos i = some (b, m) → b ≠ w.heap.size + 1 := fun i x b m hi hx hp e => by
    subst e
    obtain ⟨h1, k, rfl, hne⟩ := own1 i x hi
    have := hc'.inj (.e k) (.e kl) x _ _ m 0 h1 (show upd H1 kl _ kl = _ from upd_same _ _ _) hx hlo' hp hβ'
    injection this with this; exact hne this
  have keepD : ∀ D : Nat, w1.heap[D]? = some (.deferred (some [])) → w'.heap[D]? = w1.heap[D]? := fun D hDD => hE.blk D (Array.getElem?_eq_some_iff.1 hDD).1 fun i x m hi hx hp => by
    obtain ⟨b, q, h1, h2⟩ := hc1.obj i x hi hx
    rw [hp] at h1; injection h1 with h1; injection h1 with h1; subst h1
    exact h2.nd hDD
  have hlt1 : w.heap.size + 1 < w'.heap.size := (Array.getElem?_eq_some_iff.1 hl).1
  have notl : ∀ D : Nat, w1.heap[D]? = some (.deferred (some [])) → D ≠ w.heap.size + 1 := fun D hDD e => by
    have := keepD D hDD
    rw [hDD] at this; subst e; rw [hl] at this; cases this
  refine ⟨⟨⟨fun b o u hu => ?_, fun i x hi hx => ?_, fun i j x y b m q hi hj hx hy h1 h2 => ?_, ?_⟩, g.size, fun i => ?_, ?_, fun i d h => ?_⟩, ?_⟩
  · have h1 := hc'.mem b o u hu
    have h2 : b ≠ w.heap.size + 1 := fun e => by subst e; simp only [World.cell?, hl] at h1; cases h1
    unfold World.cell? at h1 ⊢
    rw [World.putObj_heap_other h2]; exact h1
  · obtain ⟨h1, k, rfl, hne⟩ := own1 i x hi
    obtain ⟨b, m, h2, h3⟩ := hc'.obj (.e k) x h1 hx
    exact ⟨b, m, h2, h3.keep (World.putObj_heap_other (un (.e k) x b m hi hx h2)) (fun _ _ _ h => h) (fun _ _ h => h) (fun _ _ h => h)⟩
  · obtain ⟨h3, k, rfl, _⟩ := own1 i x hi
    obtain ⟨h4, k', rfl, _⟩ := own1 j y hj
    exact hc'.inj _ _ x y b m q h3 h4 hx hy h1 h2
  · obtain ⟨N, hN⟩ := hc'.fin
    refine ⟨N, fun k hk' => ⟨(hN k hk').1, ?_⟩⟩
    cases h2 : S.own ⟨n, t, L, H1⟩ (.e k) with
    | none => rfl
    | some y => have := (own1 _ y h2).1; rw [(hN k hk').2] at this; cases this
  · exact RepX.mono (c := c) (c' := { c' with lam := c.lam }) hE.mem ext rfl (g.tmps i)
  · obtain ⟨h0, Ds, h1, h2, h3⟩ := g.defers
    have hb : ({ c' with lam := c.lam } : Ctx).base = c.base := hE.base
    have hs : w1.heap.size ≤ w'.heap.size := hE.size
    refine ⟨by rw [hb, World.putObj_size]; omega, w.heap.size :: Ds, by rw [h1]; rfl, List.nodup_cons.2 ⟨fun hm => ?_, h2⟩, fun D hm => ?_⟩
    · have := (Array.getElem?_eq_some_iff.1 (h3 _ hm).2).1; omega
    · rw [hb]
      rcases List.mem_cons.1 hm with rfl | hm
      · exact ⟨h0, by rw [World.putObj_heap_other (notl _ hD), keepD _ hD, hD]⟩
      · obtain ⟨h4, h5⟩ := h3 D hm
        have h6 := (hblk D (Array.getElem?_eq_some_iff.1 h5).1).trans h5
        exact ⟨h4, by rw [World.putObj_heap_other (notl _ h6), keepD _ h6, h6]⟩
  · exact g.wf i d h
  · refine ⟨hE.os.trans hw1.1, hE.tape.trans hw1.2.1, hE.output.trans hw1.2.2, ?_, fun b hb hn => ?_, hE.mem, fun b o u hu => ?_, ext, fun i x b m hi hx hp => ?_, hE.base, fun k x hx => ?_⟩
    · have := hE.size; rw [World.putObj_size]; omega
    · rw [World.putObj_heap_other (by omega), hE.blk b (by omega) fun i x m hi hx hp => ?_, hblk b hb]
      rcases own0 i x hi with ⟨rfl, rfl⟩ | ⟨k, rfl, hne, h1⟩
      · have hp : upd c.β kl (some (w.heap.size + 1, 0)) kl = some (b, m) := hp
        rw [upd_same] at hp; injection hp with hp; injection hp with hp; omega
      · have hp : upd c.β kl (some (w.heap.size + 1, 0)) k = some (b, m) := hp
        rw [upd_ne _ _ hne] at hp
        exact hn (.e k) x m h1 hx hp
    · rcases hE.new b o u hu with h1 | h1 | ⟨i, x, m, h1, h2, h3⟩
      · exact .inl h1
      · exact .inr (.inl (by omega))
      · rcases own0 i x h1 with ⟨rfl, rfl⟩ | ⟨k, rfl, hne, h4⟩
        · have h3 : upd c.β kl (some (w.heap.size + 1, 0)) kl = some (b, m) := h3
          rw [upd_same] at h3; injection h3 with h3; injection h3 with h3
          exact .inr (.inl (by omega))
        · have h3 : upd c.β kl (some (w.heap.size + 1, 0)) k = some (b, m) := h3
          rw [upd_ne _ _ hne] at h3
          exact .inr (.inr ⟨.e k, x, m, h4, h2, h3⟩)
    · obtain ⟨h1, k, rfl, hne⟩ := own1 i x hi
      rcases hE.own (.e k) x b m h1 hx hp with h2 | ⟨j, y, q, h2, h3, h4⟩
      · exact .inl (by omega)
      · rcases own0 j y h2 with ⟨rfl, rfl⟩ | ⟨k', rfl, hne', h5⟩
        · have h4 : upd c.β kl (some (w.heap.size + 1, 0)) kl = some (b, q) := h4
          rw [upd_same] at h4; injection h4 with h4; injection h4 with h4
          exact .inl (by omega)
        · have h4 : upd c.β kl (some (w.heap.size + 1, 0)) k' = some (b, q) := h4
          rw [upd_ne _ _ hne'] at h4
          exact .inr ⟨.e k', y, q, h5, h3, h4⟩
    · obtain ⟨h1, k', hk', hne⟩ := own1 (.e k) x hx
      injection hk' with hk'; subst hk'
      rcases hE.nm k x h1 with h2 | h2
      · refine .inl ?_
        have h2 : upd H kl (some lo) k ≠ none := h2
        rw [upd_ne _ _ hne] at h2; exact h2
      · refine .inr ?_
        have h2 : upd c.β kl (some (w.heap.size + 1, 0)) k = none := h2
        rw [upd_ne _ _ hne] at h2; exact h2
/-- a loop over a function -/
theorem AW.rangeF {fo : Operand} {ps : Array Nat} {as bd : Code} {gf : FuncId} {cs : List A} {α : Type} {enc : α → List C} {Xs : List α → Prop} {I : Heap → Prop}
    (hfo : fnX (S.eval ⟨n, t, L, H⟩ fo) = some (gf, cs)) (hfn : fnB P gf = true) (hL : ∀ d, L d = none) (hps : ∀ x, (enc x).length = ps.size) (hin : ∀ p, p ∈ ps.toList → p < n)
    (hit : IterS P gf cs enc Xs I) (hI : ∀ H H' : Heap, (∀ k o, H k = some o → H' k = some o) → I H → I H')
    (J : List α → Heap → Prop) (Jx : Exit → Heap → Prop) (h0 : J [] H) (hJI : ∀ pre H, J pre H → I H)
    (hbody : ∀ l xs pre x H1, Xs xs → (pre ++ [x]) <+: xs → J pre H1 → AWR P l as (fun e s1 => e = .normal ∧ AWR P l bd (RPost (J (pre ++ [x])) Jx) s1) ⟨n, roundT (fun i => cX (t i)) ps.toList (enc x), fun _ => none, H1⟩)
    (hdone : ∀ xs H1, Xs xs → J xs H1 → Q .normal ⟨n, t, L, H1⟩) (hstop : ∀ e H1, Jx e H1 → (jumpOf e).isSome = true → Q e ⟨n, t, L, H1⟩) : AW P (.rangeFunc fo ps as bd) Q ⟨n, t, L, H⟩ := by
  intro c a w g
  refine (wpIn_wide (n := 0)).1 (wpIn_rangeFunc ?_)
  intro fn _
  obtain ⟨r0, hr0⟩ : ∃ r0 : Loop, r0 = { state := .ready, pending := none, fn, tmps := a.tmps, params := ps, assign := as, body := bd, defers := w.heap.size } := ⟨_, rfl⟩
  obtain ⟨w1, hw1⟩ : ∃ w1, w1 = (w.alloc (.deferred (some []))).alloc (.loop r0) := ⟨_, rfl⟩
  have hsz1 : w1.heap.size = w.heap.size + 2 := by rw [hw1]; simp
  have hblk : ∀ b, b < w.heap.size → w1.heap[b]? = w.heap[b]? := fun b hb => by
    rw [hw1, Below.heap_alloc _ _ b (by simp; omega), Below.heap_alloc _ _ b hb]
  have hD : w1.heap[w.heap.size]? = some (.deferred (some [])) := by
    rw [hw1, Below.heap_alloc _ _ _ (by simp), World.alloc_heap_new]
  have hl1 : w1.heap[w.heap.size + 1]? = some (.loop r0) := by
    have := World.alloc_heap_new (w.alloc (.deferred (some []))) (.loop r0)
    rw [World.size_alloc] at this
    rw [hw1]; exact this
  have hm : Mk c w c w1 := .grew g.memOk (by rw [hw1]; rfl) (by rw [hw1]; rfl) (by rw [hw1]; rfl) (by omega) hblk
  have htl : ∀ i x, keepC (t i) = some x → RepC c.μ c.β x (a.tmps.getD i undef) := fun i x hx => by
    have := g.tmps i
    have e : t i = .c x := by
      cases ht : t i with
      | c y => rw [ht] at hx; injection hx with hx; rw [hx]
      | _ => rw [ht] at hx; cases hx
    have this : RepX c (t i) (a.tmps.getD i undef) := this
    rw [e] at this; exact this
  obtain ⟨kl, hH0, hβ0, g1, x1⟩ := g.newE (x := .loop r0 fun i => keepC (t i)) (b := w.heap.size + 1) (n := 0) hm (by omega) ⟨hl1, fun i x hx => by rw [hr0]; exact htl i x hx⟩
  obtain ⟨c1, hc1d⟩ : ∃ c1 : Ctx, c1 = { c with β := upd c.β kl (some (w.heap.size + 1, 0)) } := ⟨_, rfl⟩
  rw [← hc1d] at g1 x1
  have hc1 : Conc c1 (ownH (upd H kl (some (.loop r0 fun i => keepC (t i))))) w1 := g1.conc.sub fun i x h => by
    cases i with
    | e k => exact h
    | l d => cases h
  obtain ⟨vs, hv, hvs⟩ := fn_rep (g.eval fo) hfo
  have hβ1 : ∀ k p, c.β k = some p → c1.β k = some p := fun k p h => by
    subst hc1d
    show upd c.β kl _ k = some p
    rw [upd_ne _ _ (fun e => by subst e; rw [hβ0] at h; cases h)]; exact h
  have hargs : Reps (RepC c1.μ c1.β) (.a (.yl kl) :: cs.map C.a) (#[Value.func (.yield (w.heap.size + 1)) #[] #[]] ++ vs).toList := by
    rw [Array.toList_append]
    refine Reps.cons (l := cs.map C.a) ?_ (hvs.mono fun x v h => RepC.mono (by subst hc1d; exact fun _ _ _ h => h) hβ1 h)
    exact RepA.yl (c := 0) (by subst hc1d; exact upd_same _ _ _)
  have hcall := hit kl (fun pre H' => ∃ H1, J pre H1 ∧ H1 kl = none ∧ H' = upd H1 kl (some (.loop r0 fun i => keepC (t i))))
    (fun H' => ∃ e cd H2, jumpOf e = some cd ∧ Jx e H2 ∧ H2 kl = none ∧ H' = upd H2 kl (some (.loop { r0 with state := .done, pending := some cd } fun i => keepC (t i))))
    (upd H kl (some (.loop r0 fun i => keepC (t i)))) ⟨H, h0, hH0, rfl⟩ (fun pre H' ⟨H1, h1, h2, h3⟩ => by
      subst h3
      exact hI H1 _ (fun k o hk => by rw [upd_ne _ _ (fun e => by subst e; rw [h2] at hk; cases hk)]; exact hk) (hJI pre H1 h1))
    (fun xs pre x H' hx hpre ⟨H1, h1, h2, h3⟩ => by
      subst h3
      have hb := fun l => hbody l xs pre x H1 hx hpre h1
      have hn : r0.tmps.size = n := by rw [hr0]; exact g.size
      have hrs := round_spec (P := P) (kl := kl) (r := r0) (t := t) (H1 := H1) (args := enc x) (J := J (pre ++ [x])) (Jx := Jx) (by rw [hr0]) (by rw [hr0]) h2 (by rw [hr0]; exact hps x) (fun p hp => by rw [hn]; rw [hr0] at hp; exact hin p hp) (fun l => by rw [hn, hr0]; exact hb l)
      intro c w vs b m q1 q2 q3
      obtain ⟨fn, tm, as', bd', q4, q5⟩ := hrs c w vs b m q1 q2 q3
      refine ⟨fn, tm, as', bd', q4, RoundIn.mono q5 ?_⟩
      rintro e w' ⟨r, H', c', q6, q7, q8⟩
      refine ⟨r, H', c', q6, ?_, q8⟩
      rcases q7 with ⟨q7, H2, q9, q10, q11⟩ | q7
      · exact .inl ⟨q7, H2, q9, q10, q11⟩
      · exact .inr q7)
  refine ⟨w.heap.size + 1, [mark w.heap.size], w1, { target := .fn (.func gf) vs, args := #[.func (.yield (w.heap.size + 1)) #[] #[]] }, w1, gf, #[.func (.yield (w.heap.size + 1)) #[] #[]] ++ vs, w1, ?_, ?_, fun _ _ => trivial, ?_, fun e => by simp [Fence.wide] at e, ?_⟩
  · rw [hw1, hr0]; exact run_enterLoop_outer _ _ _ _ _
  · simp only [resolve, hv]
    simp [go_sem]
  · simp [invoke, go_sem, enter_run hfn]
  · refine (callsIn_wide (n := 0 - 1)).2 ((hcall c1 w1 _ hc1 hargs).mono ?_)
    rintro e w' ⟨v, x, H', c', rfl, hq, hx, hc', hE⟩
    have hβ' : c'.β kl = some (w.heap.size + 1, 0) := hE.ext kl _ (by subst hc1d; exact upd_same _ _ _)
    have rec' : ∀ (H2 : Heap) (r' : Loop), H' = upd H2 kl (some (.loop r' fun i => keepC (t i))) → w'.heap[w.heap.size + 1]? = some (.loop r') := fun H2 r' e => by
      subst e
      obtain ⟨b, m, h1, h2, _⟩ := hc'.obj (.e kl) _ (show upd H2 kl _ kl = _ from upd_same _ _ _) (by simp [AO.empty])
      have h1 : c'.β kl = some (b, m) := h1
      rw [hβ'] at h1; injection h1 with h1; injection h1 with e1 e2; subst e1; exact h2
    rcases hq with ⟨xs, hxs, H1, hJ, hk1, e⟩ | ⟨e, cd, H2, hj, hJx, hk2, e'⟩
    · have hl := rec' H1 r0 e
      subst e
      have := Sat.unloop (o' := .loop { r0 with state := .exhausted, pending := none }) g hL hH0 hβ0 ⟨by rw [hw1]; rfl, by rw [hw1]; rfl, by rw [hw1]; rfl⟩ hsz1 hblk hD (by simp [AO.empty]) (hc1d ▸ hc1) hk1 (by simp [AO.empty]) hc' (hc1d ▸ hE) hl
      have hpend : r0.pending = none := by rw [hr0]
      have h9 := run_endLoop (P := P) hl (by rw [hr0]; simp)
      rw [hpend] at h9
      exact ⟨none, _, h9, _, _, hdone xs H1 hxs hJ, this.1, this.2⟩
    · have hl := rec' H2 _ e'
      subst e'
      have := Sat.unloop (o' := .loop { ({ r0 with state := .done, pending := some cd } : Loop) with state := .exhausted }) g hL hH0 hβ0 ⟨by rw [hw1]; rfl, by rw [hw1]; rfl, by rw [hw1]; rfl⟩ hsz1 hblk hD (by simp [AO.empty]) (hc1d ▸ hc1) hk2 (by simp [AO.empty]) hc' (hc1d ▸ hE) hl
      have hs := hstop e H2 hJx (by rw [hj]; rfl)
      refine ⟨some cd, _, run_endLoop (P := P) hl (by simp), ?_⟩
      cases e with
      | ret => cases hj; exact wpIn_ret ⟨_, _, hs, this.1, this.2⟩
      | exit id => cases hj; exact wpIn_exit ⟨_, _, hs, this.1, this.2⟩
      | _ => cases hj
end
end Go.Proofs.YtfbdokfcebpkaaaDoor.E
/- Function values are made; the loop in a round's frame. Plain theorems, for any program. -/
namespace Go.Proofs.YtfbdokfcebpkaaaDoor.E
open Go.RowKit
set_option linter.unusedVariables false
set_option linter.unusedSimpArgs false
def capsA : List C → Option (List A)
  | [] => some []
  | .a x :: r => (capsA r).map (x :: ·)
  | .g _ :: _ => none
theorem capsA_eq : ∀ {l : List C} {cs : List A}, capsA l = some cs → l = cs.map C.a
  | [], cs, h => by cases h; rfl
  | .a x :: r, cs, h => by
    simp only [capsA, Option.map_eq_some_iff] at h
    obtain ⟨cs', h, rfl⟩ := h
    rw [capsA_eq h]; rfl
  | .g _ :: _, cs, h => by cases h
section
variable {P : Program} {o : Oper} {s : S}
theorem q_mkFn {f : FuncId} {ys : Array Operand} {l : List C} {cs : List A} (ho : o.op = .makeFunc (.func f) #[] ys) (hl : argsX s ys.toList = some l) (hc : capsA l = some cs) : QV P o s (.c (.a (.fn f cs))) :=
  .of_same (fun _ => nolp) fun c w a hm hrep => by
    have hr : Reps (RepC c.μ c.β) l (ys.map a.eval).toList := by
      have := args_rep (c := c) (f := a.eval) hl fun y hy => hrep y (by rw [ho]; simp [Op.operands]; simpa using hy)
      simpa using this
    have hc := capsA_eq hc
    subst hc
    refine ⟨.func (.func f) #[] (ys.map a.eval), by simp [execOp, ho, Instr.makeFunc], ?_⟩
    have hlen : (ys.map a.eval).toList.length = cs.length := by have := hr.1; simpa using this.symm
    refine RepA.fn (fun i => (ys.map a.eval).toList.getD i undef) ?_ fun i x hx => ?_
    · refine List.ext_getElem? fun i => ?_
      rw [List.getElem?_map, ← hlen]
      by_cases h : i < (ys.map a.eval).toList.length
      · rw [List.getElem?_range h, List.getElem?_eq_getElem h]; simp only [Option.map_some, List.getD_eq_getElem?_getD, List.getElem?_eq_getElem h, Option.getD_some]
      · rw [List.getElem?_eq_none (by omega), List.getElem?_eq_none (by simp at h ⊢; omega)]; rfl
    · have hi : i < (ys.map a.eval).toList.length := by rw [hlen]; exact (List.getElem?_eq_some_iff.1 hx).1
      have h1 : (cs.map C.a)[i]? = some (.a x) := by rw [List.getElem?_map, hx]; rfl
      have := hr.2 i (.a x) _ h1 (List.getElem?_eq_getElem hi)
      show RepA c.μ c.β x _
      rw [List.getD_eq_getElem?_getD, List.getElem?_eq_getElem hi]
      exact this
end
end Go.Proofs.YtfbdokfcebpkaaaDoor.E
