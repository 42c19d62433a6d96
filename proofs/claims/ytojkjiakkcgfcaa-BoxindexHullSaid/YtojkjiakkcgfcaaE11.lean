/- append; slices that grow. Plain theorems, for any program. -/
import Derived.Test.YtojkjiakkcgfcaaE10
namespace Go.Proofs.Ytojkjiakkcgfcaa.E
open Go.RowKit
set_option linter.unusedVariables false

section
variable {P : Program}
/-- the cells of a source: a slice that is common memory -/
theorem src_cells {μ : Mem} {z : Nz} {sz : Nat} {es : List (List T)} {v : Value} (h0 : 0 < sz) (h : RepT μ (.sl z sz es) v) : ∃ a n c, v = .slice a n c ∧ n = es.length ∧ ∃ cs : List Value, cs.length = es.length * sz ∧ (∀ e ∈ es, e.length = sz) ∧ Reps (RepT μ) es.flatten cs ∧ (∀ (j : Nat) (u : Value), cs[j]? = some u → ∃ b off, a = some ⟨b, off, none⟩ ∧ μ b (off + j) = some u) := by
  by_cases hne : es = []
  · subst hne
    cases h with
    | nil => exact ⟨_, _, _, rfl, rfl, [], by simp, by simp, .nil, fun j u h => by simp at h⟩
    | emp => exact ⟨_, _, _, rfl, rfl, [], by simp, by simp, .nil, fun j u h => by simp at h⟩
    | sl u ne => exact absurd rfl ne
  · obtain ⟨b, off, c, cs, rfl, hc, hl, hr, hm⟩ := sl_flat h hne h0
    exact ⟨_, _, _, rfl, rfl, cs, by rw [← hr.1, flat_length es hl], hl, hr, fun j u hu => ⟨b, off, rfl, hm j u hu⟩⟩
theorem app_run (w : World) {t e : TypeId} {sz bytes : Nat} (ty : elB P t e sz bytes = true) (u : TypeId) (v : Value) (n : Nat) (xs : List Value) (hown : w.ownsRow 0 e sz v n xs)
    (a : Option Addr) (m c : Nat) (news : List Value) (hl : news.length = m * sz) (hn : ∀ (j : Nat) (u : Value), news[j]? = some u → ∃ b off, a = some ⟨b, off, none⟩ ∧ w.cell? ⟨b, off + j, none⟩ = some u) (h1 : ∀ u ∈ news, u.oneCell' = true) (hb : (n + m) * bytes ≤ 140737488355328) (h63 : n + m ≤ 9223372036854775807) :
    ∃ v' w', (Builtin.append_ #[t, t] u #[v, .slice a m c]).run P w = .ok v' w' ∧ w'.ownsRow 0 e sz v' (n + m) (xs ++ news) ∧ ((v'.ownBlock = v.ownBlock ∧ w.grownBy w' v.ownBlock) ∨ (v'.ownBlock = some w.heap.size ∧ w.grownBy w' none)) ∧ (v' = .slice none 0 0 ↔ v = .slice none 0 0 ∧ m = 0) := by
  obtain ⟨i, z, h2, h3, h4, h5, h6, h7, h8⟩ := elB_get ty
  cases a with
  | none =>
    have hn0 : news = [] := by
      cases news with
      | nil => rfl
      | cons x l => obtain ⟨b, off, h, _⟩ := hn 0 x rfl; cases h
    subst hn0
    have hm : m = 0 := by
      rcases Nat.eq_zero_or_pos m with h | h
      · exact h
      · have := Nat.mul_pos h (by omega : 0 < sz); simp at hl; omega
    subst hm
    refine ⟨v, w, ?_, by simpa using hown, .inl ⟨rfl, ⟨rfl, rfl, rfl, Nat.le_refl _, fun _ _ _ => rfl⟩⟩, by simp⟩
    subst h4
    rcases hown.2 with ⟨rfl, rfl⟩ | ⟨g, cap, cur, rfl, _, _, hnc, _⟩
    · simp [Builtin.append_, run_underlying h2, sizeOf, typeInfo, h3, Builtin.lenOf, Builtin.firstCells]
    · simp [Builtin.append_, run_underlying h2, sizeOf, typeInfo, h3, Builtin.lenOf, Builtin.firstCells, hnc, storeCells]
  | some ad =>
    have hnews : ∀ (j : Nat) (x : Value), news[j]? = some x → w.cell? (ad.add j) = some x := fun j x hx => by
      obtain ⟨b, off, h, hc⟩ := hn j x hx
      injection h with h; subst h
      rw [add_mid]; exact hc
    have old : (∀ g k cap, v = .slice (some g) k cap → n + m ≤ cap) → ∃ v' w', (Builtin.append_ #[t, t] u #[v, .slice (some ad) m c]).run P w = .ok v' w' ∧ w'.ownsRow 0 e sz v' (n + m) (xs ++ news) ∧ ((v'.ownBlock = v.ownBlock ∧ w.grownBy w' v.ownBlock) ∨ (v'.ownBlock = some w.heap.size ∧ w.grownBy w' none)) ∧ (v' = .slice none 0 0 ↔ v = .slice none 0 0 ∧ m = 0) := by
      intro hroom
      obtain ⟨v', w', g1, g2, g3, g4, g5⟩ := run_append_own_at (P := P) w 0 t u e i z sz bytes h2 h3 h7 h4 h6 h8 (by omega) v n xs hown ad m c news hl hnews h1 (by unfold maxLen; omega) hb (Nat.zero_le _)
      refine ⟨v', w', g1, g2, ?_, g4⟩
      rcases hown.2 with ⟨rfl, rfl⟩ | ⟨g, cap, cur, rfl, hbg, hg, hnc, hcm, hcs, htake⟩
      · rcases g5 with g5 | g5
        · exact .inl ⟨g5, g3⟩
        · exact .inr ⟨g5, by simpa [Value.ownBlock] using g3⟩
      · have hfit : n * i.size + news.length ≤ cur.size := by rw [hl, hcs, h4, ← Nat.add_mul]; exact Nat.mul_le_mul_right _ (hroom _ _ _ rfl)
        have hr := run_append_room (P := P) w t u e i h2 h3 g n cap cur hg ad m c news (by rw [h4]; exact hl) hnews h1 (hroom _ _ _ rfl) hfit
        rw [g1] at hr; injection hr with hr1 hr2
        subst hr1
        exact .inl ⟨rfl, g3⟩
    rcases hown.2 with ⟨rfl, rfl⟩ | ⟨g, cap, cur, rfl, hbg, hg, hnc, hcm, hcs, htake⟩
    · exact old fun g k cap h => by cases h
    · by_cases hroom : n + m ≤ cap
      · exact old fun g k cap h => by cases h; exact hroom
      · have holds : ∀ j u, xs[j]? = some u → w.cell? ((⟨g, 0, none⟩ : Addr).add j) = some u := hown.cells (g := g) rfl
        have hr := run_append_grow (P := P) w t u e i z h2 h3 h7 ⟨g, 0, none⟩ n cap xs (by rw [h4]; exact hown.1) holds ad m c news (by rw [h4]; exact hl) hnews (by omega) (by omega) (growslice_fits (by omega) (by rw [h6]; exact hb))
        have hge := grownCap_ge w (n + m) cap e
        have hcm : grownCap w (n + m) cap e ≤ maxLen := grownCap_le_maxLen w (n + m) cap e (by unfold maxLen; omega)
        have hlen : (xs ++ news).length = (n + m) * sz := by rw [List.length_append, hown.1, hl, Nat.add_mul]
        refine ⟨_, _, hr, ⟨hlen, .inr ⟨w.heap.size, _, _, rfl, Nat.zero_le _, heap_alloc_new w.drew _, hge, hcm, ?_, ?_⟩⟩, .inr ⟨rfl, ⟨rfl, rfl, rfl, by simp, fun k hk _ => Below.heap_alloc w.drew _ k hk⟩⟩, by simp⟩
        · simp only [Array.size_append, List.size_toArray, size_zeroCells, h8, hown.1, hl, ← Nat.add_mul]
          congr 1
          omega
        · simp only [Array.toList_append, List.append_assoc]
          rw [← List.append_assoc, ← hlen]
          exact List.take_left
theorem reps_one {μ : Mem} {l : List T} {cs : List Value} (h : Reps (RepT μ) l cs) : ∀ u ∈ cs, u.oneCell' = true := h.one fun _ _ => RepT.one
/-- a slice that reads as a list is the call's own row -/
theorem own_cells {w : World} {e : TypeId} {sz : Nat} {v : Value} {n : Nat} {xs : List Value} (h : w.ownsRow 0 e sz v n xs) (hne : v ≠ .slice none 0 0) : ∃ g cap cur, v = .slice (some ⟨g, 0, none⟩) n cap ∧ w.heap[g]? = some (.cells cur e (0, 0)) ∧ cur.size = cap * sz ∧ cap ≤ maxLen ∧ n ≤ cap ∧ ∀ (j : Nat) (u : Value), xs[j]? = some u → w.cell? ⟨g, j, none⟩ = some u := by
  rcases h.2 with ⟨rfl, _⟩ | ⟨g, cap, cur, rfl, _, hg, hnc, hcm, hcs, _⟩
  · exact absurd rfl hne
  · refine ⟨g, cap, cur, rfl, hg, hcs, hcm, hnc, fun j u hu => ?_⟩
    have := h.cells (g := g) rfl j u hu
    rwa [add_mid, Nat.zero_add] at this
end

section
variable {P : Program} {all : Array Oper} {o : Oper} {s s' : S} {K : S → Prop}
/-- what may be appended: a slice that is common memory, whatever names it -/
def srcX : X → Option (List (List T) × Nat)
  | .c (.a (.t (.sl _ sz es))) => some (es, sz)
  | .c (.a (.ts _ _ sz es)) => some (es, sz)
  | _ => none
theorem src_rep {c : Ctx} {x : X} {v : Value} {es : List (List T)} {sz : Nat} (h : RepX c x v) (hs : srcX x = some (es, sz)) : RepT c.μ (.sl .un sz es) v := by
  unfold srcX at hs
  split at hs
  · cases hs; cases h with | t h => exact h.forget
  · cases hs
    cases h with
    | ts0 => exact .nil (by simp)
    | tsE => exact .emp (by simp)
    | ts hk hz hn h => exact h
  · cases hs
/-- a nil slice -/
def nilX : X → Bool
  | .c (.a (.t (.v (.slice none 0 0)))) => true
  | .c (.a (.t (.sl .ne _ []))) => true
  | _ => false
theorem nil_rep {c : Ctx} {x : X} {v : Value} (h : RepX c x v) (hs : nilX x = true) : v = .slice none 0 0 := by
  unfold nilX at hs
  split at hs
  · exact rep_tv h
  · cases h with | t h => cases h with
    | nil => rfl
    | emp hh => exact absurd rfl hh
    | sl u ne => exact absurd rfl ne
  · cases hs
/-- append onto nil: what comes back is common memory -/
theorem q_appNil {x y : Operand} {t e : TypeId} {sz bytes : Nat} {es : List (List T)} (ho : o.op = .call { callee := .builtin .append, args := #[x, y], argTypes := #[t, t] }) (ty : elB P t e sz bytes = true) (hx : nilX (s.eval x) = true) (hy : srcX (s.eval y) = some (es, sz)) (hb : es.length * bytes ≤ 140737488355328 ∧ es.length ≤ 9223372036854775807) : QV P o s (.c (.a (.t (.sl .ne sz es)))) :=
  .of_run (fun _ => nolp) fun c w a hm hrep => by
    obtain ⟨i, z, g1, g2, g3, g4, g5, g6, g7⟩ := elB_get ty
    have ha := nil_rep (hrep x (by rw [ho]; simp [Op.operands, Call.operands])) hx
    have hbr := src_rep (hrep y (by rw [ho]; simp [Op.operands, Call.operands])) hy
    obtain ⟨ad, n, cp, hv, rfl, cs, hcl, hel, hr, hcs⟩ := src_cells (by omega) hbr
    obtain ⟨v', w', h1, h2, h3, h5⟩ := app_run (P := P) w ty o.type (.slice none 0 0) 0 [] (World.ownsRow_nil w 0 e sz) ad es.length cp cs hcl (fun j u hu => by
      obtain ⟨b, off, h, hc⟩ := hcs j u hu
      exact ⟨b, off, h, hm.mem _ _ _ hc⟩) (reps_one hr) (by simpa using hb.1) (by simpa using hb.2)
    have hrun : (execOp a.eval o).run P w = .ok (.value v') w' := by
      simp [execOp, ho, ha, hv, resolve, invoke, builtin, h1]
    have gr : (v'.ownBlock = none ∨ v'.ownBlock = some w.heap.size) ∧ w.grownBy w' none := by
      rcases h3 with ⟨h3, h4⟩ | ⟨h3, h4⟩
      · exact ⟨.inl h3, h4⟩
      · exact ⟨.inr h3, h4⟩
    obtain ⟨h4, q3⟩ := gr; clear h3
    have hblk : ∀ b, b < w.heap.size → w'.heap[b]? = w.heap[b]? := fun b hb => q3.block b hb (by simp)
    by_cases hne : es = []
    · subst hne
      have : v' = .slice none 0 0 := h5.2 ⟨rfl, rfl⟩
      subst this
      exact ⟨_, w', c, hrun, .t (.nil (by simp)), .grew hm q3.os q3.tape q3.output q3.size hblk⟩
    · have hv' : v' ≠ .slice none 0 0 := fun e => hne (by have := (h5.1 e).2; exact List.eq_nil_of_length_eq_zero this)
      simp only [Nat.zero_add, List.nil_append] at h2
      obtain ⟨g, cap, cur, rfl, k1, k2, k3, k4, k5⟩ := own_cells h2 hv'
      have hg : w.heap.size ≤ g := by
        rcases h4 with h4 | h4
        · simp [Value.ownBlock] at h4
        · simp [Value.ownBlock] at h4; omega
      refine ⟨_, w', { c with μ := c.μ.add g cs }, hrun, .t ?_, Mk.block hm q3.os q3.tape q3.output q3.size hblk hg k5⟩
      have hmono := (Mk.block (b := g) (cs := cs) hm q3.os q3.tape q3.output q3.size hblk hg k5).mem
      exact flat_sl hne k4 hel (hr.monoT hmono) fun j u hu => by rw [Nat.zero_add]; exact Mem.add_in hu
/-- append onto a slice without elements and without room -/
theorem app0_run (w : World) {t e : TypeId} {sz bytes : Nat} (ty : elB P t e sz bytes = true) (u : TypeId) (b : Option Addr)
    (a : Option Addr) (m c : Nat) (news : List Value) (hl : news.length = m * sz) (hn : ∀ (j : Nat) (u : Value), news[j]? = some u → ∃ b off, a = some ⟨b, off, none⟩ ∧ w.cell? ⟨b, off + j, none⟩ = some u) (h1 : ∀ u ∈ news, u.oneCell' = true) (hb : m * bytes ≤ 140737488355328) (h63 : m ≤ 9223372036854775807) :
    (m = 0 ∧ (Builtin.append_ #[t, t] u #[.slice b 0 0, .slice a m c]).run P w = .ok (.slice b 0 0) w) ∨
    (m ≠ 0 ∧ ∃ cap w', (Builtin.append_ #[t, t] u #[.slice b 0 0, .slice a m c]).run P w = .ok (.slice (some ⟨w.heap.size, 0, none⟩) m cap) w' ∧ w'.ownsRow 0 e sz (.slice (some ⟨w.heap.size, 0, none⟩) m cap) m news ∧ w.grownBy w' none) := by
  obtain ⟨i, z, h2, h3, h4, h5, h6, h7, h8⟩ := elB_get ty
  by_cases hm : m = 0
  · subst hm
    refine .inl ⟨rfl, ?_⟩
    have hnil : news = [] := List.eq_nil_of_length_eq_zero (by simpa using hl)
    cases b with
    | none => cases a <;> simp [Builtin.append_, run_underlying h2, sizeOf, typeInfo, h3, Builtin.lenOf, Builtin.firstCells, loadCells, loadCellsFrom]
    | some b => cases a <;> simp [Builtin.append_, run_underlying h2, sizeOf, typeInfo, h3, Builtin.lenOf, Builtin.firstCells, loadCells, loadCellsFrom, storeCells]
  · refine .inr ⟨hm, ?_⟩
    obtain ⟨ad, rfl⟩ : ∃ ad, a = some ad := by
      cases a with
      | some ad => exact ⟨ad, rfl⟩
      | none =>
        exfalso
        have : 0 < news.length := by rw [hl]; exact Nat.mul_pos (by omega) (by omega)
        obtain ⟨_, _, h, _⟩ := hn 0 news[0] (List.getElem?_eq_getElem this)
        cases h
    have hnews : ∀ (j : Nat) (u : Value), news[j]? = some u → w.cell? (ad.add j) = some u := fun j x hx => by
      obtain ⟨b, off, h, hc⟩ := hn j x hx
      injection h with h; subst h
      rw [add_mid]; exact hc
    have hge := grownCap_ge w m 0 e
    have hcm : grownCap w m 0 e ≤ maxLen := grownCap_le_maxLen w m 0 e (by unfold maxLen; omega)
    have hfit := growslice_fits (need := m) (old := 0) (bytes := i.bytes) (by omega) (by rw [h6]; exact hb)
    have hrun : (Builtin.append_ #[t, t] u #[.slice b 0 0, .slice (some ad) m c]).run P w = .ok (.slice (some ⟨w.heap.size, 0, none⟩) m (grownCap w m 0 e)) (w.drew.alloc (.cells (news.toArray ++ Builtin.zeroCells z.cells (grownCap w m 0 e - m)) e)) := by
      cases b with
      | none => exact run_append_nil (P := P) w t u e i z h2 h3 h7 ad m c news (by rw [h4]; exact hl) hnews (by omega) (by omega) (by rw [h6]; omega)
      | some b =>
        have := run_append_grow (P := P) w t u e i z h2 h3 h7 b 0 0 [] (by simp) (fun j v h => by simp at h) ad m c news (by rw [h4]; exact hl) hnews (by omega) (by omega) (by simpa using hfit)
        simpa using this
    refine ⟨_, _, hrun, ⟨hl, .inr ⟨w.heap.size, _, _, rfl, Nat.zero_le _, heap_alloc_new w.drew _, hge, hcm, ?_, ?_⟩⟩, ⟨rfl, rfl, rfl, by simp, fun k hk _ => Below.heap_alloc w.drew _ k hk⟩⟩
    · simp only [Array.size_append, List.size_toArray, size_zeroCells, h8, hl, ← Nat.add_mul]
      congr 1
      omega
    · simp only [Array.toList_append]
      rw [← hl]
      exact List.take_left
/-- an object is given up, and one is claimed under whatever name is free -/
theorem Sat.turn {c : Ctx} {μ' : Mem} {s : S} {a : Act} {w w' : World} {k : Nat} {x : AO} {g n : Nat} (sat : Sat c s a w) (hos : w'.os = w.os) (ht : w'.tape = w.tape) (hout : w'.output = w.output) (hs : w.heap.size ≤ w'.heap.size)
    (hblk : ∀ b, b < w.heap.size → b ≠ g → w'.heap[b]? = w.heap[b]?) (hg : w.heap.size ≤ g ∨ ∃ y n, s.H k = some y ∧ ¬ y.empty ∧ c.β k = some (g, n))
    (hμ : ∀ b o u, c.μ b o = some u → μ' b o = some u) (hnew : ∀ b o u, μ' b o = some u → c.μ b o = some u ∨ b = g) (hmem : ∀ b o u, μ' b o = some u → w'.cell? ⟨b, o, none⟩ = some u)
    (ho : ORep { c with μ := μ' } w' x g n) :
    ∃ k', s.H k' = none ∧ c.β k' = none ∧ Sat ⟨μ', upd c.β k' (some (g, n)), c.lam, c.base⟩ ⟨s.n, s.t, s.L, upd (upd s.H k none) k' (some x)⟩ a w' ∧ Ext c s.own w ⟨μ', upd c.β k' (some (g, n)), c.lam, c.base⟩ (S.own ⟨s.n, s.t, s.L, upd (upd s.H k none) k' (some x)⟩) w' := by
  obtain ⟨N, hN⟩ := sat.conc.fin
  have hk0 := (hN N (Nat.le_refl _)).1
  have hH0 : s.own (.e N) = none := (hN N (Nat.le_refl _)).2
  refine ⟨N, hH0, hk0, ?_⟩
  have hext : ∀ j p, c.β j = some p → upd c.β N (some (g, n)) j = some p := fun j p h => by
    by_cases e : j = N
    · subst e; rw [hk0] at h; cases h
    · rw [upd_ne _ _ e]; exact h
  have pne : ∀ j, j ≠ Id.e N → Ctx.pos ⟨μ', upd c.β N (some (g, n)), c.lam, c.base⟩ j = c.pos j := fun j hj => by
    cases j with
    | l d => rfl
    | e i => simp only [Ctx.pos]; rw [upd_ne]; exact fun e => hj (by rw [e])
  have psame : Ctx.pos ⟨μ', upd c.β N (some (g, n)), c.lam, c.base⟩ (.e N) = some (g, n) := by simp only [Ctx.pos, upd_same]
  have own' : ∀ j y, S.own ⟨s.n, s.t, s.L, upd (upd s.H k none) N (some x)⟩ j = some y → (j = .e N ∧ y = x) ∨ (j ≠ .e N ∧ j ≠ .e k ∧ s.own j = some y) := fun j y h => by
    cases j with
    | l d => exact .inr ⟨by simp, by simp, h⟩
    | e i =>
      have h : upd (upd s.H k none) N (some x) i = some y := h
      by_cases hi : i = N
      · subst hi; rw [upd_same] at h; exact .inl ⟨rfl, by injection h with h; exact h.symm⟩
      · rw [upd_ne _ _ hi] at h
        by_cases hk : i = k
        · subst hk; rw [upd_same] at h; cases h
        · rw [upd_ne _ _ hk] at h; exact .inr ⟨by simp [hi], by simp [hk], h⟩
  -- no other object lies at g
  have away : ∀ j y b1 n1, j ≠ .e k → s.own j = some y → ¬ y.empty → c.pos j = some (b1, n1) → b1 ≠ g ∧ b1 < w.heap.size := fun j y b1 n1 hj h hy hp => by
    obtain ⟨b2, n2, h1, h2⟩ := sat.conc.obj j y h hy
    rw [hp] at h1; injection h1 with h1; injection h1 with h1; subst h1
    refine ⟨fun e => ?_, h2.lt⟩
    subst e
    rcases hg with hg | ⟨y', n', h3, h4, h5⟩
    · have := h2.lt; omega
    · exact hj (sat.conc.inj j (.e k) y y' b1 n1 n' h h3 hy h4 hp h5)
  refine ⟨⟨⟨hmem, fun j y hj hy => ?_, fun j i y z b1 n1 n2 hj hi hy hz h1 h2 => ?_, ?_⟩, sat.size, fun j => RepX.mono (c := c) (c' := ⟨μ', upd c.β N (some (g, n)), c.lam, c.base⟩) hμ hext rfl (sat.tmps j), sat.defers.blk fun D hD => hblk D (Array.getElem?_eq_some_iff.1 hD).1 fun e => by
    subst e
    rcases hg with hg | ⟨y', n', h3, h4, h5⟩
    · have := (Array.getElem?_eq_some_iff.1 hD).1; omega
    · obtain ⟨b2, n2, h6, h7⟩ := sat.conc.obj (.e k) y' h3 h4
      rw [show c.pos (.e k) = _ from h5] at h6; injection h6 with h6; injection h6 with h6; subst h6
      exact h7.nd hD, fun j d h => sat.wf j d h⟩, ⟨hos, ht, hout, hs, fun b hb hn => ?_, hμ, fun b o u h => ?_, hext, fun j y b1 n1 hj hy h1 => ?_, rfl⟩⟩
  · rcases own' j y hj with ⟨rfl, rfl⟩ | ⟨hne, hnk, hj'⟩
    · exact ⟨g, n, psame, ho.keep rfl (fun _ _ _ h => h) (fun _ _ h => h) hext⟩
    · obtain ⟨b1, n1, h1, h2⟩ := sat.conc.obj j y hj' hy
      obtain ⟨h3, h4⟩ := away j y b1 n1 hnk hj' hy h1
      exact ⟨b1, n1, by rw [pne j hne]; exact h1, h2.keep (hblk b1 h4 h3) hμ (fun o u h => (hnew b1 o u h).resolve_right h3) hext⟩
  · rcases own' j y hj with ⟨rfl, rfl⟩ | ⟨hne, hnk, hj'⟩
    · rcases own' i z hi with ⟨rfl, rfl⟩ | ⟨hni, hnk', hi'⟩
      · rfl
      · rw [psame] at h1
        rw [pne i hni] at h2
        have := (away i z b1 n2 hnk' hi' hz h2).1
        injection h1 with h1; injection h1 with h1
        exact absurd h1.symm this
    · rw [pne j hne] at h1
      rcases own' i z hi with ⟨rfl, rfl⟩ | ⟨hni, hnk', hi'⟩
      · rw [psame] at h2
        have := (away j y b1 n1 hnk hj' hy h1).1
        injection h2 with h2; injection h2 with h2
        exact absurd h2.symm this
      · rw [pne i hni] at h2
        exact sat.conc.inj j i y z b1 n1 n2 hj' hi' hy hz h1 h2
  · refine ⟨N + 1, fun i hi => ⟨?_, ?_⟩⟩
    · show upd c.β N (some (g, n)) i = none
      rw [upd_ne _ _ (by omega)]; exact (hN i (by omega)).1
    · show upd (upd s.H k none) N (some x) i = none
      rw [upd_ne _ _ (by omega)]
      by_cases hik : i = k
      · subst hik; exact upd_same _ _ _
      · rw [upd_ne _ _ hik]; exact (hN i (by omega)).2
  · by_cases hbg : b = g
    · subst hbg
      rcases hg with hg | ⟨y', n', h3, h4, h5⟩
      · omega
      · exact absurd h5 (hn (.e k) y' n' h3 h4)
    · exact hblk b hb hbg
  · rcases hnew b o u h with h1 | rfl
    · exact .inl h1
    · rcases hg with hg | ⟨y', n', h3, h4, h5⟩
      · exact .inr (.inl hg)
      · exact .inr (.inr ⟨.e k, y', n', h3, h4, h5⟩)
  · rcases own' j y hj with ⟨rfl, rfl⟩ | ⟨hne, hnk, hj'⟩
    · rw [psame] at h1; injection h1 with h1; injection h1 with h1; subst h1
      rcases hg with hg | ⟨y', n', h3, h4, h5⟩
      · exact .inl hg
      · exact .inr ⟨.e k, y', n', h3, h4, h5⟩
    · rw [pne j hne] at h1
      exact .inr ⟨j, y, n1, hj', hy, h1⟩
/-- an object is given up, and one of which nothing is claimed gets a name -/
theorem Sat.turn0 {c : Ctx} {s : S} {a : Act} {w : World} {k : Nat} {x : AO} (sat : Sat c s a w) (hx : x.empty) :
    ∃ k', s.H k' = none ∧ Sat c ⟨s.n, s.t, s.L, upd (upd s.H k none) k' (some x)⟩ a w ∧ Ext c s.own w c (S.own ⟨s.n, s.t, s.L, upd (upd s.H k none) k' (some x)⟩) w := by
  obtain ⟨N, hN⟩ := sat.conc.fin
  have hH0 : s.own (.e N) = none := (hN N (Nat.le_refl _)).2
  have own' : ∀ j y, S.own ⟨s.n, s.t, s.L, upd (upd s.H k none) N (some x)⟩ j = some y → ¬ y.empty → s.own j = some y := fun j y h hy => by
    cases j with
    | l d => exact h
    | e i =>
      have h : upd (upd s.H k none) N (some x) i = some y := h
      by_cases hi : i = N
      · subst hi; rw [upd_same] at h; injection h with h; subst h; exact absurd hx hy
      · rw [upd_ne _ _ hi] at h
        by_cases hk : i = k
        · subst hk; rw [upd_same] at h; cases h
        · rw [upd_ne _ _ hk] at h; exact h
  refine ⟨N, hH0, ⟨⟨sat.conc.mem, fun j y hj hy => sat.conc.obj j y (own' j y hj hy) hy, fun j i y z b1 n1 n2 hj hi hy hz h1 h2 => sat.conc.inj j i y z b1 n1 n2 (own' j y hj hy) (own' i z hi hz) hy hz h1 h2, ?_⟩, sat.size, sat.tmps, sat.defers, fun j d h => sat.wf j d h⟩, ⟨rfl, rfl, rfl, Nat.le_refl _, fun _ _ _ => rfl, fun _ _ _ h => h, fun _ _ _ h => .inl h, fun _ _ h => h, fun j y b1 n1 hj hy h1 => .inr ⟨j, y, n1, own' j y hj hy, hy, h1⟩, rfl⟩⟩
  refine ⟨N + 1, fun i hi => ⟨(hN i (by omega)).1, ?_⟩⟩
  show upd (upd s.H k none) N (some x) i = none
  rw [upd_ne _ _ (by omega)]
  by_cases hik : i = k
  · subst hik; exact upd_same _ _ _
  · rw [upd_ne _ _ hik]; exact (hN i (by omega)).2
/-- append onto a slice of the call's own: under whatever new name is free -/
theorem e_app {x y : Operand} {t e : TypeId} {sz bytes k d n : Nat} {z : Nz} {es es' : List (List T)} {T' : Nat → X} {L : Nat → Option AO} {H : Heap} (hg : o.guard = none) (ho : o.op = .call { callee := .builtin .append, args := #[x, y], argTypes := #[t, t] }) (ty : elB P t e sz bytes = true) (hx : S.eval ⟨n, T', L, H⟩ x = .c (.a (.ts k z sz es))) (hH : H k = some (.tip e sz es.length)) (hy : srcX (S.eval ⟨n, T', L, H⟩ y) = some (es', sz)) (hb : (es.length + es'.length) * bytes ≤ 140737488355328 ∧ es.length + es'.length ≤ 9223372036854775807) (hdst : o.dst = some d) (hd : Nat.blt d n = true)
    (hk : ∀ k', H k' = none → K ⟨n, upd T' d (.c (.a (.ts k' z sz (es ++ es')))), L, upd (upd H k none) k' (some (.tip e sz (es ++ es').length))⟩) : OpW P all o K ⟨n, T', L, H⟩ := by
  intro c a w g
  unfold opRun
  rw [if_pos (by simp [Region.wanted, hg])]
  refine wp_to ?_
  obtain ⟨i, zz, g1, g2, g3, g4, g5, g6, g7⟩ := elB_get ty
  have ha := g.eval x
  rw [hx] at ha
  have hbr := src_rep (g.eval y) hy
  obtain ⟨ad, m, cp, hv, rfl, cs, hcl, hel, hr, hcs⟩ := src_cells (by omega) hbr
  have hcells : ∀ (j : Nat) (u : Value), cs[j]? = some u → ∃ b off, ad = some ⟨b, off, none⟩ ∧ w.cell? ⟨b, off + j, none⟩ = some u := fun j u hu => by
    obtain ⟨b, off, h, hc⟩ := hcs j u hu
    exact ⟨b, off, h, g.conc.mem _ _ _ hc⟩
  -- what is left to do once the new value is known, if it is not empty
  have fin : ∀ (v' : Value) (w' : World) (g0 cap : Nat) (cur : Array Value) (xs : List Value), (execOp a.eval o).run P w = .ok (.value v') w' → w'.os = w.os → w'.tape = w.tape → w'.output = w.output → w.heap.size ≤ w'.heap.size →
      (∀ b, b < w.heap.size → b ≠ g0 → w'.heap[b]? = w.heap[b]?) → (w.heap.size ≤ g0 ∨ ∃ y n, H k = some y ∧ ¬ y.empty ∧ c.β k = some (g0, n)) →
      v' = .slice (some ⟨g0, 0, none⟩) (es ++ es').length cap → es ++ es' ≠ [] → (es ++ es').length ≤ cap → cap ≤ maxLen → w'.heap[g0]? = some (.cells cur e (0, 0)) → cur.size = cap * sz → (∀ (j : Nat) (u : Value), (xs ++ cs)[j]? = some u → w'.cell? ⟨g0, j, none⟩ = some u) →
      (∀ o u, c.μ g0 o = some u → xs[o]? = some u) → (∀ e ∈ es, e.length = sz) → Reps (RepT c.μ) es.flatten xs →
      o.wp P a w (fun a' w' => ∃ s' c', K s' ∧ Sat c' s' a' w' ∧ Ext c (S.own ⟨n, T', L, H⟩) w c' s'.own w') (fun _ _ _ => False) := by
    intro v' w' g0 cap cur xs h1 h2 h3 h4 h5 h6 h7 hv' hne hc1 hc2 hg0 hcs2 hcell hold hlen hxs
    have hxl : xs.length = es.length * sz := by rw [← hxs.1, flat_length es hlen]
    have hall : (xs ++ cs).length = (es ++ es').length * sz := by rw [List.length_append, List.length_append, Nat.add_mul, hxl, hcl]
    have hext : ∀ b o u, c.μ b o = some u → c.μ.add g0 (xs ++ cs) b o = some u := Mem.add_ext fun o u h hlt => by
      have := hold o u h
      rw [List.getElem?_append_left (List.getElem?_eq_some_iff.1 this).1]; exact this
    have hmem : ∀ b o u, c.μ.add g0 (xs ++ cs) b o = some u → w'.cell? ⟨b, o, none⟩ = some u := fun b o u hq => by
      rcases Mem.add_new hq with h8 | ⟨hbg, h8⟩
      · by_cases hb : b = g0
        · rw [hb] at h8 ⊢
          refine hcell o u ?_
          have := hold o u h8
          rw [List.getElem?_append_left (List.getElem?_eq_some_iff.1 this).1]; exact this
        · have h8 := g.conc.mem _ _ _ h8
          have hlt := World.block_lt_of_cell? w _ h8
          unfold World.cell? at h8 ⊢
          rw [h6 b hlt hb]; exact h8
      · rw [hbg]; exact hcell o u h8
    have hO : ORep { c with μ := c.μ.add g0 (xs ++ cs) } w' (.tip e sz (es ++ es').length) g0 cap := by
      refine ⟨cur, hg0, hcs2, hc2, fun q hq => ?_⟩
      cases hz : c.μ.add g0 (xs ++ cs) g0 q with
      | none => exact hz
      | some u =>
        exfalso
        rcases Mem.add_new hz with h | ⟨_, h⟩
        · have := (List.getElem?_eq_some_iff.1 (hold q u h)).1
          rw [hxl] at this
          have h9 : es.length * sz ≤ (es ++ es').length * sz := Nat.mul_le_mul_right _ (by simp)
          omega
        · have := (List.getElem?_eq_some_iff.1 h).1
          omega
    obtain ⟨k', q1, q2, q3, q4⟩ := Sat.turn (k := k) g h2 h3 h4 h5 h6 h7 hext (fun b o u h => (Mem.add_new h).imp id (·.1)) hmem hO
    unfold Oper.wp
    rw [h1]
    refine ⟨_, ⟨_, _, _, _⟩, hk k' q1, ?_, q4⟩
    have hrep : RepT (c.μ.add g0 (xs ++ cs)) (.sl .un sz (es ++ es')) (.slice (some ⟨g0, 0, none⟩) (es ++ es').length cap) := by
      refine flat_sl hne hc1 (fun e he => (List.mem_append.1 he).elim (hlen e) (hel e)) ?_ fun j u hu => by rw [Nat.zero_add]; exact Mem.add_in hu
      rw [List.flatten_append]
      exact (hxs.monoT hext).append (hr.monoT hext)
    subst hv'
    have := q3.put (some d) (x := .c (.a (.ts k' z sz (es ++ es')))) (v := .slice (some ⟨g0, 0, none⟩) (es ++ es').length cap) (by simpa [inB] using inb hd) (RepA.ts (upd_same _ _ _) hne rfl hrep) (fun _ h => by cases h)
    rw [hdst]; exact this
  by_cases hne : es = []
  · subst hne
    obtain ⟨b0, hb0, hz⟩ : ∃ b0, a.eval x = .slice b0 0 0 ∧ (∀ k', RepA c.μ c.β (.ts k' z sz []) (.slice b0 0 0)) := by
      generalize a.eval x = v at ha
      cases ha with
      | ts0 => exact ⟨none, rfl, fun _ => .ts0⟩
      | tsE => exact ⟨some _, rfl, fun _ => .tsE⟩
      | ts hk hne => exact absurd rfl hne
    rcases app0_run (P := P) w ty o.type b0 ad es'.length cp cs hcl hcells (reps_one hr) (by simpa using hb.1) (by simpa using hb.2) with ⟨h0, hrun⟩ | ⟨h0, cap, w', hrun, hown, hgr⟩
    · have hes' : es' = [] := List.eq_nil_of_length_eq_zero h0
      subst hes'
      obtain ⟨k', q1, q3, q4⟩ := g.turn0 (k := k) (x := .tip e sz (([] : List (List T)) ++ ([] : List (List T))).length) (by simp [AO.empty])
      simp only [List.length_nil] at hrun
      have hrun' : (execOp a.eval o).run P w = .ok (.value (.slice b0 0 0)) w := by simp [execOp, ho, hb0, hv, resolve, invoke, builtin, hrun]
      unfold Oper.wp
      rw [hrun']
      refine ⟨_, c, hk k' q1, ?_, q4⟩
      have := q3.put (some d) (x := .c (.a (.ts k' z sz ([] ++ [])))) (v := .slice b0 0 0) (by simpa [inB] using inb hd) (by rw [List.append_nil]; exact hz k') (fun _ h => by cases h)
      rw [hdst]; exact this
    · have hne' : es' ≠ [] := fun h => h0 (by rw [h]; rfl)
      obtain ⟨g1, cap1, cur, e1, k1, k2, k3, k4, k5⟩ := own_cells hown (by simp)
      injection e1 with e1 _ e2; injection e1 with e1; injection e1 with e1; subst e1 e2
      refine fin (.slice (some ⟨w.heap.size, 0, none⟩) es'.length cap) w' w.heap.size cap cur [] (by simp [execOp, ho, hb0, hv, resolve, invoke, builtin, hrun]) hgr.os hgr.tape hgr.output hgr.size (fun b hb _ => hgr.block b hb (by simp)) (.inl (Nat.le_refl _)) (by simp) (by simpa using hne') (by simpa using k4) k3 k1 k2 (by simpa using k5) (fun o u h => ?_) (by simp) .nil
      have := World.block_lt_of_cell? w _ (g.conc.mem _ o u h); simp at this
  · generalize hax : a.eval x = v at ha
    cases ha with
    | ts0 => exact absurd rfl hne
    | tsE => exact absurd rfl hne
    | @ts _ _ b c0 n0 _ _ hβ hne hn h =>
      obtain ⟨b', off, c', xs, e1, hc, hlen, hxs, hcx⟩ := sl_flat h hne (by omega)
      injection e1 with e1 e2 e3; injection e1 with e1; injection e1 with e1 e4; subst e1 e3 e4 hn
      have hnm : ¬ (AO.tip e sz es.length).empty := fun h => hne (List.eq_nil_of_length_eq_zero h)
      obtain ⟨b1, n1, p1, us, u1, u2, u3, u4⟩ := g.conc.obj (.e k) _ hH hnm
      have p1 : c.β k = some (b1, n1) := p1
      rw [hβ] at p1; injection p1 with p1; injection p1 with p1 p2; subst p1 p2
      have hxl : xs.length = es.length * sz := by rw [← hxs.1, flat_length es hlen]
      have hcw : ∀ (j : Nat) (u : Value), xs[j]? = some u → us.toList[j]? = some u := fun j u hu => by
        have := g.conc.mem _ _ _ (hcx j u hu)
        simpa [World.cell?, u1] using this
      have hown : w.ownsRow 0 e sz (.slice (some ⟨b, 0, none⟩) es.length c0) es.length xs := by
        refine ⟨hxl, .inr ⟨b, c0, us, rfl, Nat.zero_le _, u1, hc, u3, u2, ?_⟩⟩
        apply List.ext_getElem?
        intro j
        rw [List.getElem?_take]
        split
        · rename_i hj
          rw [← hxl] at hj
          rw [List.getElem?_eq_getElem hj]
          exact hcw j _ (List.getElem?_eq_getElem hj)
        · rename_i hj
          rw [List.getElem?_eq_none (by omega)]
      obtain ⟨v', w', h1, h2, h3, h5⟩ := app_run (P := P) w ty o.type _ _ _ hown ad es'.length cp cs hcl hcells (reps_one hr) hb.1 hb.2
      have hv' : v' ≠ .slice none 0 0 := fun e => by have := (h5.1 e).1; cases this
      obtain ⟨g1, cap1, cur, rfl, k1, k2, k3, k4, k5⟩ := own_cells h2 hv'
      have gr : ((g1 = b ∧ w.grownBy w' (some b)) ∨ (g1 = w.heap.size ∧ w.grownBy w' none)) := by
        rcases h3 with ⟨h4, h6⟩ | ⟨h4, h6⟩
        · simp [Value.ownBlock] at h4 h6; exact .inl ⟨h4, h6⟩
        · simp [Value.ownBlock] at h4 h6; exact .inr ⟨h4, h6⟩
      have holdb : ∀ q u, c.μ b q = some u → xs[q]? = some u := fun q u hq => by
        have hlt : q < es.length * sz := by
          rcases Nat.lt_or_ge q (es.length * sz) with h | h
          · exact h
          · rw [u4 q h] at hq; cases hq
        rw [← hxl] at hlt
        have := hcx q _ (List.getElem?_eq_getElem hlt)
        rw [Nat.zero_add, hq] at this
        rw [List.getElem?_eq_getElem hlt]; exact this.symm
      rcases gr with ⟨rfl, q3⟩ | ⟨rfl, q3⟩
      · exact fin (.slice (some ⟨g1, 0, none⟩) (es.length + es'.length) cap1) w' g1 cap1 cur xs (by simp [execOp, ho, hax, hv, resolve, invoke, builtin, h1]) q3.os q3.tape q3.output q3.size (fun b2 hb2 hb3 => q3.block b2 hb2 (by simpa using hb3)) (.inr ⟨_, _, hH, hnm, hβ⟩) (by simp) (by simp [hne]) (by simpa using k4) k3 k1 k2 k5 holdb hlen hxs
      · exact fin (.slice (some ⟨w.heap.size, 0, none⟩) (es.length + es'.length) cap1) w' w.heap.size cap1 cur xs (by simp [execOp, ho, hax, hv, resolve, invoke, builtin, h1]) q3.os q3.tape q3.output q3.size (fun b2 hb2 hb3 => q3.block b2 hb2 (by simp)) (.inl (Nat.le_refl _)) (by simp) (by simp [hne]) (by simpa using k4) k3 k1 k2 k5 (fun q u hq => by
          have := World.block_lt_of_cell? w _ (g.conc.mem _ q u hq); simp at this) hlen hxs
end
end Go.Proofs.Ytojkjiakkcgfcaa.E
