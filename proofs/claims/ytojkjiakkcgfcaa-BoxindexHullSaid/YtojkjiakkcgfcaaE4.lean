/- Memory: objects made, read and written; addresses; fields; loads and stores. Plain theorems, for any program. -/
import Derived.Test.YtojkjiakkcgfcaaE3
import Derived.Deep.MidRow
import Derived.Laws.CopyRow
namespace Go.Proofs.Ytojkjiakkcgfcaa.E
open Go.RowKit
set_option linter.unusedVariables false

/-! ### facts on types, each a Bool that the kernel reckons -/
def tyB (P : Program) (t : TypeId) (agg : Bool) (n : Nat) : Bool :=
  match P.underlying t, P.info? t with
  | some d, some i => (d.isRow == agg) && (i.size == n) && (agg || n == 1)
  | _, _ => false
theorem tyB_get {P : Program} {t : TypeId} {agg : Bool} {n : Nat} (h : tyB P t agg n = true) : ∃ d i, P.underlying t = some d ∧ P.info? t = some i ∧ d.isRow = agg ∧ i.size = n ∧ (agg = false → n = 1) := by
  unfold tyB at h
  split at h
  · rename_i d i h1 h2
    simp only [Bool.and_eq_true, beq_iff_eq, Bool.or_eq_true] at h
    exact ⟨d, i, h1, h2, h.1.1, h.1.2, fun e => by rcases h.2 with h3 | h3 <;> simp_all⟩
  · cases h
def fldB (P : Program) (t : TypeId) (i off : Nat) : Bool :=
  match P.underlying t with
  | some (.struct fs) => match fs[i]? with
    | some f => (f.offset == off) && (match P.info? f.type with | some j => j.size != 0 | none => false)
    | none => false
  | _ => false
theorem fldB_get {P : Program} {t : TypeId} {i off : Nat} (h : fldB P t i off = true) : ∃ fs f j, P.underlying t = some (.struct fs) ∧ fs[i]? = some f ∧ f.offset = off ∧ P.info? f.type = some j ∧ j.size ≠ 0 := by
  unfold fldB at h
  split at h
  · rename_i fs h1
    split at h
    · rename_i f h2
      simp only [Bool.and_eq_true, beq_iff_eq] at h
      split at h
      · rename_i j h3; exact ⟨fs, f, j, h1, h2, h.1, h3, by simpa using h.2⟩
      · simp at h
    · cases h
  · cases h
def slB (P : Program) (t e : TypeId) (sz : Nat) : Bool :=
  match P.underlying t, P.info? e with
  | some (.slice e'), some i => (e' == e) && (i.size == sz) && (sz != 0)
  | _, _ => false
theorem slB_get {P : Program} {t e : TypeId} {sz : Nat} (h : slB P t e sz = true) : ∃ i, P.underlying t = some (.slice e) ∧ P.info? e = some i ∧ i.size = sz ∧ sz ≠ 0 := by
  unfold slB at h
  split at h
  · rename_i e' i h1 h2
    simp only [Bool.and_eq_true, beq_iff_eq, bne_iff_ne, ne_eq] at h
    obtain ⟨⟨rfl, h3⟩, h4⟩ := h
    exact ⟨i, h1, h2, h3, h4⟩
  · cases h
def arB (P : Program) (t : TypeId) (len : Nat) (e : TypeId) (sz : Nat) : Bool :=
  match P.underlying t, P.info? e with
  | some (.array n e'), some i => (n == len) && (e' == e) && (i.size == sz) && (sz != 0)
  | _, _ => false
theorem arB_get {P : Program} {t e : TypeId} {len sz : Nat} (h : arB P t len e sz = true) : ∃ i, P.underlying t = some (.array len e) ∧ P.info? e = some i ∧ i.size = sz ∧ sz ≠ 0 := by
  unfold arB at h
  split at h
  · rename_i n e' i h1 h2
    simp only [Bool.and_eq_true, beq_iff_eq, bne_iff_ne, ne_eq] at h
    obtain ⟨⟨⟨rfl, rfl⟩, h3⟩, h4⟩ := h
    exact ⟨i, h1, h2, h3, h4⟩
  · cases h

/-! ### an object is written, made -/
def S.setOwn (s : S) (i : Id) (x : AO) : S :=
  match i with
  | .e k => { s with H := upd s.H k (some x) }
  | .l d => { s with L := upd s.L d (some x) }
theorem setOwn_same (s : S) (i : Id) (x : AO) : (s.setOwn i x).own i = some x := by
  cases i <;> simp [S.setOwn, S.own, upd_same]
theorem setOwn_ne (s : S) {i j : Id} (x : AO) (h : j ≠ i) : (s.setOwn i x).own j = s.own j := by
  cases i <;> cases j <;> simp only [S.setOwn, S.own] <;> exact upd_ne _ _ (fun e => h (by rw [e]))
theorem setOwn_t (s : S) (i : Id) (x : AO) : (s.setOwn i x).t = s.t ∧ (s.setOwn i x).n = s.n := by cases i <;> exact ⟨rfl, rfl⟩
/-- an object's block is written: its reading turns, and its cells may become common -/
theorem Sat.write {c c' : Ctx} {s : S} {a : Act} {w w' : World} {i : Id} {x x' : AO} {b n : Nat} (g : Sat c s a w) (hi : s.own i = some x) (hx : ¬ x.empty) (hp : c.pos i = some (b, n))
    (hos : w'.os = w.os) (htape : w'.tape = w.tape) (hout : w'.output = w.output) (hsz : w'.heap.size = w.heap.size) (hblk : ∀ k, k ≠ b → w'.heap[k]? = w.heap[k]?)
    (hβ : c'.β = c.β) (hlam : c'.lam = c.lam) (hμ : ∀ b o u, c.μ b o = some u → c'.μ b o = some u) (hnew : ∀ b' o u, c'.μ b' o = some u → c.μ b' o = some u ∨ b' = b)
    (hmem : ∀ o u, c'.μ b o = some u → w'.cell? ⟨b, o, none⟩ = some u) (ho : ORep c' w' x' b n) (hbase : c'.base = c.base := by rfl) :
    Sat c' (s.setOwn i x') a w' ∧ Ext c s.own w c' (s.setOwn i x').own w' := by
  have pos : ∀ j, c'.pos j = c.pos j := fun j => by cases j <;> simp only [Ctx.pos, hβ, hlam]
  have hbl : b < w.heap.size := by
    obtain ⟨b', n', h1, h2⟩ := g.conc.obj i x hi hx
    rw [hp] at h1; injection h1 with h1; injection h1 with h1; subst h1; exact h2.lt
  have hnd : ∀ D : Nat, w.heap[D]? = some (Obj.deferred (some [])) → w'.heap[D]? = w.heap[D]? := fun D hD => hblk D fun e => by
    obtain ⟨b', n', h1, h2⟩ := g.conc.obj i x hi hx
    rw [hp] at h1; injection h1 with h1; injection h1 with h1; subst h1; subst e
    exact h2.nd hD
  have own' : ∀ j y, (s.setOwn i x').own j = some y → (j = i ∧ y = x') ∨ (j ≠ i ∧ s.own j = some y) := fun j y h => by
    by_cases hj : j = i
    · subst hj; rw [setOwn_same] at h; exact .inl ⟨rfl, by injection h with h; exact h.symm⟩
    · rw [setOwn_ne _ _ hj] at h; exact .inr ⟨hj, h⟩
  refine ⟨⟨⟨fun b' o u h => ?_, fun j y hj hy => ?_, fun j k y z b1 n1 n2 hj hk hy hz h1 h2 => ?_, ?_⟩, by rw [g.size, (setOwn_t s i x').2], fun j => ?_, by rw [hbase]; exact g.defers.blk hnd, fun j d h => ?_⟩, ⟨hos, htape, hout, by omega, fun b' hb' hn => hblk b' fun e => hn i x n hi hx (by rw [e]; exact hp), hμ, fun b' o u h => ?_, fun k p h => by rw [hβ]; exact h, fun j y b1 n1 hj hy h1 => ?_, hbase⟩⟩
  · rcases hnew b' o u h with h1 | rfl
    · by_cases hb : b' = b
      · subst hb; exact hmem o u h
      · have := g.conc.mem b' o u h1
        unfold World.cell? at this ⊢
        rw [hblk b' hb]; exact this
    · exact hmem o u h
  · rcases own' j y hj with ⟨rfl, rfl⟩ | ⟨hne, hj'⟩
    · exact ⟨b, n, by rw [pos]; exact hp, ho⟩
    · obtain ⟨b1, n1, h1, h2⟩ := g.conc.obj j y hj' hy
      have hb1 : b1 ≠ b := fun e => hne (g.conc.inj j i y x b n1 n hj' hi hy hx (by rw [← e]; exact h1) hp)
      exact ⟨b1, n1, by rw [pos]; exact h1, h2.keep (hblk b1 hb1) hμ (fun o u h => (hnew b1 o u h).resolve_right hb1) (fun k p h => by rw [hβ]; exact h)⟩
  · have key : ∀ j y b1 n1, (s.setOwn i x').own j = some y → ¬ y.empty → c'.pos j = some (b1, n1) → ∃ y', s.own j = some y' ∧ ¬ y'.empty ∧ c.pos j = some (b1, n1) := fun j y b1 n1 h hy h1 => by
      rw [pos] at h1
      rcases own' j y h with ⟨rfl, _⟩ | ⟨_, h'⟩
      · exact ⟨x, hi, hx, h1⟩
      · exact ⟨y, h', hy, h1⟩
    obtain ⟨y', a1, a2, a3⟩ := key j y b1 n1 hj hy h1
    obtain ⟨z', b1', b2, b3⟩ := key k z b1 n2 hk hz h2
    exact g.conc.inj j k y' z' b1 n1 n2 a1 b1' a2 b2 a3 b3
  · obtain ⟨N, hN⟩ := g.conc.fin
    have hne : ∀ k, N ≤ k → Id.e k ≠ i := fun k hk e => by subst e; rw [(hN k hk).2] at hi; cases hi
    exact ⟨N, fun k hk => ⟨by rw [hβ]; exact (hN k hk).1, by rw [setOwn_ne _ _ (hne k hk)]; exact (hN k hk).2⟩⟩
  · rw [(setOwn_t s i x').1]
    exact (g.tmps j).mono hμ (fun k p h => by rw [hβ]; exact h) hlam
  · rw [(setOwn_t s i x').1] at h
    have := g.wf j d h
    cases i with
    | e k => exact this
    | l d' =>
      simp only [S.setOwn]
      by_cases hd : d = d'
      · subst hd; rw [upd_same]; simp
      · rw [upd_ne _ _ hd]; exact this
  · rcases hnew b' o u h with h1 | rfl
    · exact .inl h1
    · exact .inr (.inr ⟨i, x, n, hi, hx, hp⟩)
  · rw [pos] at h1
    rcases own' j y hj with ⟨rfl, _⟩ | ⟨_, hj'⟩
    · exact .inr ⟨j, x, n1, hi, hx, h1⟩
    · exact .inr ⟨j, y, n1, hj', hy, h1⟩
/-- a variable of the call's own is made -/
theorem Sat.newL {c c1 : Ctx} {s : S} {a : Act} {w w1 : World} {d : Nat} {x : AO} {b n : Nat} (g : Sat c s a w) (m : Mk c w c1 w1) (hd : s.L d = none) (hb : w.heap.size ≤ b) (ho : ORep c1 w1 x b n) :
    Sat { c1 with lam := upd c1.lam d (b, n) } (s.setOwn (.l d) x) a w1 ∧ Ext c s.own w { c1 with lam := upd c1.lam d (b, n) } (s.setOwn (.l d) x).own w1 := by
  obtain ⟨g1, x1⟩ := g.grow m
  have pne : ∀ j, j ≠ Id.l d → ({ c1 with lam := upd c1.lam d (b, n) } : Ctx).pos j = c1.pos j := fun j hj => by
    cases j with
    | e k => rfl
    | l d' => simp only [Ctx.pos]; rw [upd_ne]; exact fun e => hj (by rw [e])
  have psame : ({ c1 with lam := upd c1.lam d (b, n) } : Ctx).pos (.l d) = some (b, n) := by simp only [Ctx.pos, upd_same]
  have oldlt : ∀ j y b1 n1, s.own j = some y → ¬ y.empty → c1.pos j = some (b1, n1) → b1 < w.heap.size := fun j y b1 n1 hj hy h1 => by
    obtain ⟨b2, n2, h2, h3⟩ := g.conc.obj j y hj hy
    obtain ⟨b3, n3, h4, h5⟩ := g1.conc.obj j y hj hy
    have e1 : c1.pos j = some (b2, n2) := by
      cases j with
      | e k => exact m.ext _ _ h2
      | l d' => simp only [Ctx.pos] at h2 ⊢; rw [m.lam]; exact h2
    rw [h1] at e1; injection e1 with e1; injection e1 with e1; subst e1; exact h3.lt
  have own' : ∀ j y, (s.setOwn (.l d) x).own j = some y → (j = .l d ∧ y = x) ∨ (j ≠ .l d ∧ s.own j = some y) := fun j y h => by
    by_cases hj : j = .l d
    · subst hj; rw [setOwn_same] at h; exact .inl ⟨rfl, by injection h with h; exact h.symm⟩
    · rw [setOwn_ne _ _ hj] at h; exact .inr ⟨hj, h⟩
  have repk : ∀ {y b1 n1}, ORep c1 w1 y b1 n1 → ORep { c1 with lam := upd c1.lam d (b, n) } w1 y b1 n1 := fun h => h.keep rfl (fun _ _ _ h => h) (fun _ _ h => h) (fun _ _ h => h)
  refine ⟨⟨⟨g1.conc.mem, fun j y hj hy => ?_, fun j k y z b1 n1 n2 hj hk hy hz h1 h2 => ?_, ?_⟩, by rw [g.size, (setOwn_t s _ x).2], fun j => ?_, g1.defers, fun j e h => ?_⟩, ⟨x1.os, x1.tape, x1.output, x1.size, x1.blk, x1.mem, x1.new, x1.ext, fun j y b1 n1 hj hy h1 => ?_, x1.base⟩⟩
  · rcases own' j y hj with ⟨rfl, rfl⟩ | ⟨hne, hj'⟩
    · exact ⟨b, n, psame, repk ho⟩
    · obtain ⟨b1, n1, h1, h2⟩ := g1.conc.obj j y hj' hy
      exact ⟨b1, n1, by rw [pne j hne]; exact h1, repk h2⟩
  · rcases own' j y hj with ⟨rfl, rfl⟩ | ⟨hne, hj'⟩
    · rcases own' k z hk with ⟨rfl, rfl⟩ | ⟨hnk, hk'⟩
      · rfl
      · rw [psame] at h1
        rw [pne k hnk] at h2
        have := oldlt k z b1 n2 hk' hz h2
        injection h1 with h1; injection h1 with h1; omega
    · rw [pne j hne] at h1
      rcases own' k z hk with ⟨rfl, rfl⟩ | ⟨hnk, hk'⟩
      · rw [psame] at h2
        have := oldlt j y b1 n1 hj' hy h1
        injection h2 with h2; injection h2 with h2; omega
      · rw [pne k hnk] at h2
        exact g1.conc.inj j k y z b1 n1 n2 hj' hk' hy hz h1 h2
  · obtain ⟨N, hN⟩ := g1.conc.fin
    exact ⟨N, fun k hk => ⟨(hN k hk).1, by rw [setOwn_ne _ _ (by simp)]; exact (hN k hk).2⟩⟩
  · rw [(setOwn_t s _ x).1]
    have h := g1.tmps j
    have hl : (s.t j).loc ≠ some d := fun e => g.wf j d e hd
    generalize s.t j = y at h hl
    cases y with
    | lp d' off => have hd' : d' ≠ d := fun e => hl (by rw [e]; rfl)
                   simp only [RepX, upd_ne _ _ hd'] at h ⊢; exact h
    | lts d' z sz es => have hd' : d' ≠ d := fun e => hl (by rw [e]; rfl)
                        simp only [RepX, upd_ne _ _ hd'] at h ⊢; exact h
    | lmp d' => have hd' : d' ≠ d := fun e => hl (by rw [e]; rfl)
                simp only [RepX, upd_ne _ _ hd'] at h ⊢; exact h
    | _ => exact h
  · rw [(setOwn_t s _ x).1] at h
    have := g.wf j e h
    simp only [S.setOwn]
    by_cases he : e = d
    · subst he; rw [upd_same]; simp
    · rw [upd_ne _ _ he]; exact this
  · rcases own' j y hj with ⟨rfl, rfl⟩ | ⟨hne, hj'⟩
    · rw [psame] at h1; injection h1 with h1; injection h1 with h1; exact .inl (by omega)
    · rw [pne j hne] at h1
      exact x1.own j y b1 n1 hj' hy h1
/-- an object is made, under whatever name is free -/
theorem Sat.newE {c c1 : Ctx} {s : S} {a : Act} {w w1 : World} {x : AO} {b n : Nat} (g : Sat c s a w) (m : Mk c w c1 w1) (hb : w.heap.size ≤ b) (ho : ORep c1 w1 x b n) :
    ∃ k, s.H k = none ∧ c1.β k = none ∧ Sat { c1 with β := upd c1.β k (some (b, n)) } (s.setOwn (.e k) x) a w1 ∧ Ext c s.own w { c1 with β := upd c1.β k (some (b, n)) } (s.setOwn (.e k) x).own w1 := by
  obtain ⟨g1, x1⟩ := g.grow m
  obtain ⟨N, hN⟩ := g1.conc.fin
  refine ⟨N, (hN N (Nat.le_refl _)).2, (hN N (Nat.le_refl _)).1, ?_⟩
  have hk0 := (hN N (Nat.le_refl _)).1
  have hH0 : s.own (.e N) = none := (hN N (Nat.le_refl _)).2
  have hext : ∀ k p, c1.β k = some p → upd c1.β N (some (b, n)) k = some p := fun k p h => by
    by_cases e : k = N
    · subst e; rw [hk0] at h; cases h
    · rw [upd_ne _ _ e]; exact h
  have pne : ∀ j, j ≠ Id.e N → ({ c1 with β := upd c1.β N (some (b, n)) } : Ctx).pos j = c1.pos j := fun j hj => by
    cases j with
    | l d => rfl
    | e k => simp only [Ctx.pos]; rw [upd_ne]; exact fun e => hj (by rw [e])
  have psame : ({ c1 with β := upd c1.β N (some (b, n)) } : Ctx).pos (.e N) = some (b, n) := by simp only [Ctx.pos, upd_same]
  have oldlt : ∀ j y b1 n1, s.own j = some y → ¬ y.empty → c1.pos j = some (b1, n1) → b1 < w.heap.size := fun j y b1 n1 hj hy h1 => by
    obtain ⟨b2, n2, h2, h3⟩ := g.conc.obj j y hj hy
    have e1 : c1.pos j = some (b2, n2) := by
      cases j with
      | e k => exact m.ext _ _ h2
      | l d' => simp only [Ctx.pos] at h2 ⊢; rw [m.lam]; exact h2
    rw [h1] at e1; injection e1 with e1; injection e1 with e1; subst e1; exact h3.lt
  have own' : ∀ j y, (s.setOwn (.e N) x).own j = some y → (j = .e N ∧ y = x) ∨ (j ≠ .e N ∧ s.own j = some y) := fun j y h => by
    by_cases hj : j = .e N
    · subst hj; rw [setOwn_same] at h; exact .inl ⟨rfl, by injection h with h; exact h.symm⟩
    · rw [setOwn_ne _ _ hj] at h; exact .inr ⟨hj, h⟩
  have repk : ∀ {y b1 n1}, ORep c1 w1 y b1 n1 → ORep { c1 with β := upd c1.β N (some (b, n)) } w1 y b1 n1 := fun h => h.keep rfl (fun _ _ _ h => h) (fun _ _ h => h) hext
  refine ⟨⟨⟨g1.conc.mem, fun j y hj hy => ?_, fun j k y z b1 n1 n2 hj hk hy hz h1 h2 => ?_, ?_⟩, by rw [g.size, (setOwn_t s _ x).2], fun j => ?_, g1.defers, fun j e h => ?_⟩, ⟨x1.os, x1.tape, x1.output, x1.size, x1.blk, x1.mem, x1.new, fun k p h => hext k p (x1.ext k p h), fun j y b1 n1 hj hy h1 => ?_, x1.base⟩⟩
  · rcases own' j y hj with ⟨rfl, rfl⟩ | ⟨hne, hj'⟩
    · exact ⟨b, n, psame, repk ho⟩
    · obtain ⟨b1, n1, h1, h2⟩ := g1.conc.obj j y hj' hy
      exact ⟨b1, n1, by rw [pne j hne]; exact h1, repk h2⟩
  · rcases own' j y hj with ⟨rfl, rfl⟩ | ⟨hne, hj'⟩
    · rcases own' k z hk with ⟨rfl, rfl⟩ | ⟨hnk, hk'⟩
      · rfl
      · rw [psame] at h1
        rw [pne k hnk] at h2
        have := oldlt k z b1 n2 hk' hz h2
        injection h1 with h1; injection h1 with h1; omega
    · rw [pne j hne] at h1
      rcases own' k z hk with ⟨rfl, rfl⟩ | ⟨hnk, hk'⟩
      · rw [psame] at h2
        have := oldlt j y b1 n1 hj' hy h1
        injection h2 with h2; injection h2 with h2; omega
      · rw [pne k hnk] at h2
        exact g1.conc.inj j k y z b1 n1 n2 hj' hk' hy hz h1 h2
  · refine ⟨N + 1, fun k hk => ⟨?_, ?_⟩⟩
    · show upd c1.β N (some (b, n)) k = none
      rw [upd_ne _ _ (by omega)]; exact (hN k (by omega)).1
    · rw [setOwn_ne _ _ (fun e => by injection e with e; omega)]; exact (hN k (by omega)).2
  · rw [(setOwn_t s _ x).1]
    exact RepX.mono (c := c1) (c' := { c1 with β := upd c1.β N (some (b, n)) }) (fun _ _ _ h => h) hext rfl (g1.tmps j)
  · rw [(setOwn_t s _ x).1] at h; exact g.wf j e h
  · rcases own' j y hj with ⟨rfl, rfl⟩ | ⟨hne, hj'⟩
    · rw [psame] at h1; injection h1 with h1; injection h1 with h1; exact .inl (by omega)
    · rw [pne j hne] at h1
      exact x1.own j y b1 n1 hj' hy h1
end Go.Proofs.Ytojkjiakkcgfcaa.E
