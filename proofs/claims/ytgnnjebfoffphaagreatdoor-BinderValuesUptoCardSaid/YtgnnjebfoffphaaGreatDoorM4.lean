import Derived.Test.YtgnnjebfoffphaaGreatDoorM3
import Derived.Deep.MidRow
import Derived.Laws.CopyRow
set_option linter.unusedVariables false
namespace Go.Proofs.YtgnnjebfoffphaaGreatDoor.E
open Go.RowKit
def tyB (P : Program) (t : TypeId) (agg : Bool) (n : Nat) : Bool :=
  match P.underlying t, P.info? t with
  | some d, some i => (d.isRow == agg) && (i.size == n) && (agg || n == 1)
  | _, _ => false
theorem tyB_get {P : Program} {t : TypeId} {agg : Bool} {n : Nat} (h : tyB P t agg n = true) : ∃ d i, P.underlying t = some d ∧ P.info? t = some i ∧ d.isRow = agg ∧ i.size = n ∧ (agg = false → n = 1) := by
  unfold tyB at h
  split at h
  · rename_i d i h1 h2
    simp only [jG, beq_iff_eq, Bool.or_eq_true] at h
    exact ⟨d, i, h1, h2, h.1.1, h.1.2, fun e => by rcases h.2 with h3 | h3 <;> simp_all⟩
  · cases h
def fldB (P : Program) (t : TypeId) (i off : Nat) : Bool :=
  match P.underlying t with
  | some (.struct fs) => match fs[i]? with
    | some f => (f.offset == off) && (match P.info? f.type with | some j => j.size != 0 | none => false)
    | none => false
  | _ => false
theorem fldB_get {P : Program} {t : TypeId} {i off : Nat} (h : fldB P t i off = true) : ∃ fs f j, P.underlying t = some (.struct fs) ∧ fs[i]? = some f ∧ f.offset = off ∧ P.info? f.type = some j ∧ j.size ≠ 0 := by
  unfold fldB at h
  split at h
  · rename_i fs h1
    split at h
    · rename_i f h2
      simp only [jG, beq_iff_eq] at h
      split at h
      · rename_i j h3; exact ⟨fs, f, j, h1, h2, h.1, h3, by simpa using h.2⟩
      · simp at h
    · cases h
  · cases h
def slB (P : Program) (t e : TypeId) (sz : Nat) : Bool :=
  match P.underlying t, P.info? e with
  | some (.slice e'), some i => (e' == e) && (i.size == sz) && (sz != 0)
  | _, _ => false
theorem slB_get {P : Program} {t e : TypeId} {sz : Nat} (h : slB P t e sz = true) : ∃ i, P.underlying t = some (.slice e) ∧ P.info? e = some i ∧ i.size = sz ∧ sz ≠ 0 := by
  unfold slB at h
  split at h
  · rename_i e' i h1 h2
    simp only [jG, beq_iff_eq, bne_iff_ne, ne_eq] at h
    obtain ⟨⟨rfl, h3⟩, h4⟩ := h
    exact ⟨i, h1, h2, h3, h4⟩
  · cases h
def S.setOwn (s : S) (i : Id) (x : AO) : S :=
  match i with
  | .e k => { s with H := upd s.H k (some x) }
  | .l d => { s with L := upd s.L d (some x) }
theorem setOwn_same (s : S) (i : Id) (x : AO) : (s.setOwn i x).own i = some x := by
  cases i <;> simp [S.setOwn, S.own, upd_same]
theorem setOwn_ne (s : S) {i j : Id} (x : AO) (h : j ≠ i) : (s.setOwn i x).own j = s.own j := by
  cases i <;> cases j <;> simp only [S.setOwn, S.own] <;> exact upd_ne _ _ (fun e => h (by rw [e]))
theorem setOwn_t (s : S) (i : Id) (x : AO) : (s.setOwn i x).t = s.t ∧ (s.setOwn i x).n = s.n := by cases i <;> exact ⟨rfl, rfl⟩
theorem Sat.write {c c' : Ctx} {s : S} {a : Act} {w w' : World} {i : Id} {x x' : AO} {b n : Nat} (g : Sat c s a w) (hi : s.own i = some x) (hx : ¬ x.empty) (hp : c.pos i = some (b, n))
    (hos : w'.os = w.os) (htape : w'.tape = w.tape) (hout : w'.output = w.output) (hsz : w'.heap.size = w.heap.size) (hblk : ∀ k, k ≠ b → w'.heap[k]? = w.heap[k]?)
    (hβ : c'.β = c.β) (hlam : c'.lam = c.lam) (hμ : ∀ b o u, c.μ b o = some u → c'.μ b o = some u) (hnew : ∀ b' o u, c'.μ b' o = some u → c.μ b' o = some u ∨ b' = b)
    (hmem : ∀ o u, c'.μ b o = some u → w'.cell? ⟨b, o, none⟩ = some u) (ho : ORep c' w' x' b n) (hbase : c'.base = c.base := by rfl) :
    Sat c' (s.setOwn i x') a w' ∧ Ext c s.own w c' (s.setOwn i x').own w' := by
  have pos : ∀ j, c'.pos j = c.pos j := fun j => by cases j <;> simp only [Ctx.pos, hβ, hlam]
  have hbl : b < w.heap.size := by
    obtain ⟨b', n', h1, h2⟩ := g.conc.obj i x hi hx
    rw [hp] at h1; injection h1 with h1; injection h1 with h1; subst h1; exact h2.lt
  have hnd : ∀ D : Nat, w.heap[D]? = some (Obj.deferred (some [])) → w'.heap[D]? = w.heap[D]? := fun D hD => hblk D fun e => by
    obtain ⟨b', n', h1, h2⟩ := g.conc.obj i x hi hx
    rw [hp] at h1; injection h1 with h1; injection h1 with h1; subst h1; subst e
    exact h2.nd hD
  have own' : ∀ j y, (s.setOwn i x').own j = some y → (j = i ∧ y = x') ∨ (j ≠ i ∧ s.own j = some y) := fun j y h => by
    by_cases hj : j = i
    · subst hj; rw [setOwn_same] at h; exact .inl ⟨rfl, by injection h with h; exact h.symm⟩
    · rw [setOwn_ne _ _ hj] at h; exact .inr ⟨hj, h⟩
  refine ⟨⟨⟨fun b' o u h => ?_, fun j y hj hy => ?_, fun j k y z b1 n1 n2 hj hk hy hz h1 h2 => ?_, ?_, g.conc.tabw.of g.conc.tabo (fun b' hb' hn => hblk b' fun e => hn i x n hi hx (by rw [e]; exact hp)), fun tg cs th j y n1 hj hy h1 => by
    rw [pos] at h1
    rcases own' j y hj with ⟨rfl, _⟩ | ⟨_, hj'⟩
    · exact g.conc.tabo tg cs th j x n1 hi hx h1
    · exact g.conc.tabo tg cs th j y n1 hj' hy h1⟩, by rw [g.size, (setOwn_t s i x').2], fun j => ?_, by rw [hbase]; exact g.defers.blk (by omega) hnd, fun j d h => ?_⟩, ⟨hos, htape, hout, by omega, fun b' hb' hn => hblk b' fun e => hn i x n hi hx (by rw [e]; exact hp), hμ, fun b' o u h => ?_, fun k p h => by rw [hβ]; exact h, fun j y b1 n1 hj hy h1 => ?_, hbase, fun k y hk => .inl (by
    rcases own' _ y hk with ⟨rfl, _⟩ | ⟨_, h'⟩
    · rw [hi]; simp
    · rw [h']; simp)⟩⟩
  · rcases hnew b' o u h with h1 | rfl
    · by_cases hb : b' = b
      · subst hb; exact hmem o u h
      · have := g.conc.mem b' o u h1
        unfold World.cell? at this ⊢
        rw [hblk b' hb]; exact this
    · exact hmem o u h
  · rcases own' j y hj with ⟨rfl, rfl⟩ | ⟨hne, hj'⟩
    · exact ⟨b, n, by rw [pos]; exact hp, ho⟩
    · obtain ⟨b1, n1, h1, h2⟩ := g.conc.obj j y hj' hy
      have hb1 : b1 ≠ b := fun e => hne (g.conc.inj j i y x b n1 n hj' hi hy hx (by rw [← e]; exact h1) hp)
      exact ⟨b1, n1, by rw [pos]; exact h1, h2.keep (hblk b1 hb1) hμ (fun o u h => (hnew b1 o u h).resolve_right hb1) (fun k p h => by rw [hβ]; exact h)⟩
  · have key : ∀ j y b1 n1, (s.setOwn i x').own j = some y → ¬ y.empty → c'.pos j = some (b1, n1) → ∃ y', s.own j = some y' ∧ ¬ y'.empty ∧ c.pos j = some (b1, n1) := fun j y b1 n1 h hy h1 => by
      rw [pos] at h1
      rcases own' j y h with ⟨rfl, _⟩ | ⟨_, h'⟩
      · exact ⟨x, hi, hx, h1⟩
      · exact ⟨y, h', hy, h1⟩
    obtain ⟨y', a1, a2, a3⟩ := key j y b1 n1 hj hy h1
    obtain ⟨z', b1', b2, b3⟩ := key k z b1 n2 hk hz h2
    exact g.conc.inj j k y' z' b1 n1 n2 a1 b1' a2 b2 a3 b3
  · obtain ⟨N, hN⟩ := g.conc.fin
    have hne : ∀ k, N ≤ k → Id.e k ≠ i := fun k hk e => by subst e; rw [(hN k hk).2] at hi; cases hi
    exact ⟨N, fun k hk => ⟨by rw [hβ]; exact (hN k hk).1, by rw [setOwn_ne _ _ (hne k hk)]; exact (hN k hk).2⟩⟩
  · rw [(setOwn_t s i x').1]
    exact (g.tmps j).mono hμ (fun k p h => by rw [hβ]; exact h) hlam
  · rw [(setOwn_t s i x').1] at h
    have := g.wf j d h
    cases i with
    | e k => exact this
    | l d' =>
      simp only [S.setOwn]
      by_cases hd : d = d'
      · subst hd; rw [upd_same]; simp
      · rw [upd_ne _ _ hd]; exact this
  · rcases hnew b' o u h with h1 | rfl
    · exact .inl h1
    · exact .inr (.inr ⟨i, x, n, hi, hx, hp⟩)
  · rw [pos] at h1
    rcases own' j y hj with ⟨rfl, _⟩ | ⟨_, hj'⟩
    · exact .inr ⟨j, x, n1, hi, hx, h1⟩
    · exact .inr ⟨j, y, n1, hj', hy, h1⟩
theorem Sat.newL {c c1 : Ctx} {s : S} {a : Act} {w w1 : World} {d : Nat} {x : AO} {b n : Nat} (g : Sat c s a w) (m : Mk c w c1 w1) (hd : s.L d = none) (hb : w.heap.size ≤ b) (ho : ORep c1 w1 x b n) :
    Sat { c1 with lam := upd c1.lam d (b, n) } (s.setOwn (.l d) x) a w1 ∧ Ext c s.own w { c1 with lam := upd c1.lam d (b, n) } (s.setOwn (.l d) x).own w1 := by
  obtain ⟨g1, x1⟩ := g.grow m
  have pne : ∀ j, j ≠ Id.l d → ({ c1 with lam := upd c1.lam d (b, n) } : Ctx).pos j = c1.pos j := fun j hj => by
    cases j with
    | e k => rfl
    | l d' => simp only [Ctx.pos]; rw [upd_ne]; exact fun e => hj (by rw [e])
  have psame : ({ c1 with lam := upd c1.lam d (b, n) } : Ctx).pos (.l d) = some (b, n) := by simp only [Ctx.pos, upd_same]
  have oldlt : ∀ j y b1 n1, s.own j = some y → ¬ y.empty → c1.pos j = some (b1, n1) → b1 < w.heap.size := fun j y b1 n1 hj hy h1 => by
    obtain ⟨b2, n2, h2, h3⟩ := g.conc.obj j y hj hy
    obtain ⟨b3, n3, h4, h5⟩ := g1.conc.obj j y hj hy
    have e1 : c1.pos j = some (b2, n2) := by
      cases j with
      | e k => exact m.ext _ _ h2
      | l d' => simp only [Ctx.pos] at h2 ⊢; rw [m.lam]; exact h2
    rw [h1] at e1; injection e1 with e1; injection e1 with e1; subst e1; exact h3.lt
  have own' : ∀ j y, (s.setOwn (.l d) x).own j = some y → (j = .l d ∧ y = x) ∨ (j ≠ .l d ∧ s.own j = some y) := fun j y h => by
    by_cases hj : j = .l d
    · subst hj; rw [setOwn_same] at h; exact .inl ⟨rfl, by injection h with h; exact h.symm⟩
    · rw [setOwn_ne _ _ hj] at h; exact .inr ⟨hj, h⟩
  have repk : ∀ {y b1 n1}, ORep c1 w1 y b1 n1 → ORep { c1 with lam := upd c1.lam d (b, n) } w1 y b1 n1 := fun h => h.keep rfl (fun _ _ _ h => h) (fun _ _ h => h) (fun _ _ h => h)
  refine ⟨⟨⟨g1.conc.mem, fun j y hj hy => ?_, fun j k y z b1 n1 n2 hj hk hy hz h1 h2 => ?_, ?_, g1.conc.tabw, fun tg cs th j y n1 hj hy h1 => by
    rcases own' j y hj with ⟨rfl, rfl⟩ | ⟨hne, hj'⟩
    · rw [psame] at h1
      injection h1 with h1; injection h1 with h1
      have := g.conc.tabw.lt th
      omega
    · rw [pne j hne] at h1
      exact g1.conc.tabo tg cs th j y n1 hj' hy h1⟩, by rw [g.size, (setOwn_t s _ x).2], fun j => ?_, g1.defers, fun j e h => ?_⟩, ⟨x1.os, x1.tape, x1.output, x1.size, x1.blk, x1.mem, x1.new, x1.ext, fun j y b1 n1 hj hy h1 => ?_, x1.base, fun k y hk => .inl (by
    rcases own' _ y hk with ⟨h', _⟩ | ⟨_, h'⟩
    · cases h'
    · rw [h']; simp)⟩⟩
  · rcases own' j y hj with ⟨rfl, rfl⟩ | ⟨hne, hj'⟩
    · exact ⟨b, n, psame, repk ho⟩
    · obtain ⟨b1, n1, h1, h2⟩ := g1.conc.obj j y hj' hy
      exact ⟨b1, n1, by rw [pne j hne]; exact h1, repk h2⟩
  · rcases own' j y hj with ⟨rfl, rfl⟩ | ⟨hne, hj'⟩
    · rcases own' k z hk with ⟨rfl, rfl⟩ | ⟨hnk, hk'⟩
      · rfl
      · rw [psame] at h1
        rw [pne k hnk] at h2
        have := oldlt k z b1 n2 hk' hz h2
        injection h1 with h1; injection h1 with h1; omega
    · rw [pne j hne] at h1
      rcases own' k z hk with ⟨rfl, rfl⟩ | ⟨hnk, hk'⟩
      · rw [psame] at h2
        have := oldlt j y b1 n1 hj' hy h1
        injection h2 with h2; injection h2 with h2; omega
      · rw [pne k hnk] at h2
        exact g1.conc.inj j k y z b1 n1 n2 hj' hk' hy hz h1 h2
  · obtain ⟨N, hN⟩ := g1.conc.fin
    exact ⟨N, fun k hk => ⟨(hN k hk).1, by rw [setOwn_ne _ _ (by simp)]; exact (hN k hk).2⟩⟩
  · rw [(setOwn_t s _ x).1]
    have h := g1.tmps j
    have hl : (s.t j).loc ≠ some d := fun e => g.wf j d e hd
    generalize s.t j = y at h hl
    cases y with
    | lp d' off => have hd' : d' ≠ d := fun e => hl (by rw [e]; rfl)
                   simp only [RepX, upd_ne _ _ hd'] at h ⊢; exact h
    | lts d' z sz es => have hd' : d' ≠ d := fun e => hl (by rw [e]; rfl)
                        simp only [RepX, upd_ne _ _ hd'] at h ⊢; exact h
    | lmp d' => have hd' : d' ≠ d := fun e => hl (by rw [e]; rfl)
                simp only [RepX, upd_ne _ _ hd'] at h ⊢; exact h
    | _ => exact h
  · rw [(setOwn_t s _ x).1] at h
    have := g.wf j e h
    simp only [S.setOwn]
    by_cases he : e = d
    · subst he; rw [upd_same]; simp
    · rw [upd_ne _ _ he]; exact this
  · rcases own' j y hj with ⟨rfl, rfl⟩ | ⟨hne, hj'⟩
    · rw [psame] at h1; injection h1 with h1; injection h1 with h1; exact .inl (by omega)
    · rw [pne j hne] at h1
      exact x1.own j y b1 n1 hj' hy h1
theorem Sat.newE {c c1 : Ctx} {s : S} {a : Act} {w w1 : World} {x : AO} {b n : Nat} (g : Sat c s a w) (m : Mk c w c1 w1) (hb : w.heap.size ≤ b) (ho : ORep c1 w1 x b n) :
    ∃ k, s.H k = none ∧ c1.β k = none ∧ Sat { c1 with β := upd c1.β k (some (b, n)) } (s.setOwn (.e k) x) a w1 ∧ Ext c s.own w { c1 with β := upd c1.β k (some (b, n)) } (s.setOwn (.e k) x).own w1 := by
  obtain ⟨g1, x1⟩ := g.grow m
  obtain ⟨N, hN⟩ := g1.conc.fin
  refine ⟨N, (hN N (jA _)).2, (hN N (jA _)).1, ?_⟩
  have hk0 := (hN N (jA _)).1
  have hH0 : s.own (.e N) = none := (hN N (jA _)).2
  have hext : ∀ k p, c1.β k = some p → upd c1.β N (some (b, n)) k = some p := fun k p h => by
    by_cases e : k = N
    · subst e; rw [hk0] at h; cases h
    · rw [upd_ne _ _ e]; exact h
  have pne : ∀ j, j ≠ Id.e N → ({ c1 with β := upd c1.β N (some (b, n)) } : Ctx).pos j = c1.pos j := fun j hj => by
    cases j with
    | l d => rfl
    | e k => simp only [Ctx.pos]; rw [upd_ne]; exact fun e => hj (by rw [e])
  have psame : ({ c1 with β := upd c1.β N (some (b, n)) } : Ctx).pos (.e N) = some (b, n) := by simp only [Ctx.pos, upd_same]
  have oldlt : ∀ j y b1 n1, s.own j = some y → ¬ y.empty → c1.pos j = some (b1, n1) → b1 < w.heap.size := fun j y b1 n1 hj hy h1 => by
    obtain ⟨b2, n2, h2, h3⟩ := g.conc.obj j y hj hy
    have e1 : c1.pos j = some (b2, n2) := by
      cases j with
      | e k => exact m.ext _ _ h2
      | l d' => simp only [Ctx.pos] at h2 ⊢; rw [m.lam]; exact h2
    rw [h1] at e1; injection e1 with e1; injection e1 with e1; subst e1; exact h3.lt
  have own' : ∀ j y, (s.setOwn (.e N) x).own j = some y → (j = .e N ∧ y = x) ∨ (j ≠ .e N ∧ s.own j = some y) := fun j y h => by
    by_cases hj : j = .e N
    · subst hj; rw [setOwn_same] at h; exact .inl ⟨rfl, by injection h with h; exact h.symm⟩
    · rw [setOwn_ne _ _ hj] at h; exact .inr ⟨hj, h⟩
  have repk : ∀ {y b1 n1}, ORep c1 w1 y b1 n1 → ORep { c1 with β := upd c1.β N (some (b, n)) } w1 y b1 n1 := fun h => h.keep rfl (fun _ _ _ h => h) (fun _ _ h => h) hext
  refine ⟨⟨⟨g1.conc.mem, fun j y hj hy => ?_, fun j k y z b1 n1 n2 hj hk hy hz h1 h2 => ?_, ?_, g1.conc.tabw, fun tg cs th j y n1 hj hy h1 => by
    rcases own' j y hj with ⟨rfl, rfl⟩ | ⟨hne, hj'⟩
    · rw [psame] at h1
      injection h1 with h1; injection h1 with h1
      have := g.conc.tabw.lt th
      omega
    · rw [pne j hne] at h1
      exact g1.conc.tabo tg cs th j y n1 hj' hy h1⟩, by rw [g.size, (setOwn_t s _ x).2], fun j => ?_, g1.defers, fun j e h => ?_⟩, ⟨x1.os, x1.tape, x1.output, x1.size, x1.blk, x1.mem, x1.new, fun k p h => hext k p (x1.ext k p h), fun j y b1 n1 hj hy h1 => ?_, x1.base, fun k y hk => by
    rcases own' _ y hk with ⟨h', _⟩ | ⟨_, h'⟩
    · injection h' with h'; subst h'
      refine .inr ?_
      cases h2 : c.β k with
      | none => rfl
      | some p => rw [m.ext k p h2] at hk0; cases hk0
    · exact .inl (by rw [h']; simp)⟩⟩
  · rcases own' j y hj with ⟨rfl, rfl⟩ | ⟨hne, hj'⟩
    · exact ⟨b, n, psame, repk ho⟩
    · obtain ⟨b1, n1, h1, h2⟩ := g1.conc.obj j y hj' hy
      exact ⟨b1, n1, by rw [pne j hne]; exact h1, repk h2⟩
  · rcases own' j y hj with ⟨rfl, rfl⟩ | ⟨hne, hj'⟩
    · rcases own' k z hk with ⟨rfl, rfl⟩ | ⟨hnk, hk'⟩
      · rfl
      · rw [psame] at h1
        rw [pne k hnk] at h2
        have := oldlt k z b1 n2 hk' hz h2
        injection h1 with h1; injection h1 with h1; omega
    · rw [pne j hne] at h1
      rcases own' k z hk with ⟨rfl, rfl⟩ | ⟨hnk, hk'⟩
      · rw [psame] at h2
        have := oldlt j y b1 n1 hj' hy h1
        injection h2 with h2; injection h2 with h2; omega
      · rw [pne k hnk] at h2
        exact g1.conc.inj j k y z b1 n1 n2 hj' hk' hy hz h1 h2
  · refine ⟨N + 1, fun k hk => ⟨?_, ?_⟩⟩
    · show upd c1.β N (some (b, n)) k = none
      rw [upd_ne _ _ (by omega)]; exact (hN k (by omega)).1
    · rw [setOwn_ne _ _ (fun e => by injection e with e; omega)]; exact (hN k (by omega)).2
  · rw [(setOwn_t s _ x).1]
    exact RepX.mono (c := c1) (c' := { c1 with β := upd c1.β N (some (b, n)) }) (fun _ _ _ h => h) hext rfl (g1.tmps j)
  · rw [(setOwn_t s _ x).1] at h; exact g.wf j e h
  · rcases own' j y hj with ⟨rfl, rfl⟩ | ⟨hne, hj'⟩
    · rw [psame] at h1; injection h1 with h1; injection h1 with h1; exact .inl (by omega)
    · rw [pne j hne] at h1
      exact x1.own j y b1 n1 hj' hy h1
section
variable {P : Program} {all : Array Oper} {o : Oper} {s s' : S}
def QR (P : Program) (o : Oper) (s : S) (pre : Ctx → World → Prop) (x : X) : Prop :=
  (∀ d, x.loc = some d → ∃ y, y ∈ o.op.operands ∧ (s.eval y).loc = some d) ∧
  ∀ (c : Ctx) (w : World) (a : Act), MemOk c w → pre c w → (∀ y, y ∈ o.op.operands → RepX c (s.eval y) (a.eval y)) → o.wp P a w (fun a' w' => ∃ v c', a' = a.put o.dst v ∧ RepX c' x v ∧ Mk c w c' w') (fun _ _ _ => False)
theorem QR.of_same {pre : Ctx → World → Prop} {x : X} (hl : ∀ d, x.loc = some d → ∃ y, y ∈ o.op.operands ∧ (s.eval y).loc = some d)
    (h : ∀ (c : Ctx) (w : World) (a : Act), MemOk c w → pre c w → (∀ y, y ∈ o.op.operands → RepX c (s.eval y) (a.eval y)) → ∃ v, (execOp a.eval o).run P w = .ok (.value v) w ∧ RepX c x v) : QR P o s pre x :=
  ⟨hl, fun c w a hm hp hr => by
    obtain ⟨v, h1, h2⟩ := h c w a hm hp hr
    unfold Oper.wp
    rw [h1]
    exact ⟨v, c, rfl, h2, .refl hm⟩⟩
structure LR (P : Program) (o : Oper) (R W : List Loc) (s s' : S) : Prop where
  len : Len s' s
  out : ∀ ℓ, ℓ ∉ W → Same ℓ s' s
  run : ∀ s1, Len s1 s → (∀ ℓ, ℓ ∈ R → Same ℓ s1 s) → ∀ (c : Ctx) (a : Act) (w : World), Sat c s1 a w → o.wp P a w (fun a' w' => ∃ c', Sat c' (s1.over W s') a' w' ∧ Ext c s1.own w c' (s1.over W s').own w') (fun _ _ _ => False)
theorem LOp.r {R W : List Loc} (h : LR P o R W s s') (hg : o.guard = none) : LOp P all o R W s s' :=
  ⟨h.len, h.out, fun s1 hl hs c a w g => by
    unfold opRun
    rw [if_pos (by simp [Region.wanted, hg])]
    exact wp_weak (h.run s1 hl hs c a w g) fun _ _ ⟨c', g', x'⟩ => ⟨_, c', rfl, g', x'⟩⟩
theorem LOp.rOn {R W : List Loc} {j t : Nat} {b : Bool} (h : LR P o R W s s') (hg : o.guard = some (j, b)) (hj : (all[j]?).bind (·.dst) = some t) (hb : s.t t = tv (.bool b)) : LOp P all o (.t t :: R) W s s' :=
  ⟨h.len, h.out, fun s1 hl hs c a w g => by
    have hb1 : s1.t t = tv (.bool b) := Eq.trans (hs (.t t) (by simp)) hb
    unfold opRun
    rw [if_pos (by simp [Region.wanted, hg, yield_of g hj hb1])]
    exact wp_weak (h.run s1 hl (fun ℓ h => hs ℓ (by simp [h])) c a w g) fun _ _ ⟨c', g', x'⟩ => ⟨_, c', rfl, g', x'⟩⟩
theorem LR.q {pre : Ctx → World → Prop} {x : X} {R : List Loc} (h : QR P o s pre x) (hR : ∀ ℓ, ℓ ∈ (o.looksAt #[]).map Loc.t → ℓ ∈ R) (hd : inB o.dst s.n = true)
    (hpre : ∀ s1, (∀ ℓ, ℓ ∈ R → Same ℓ s1 s) → ∀ (c : Ctx) (a : Act) (w : World), Sat c s1 a w → pre c w) : LR P o R (dstT o) s (s.put o.dst x) := by
  refine ⟨put_len _ _ _, fun ℓ hℓ => put_out hℓ, fun s1 hl hs c a w g => ?_⟩
  unfold dstT
  rw [over_put]
  have hev : ∀ y, y ∈ o.op.operands → s1.eval y = s.eval y := fun y hy => by
    cases y with
    | tmp t =>
      exact hs (.t t) (hR _ (jE.2 ⟨t, List.mem_append_left _ (List.mem_filterMap.2 ⟨.tmp t, by simpa using hy, rfl⟩), rfl⟩))
    | _ => rfl
  refine wp_weak0 (h.2 c w a g.memOk (hpre s1 hs c a w g) fun y hy => by rw [← hev y hy]; exact g.eval y) ?_
  rintro a' w' ⟨v, c', rfl, hr, m⟩
  obtain ⟨g', x'⟩ := g.grow m
  refine ⟨c', g'.put _ (hl ▸ hd) hr fun d e => ?_, by rw [own_put]; exact x'⟩
  obtain ⟨y, hy, hy'⟩ := h.1 d e
  rw [← hev y hy] at hy'
  exact lp_wf g hy'
abbrev lk (o : Oper) : List Loc := (o.looksAt #[]).map Loc.t
def CellsAt (c : Ctx) (w : World) (b : Nat) (l : List A) : Prop := ∃ us ty, w.heap[b]? = some (.cells us ty (0, 0)) ∧ Reps (RepA c.μ c.β) l (us.toList.take l.length)
theorem CellsAt.box {c : Ctx} {w : World} {b n : Nat} {l : List A} (h : ORep c w (.box l) b n) : CellsAt c w b l := by
  obtain ⟨us, ty, h1, h2, h3⟩ := h
  exact ⟨us, ty, h1, by rw [h2.1, qT]; exact h2⟩
theorem CellsAt.row {c : Ctx} {w : World} {b n sz : Nat} {e : TypeId} {l : List A} (h : ORep c w (.row e sz l) b n) : CellsAt c w b l := by
  obtain ⟨us, h1, _, _, h2, h3⟩ := h
  exact ⟨us, e, h1, h2⟩
theorem CellsAt.range {c : Ctx} {w : World} {b : Nat} {l : List A} (h : CellsAt c w b l) (off n : Nat) (hn : off + n ≤ l.length) : ∃ cs : List Value, cs.length = n ∧ Reps (RepA c.μ c.β) ((l.drop off).take n) cs ∧ w.rangeAt b off cs := by
  obtain ⟨us, ty, h1, h2⟩ := h
  have h3 := (h2.drop off).take n
  refine ⟨_, ?_, h3, fun j v hv => ?_⟩
  · have := h2.1
    simp at this ⊢; omega
  · rw [List.getElem?_take] at hv
    split at hv
    · rw [List.getElem?_drop, List.getElem?_take] at hv
      split at hv
      · simp only [World.cell?, h1]; simpa using hv
      · cases hv
    · cases hv
def mkC (agg : Bool) (l : List A) : C :=
  match agg, l with
  | false, [x] => .a x
  | _, l => .g l
theorem load_run {t : TypeId} {agg : Bool} {n : Nat} (ty : tyB P t agg n = true) {w : World} {b off : Nat} {cs : List Value} (hc : w.rangeAt b off cs) (hl : cs.length = n) {μ : Mem} {β : Pos} {l : List A} (hr : Reps (RepA μ β) l cs) :
    ∃ v, (Instr.loadAt t (.pointer (some ⟨b, off, none⟩))).run P w = .ok v w ∧ RepC μ β (mkC agg l) v := by
  obtain ⟨d, i, h1, h2, h3, h4, h5⟩ := tyB_get ty
  cases agg with
  | true =>
    refine ⟨.agg cs.toArray, run_loadAt_mid w b off t cs d hc h1 h3 (by rw [h2]; simp [h4, hl]), cs.toArray, ?_⟩
    exact ⟨rfl, by simpa using hr⟩
  | false =>
    have hn := h5 rfl
    subst hn
    match cs, hl, l, hr.1 with
    | [v], _, [x], _ =>
      have hcell := hc 0 v rfl
      refine ⟨v, ?_, hr.2 0 x v rfl rfl⟩
      have hagg : (isAgg t).run P w = .ok false w := by
        unfold isAgg
        rw [Sem.run_bind, run_underlying h1 w]
        cases d <;> simp_all
      simp only [Nat.add_zero] at hcell
      simp [Instr.loadAt, Instr.sureAddr, loadVar, hagg, hcell]
theorem r_load {t : TypeId} {y : Operand} {agg : Bool} {n b off : Nat} (ho : o.op = .load t y) (ty : tyB P t agg n = true) (cells : List A) (pre : Ctx → World → Prop) (hp : ∀ (c : Ctx) (w : World) (v : Value), MemOk c w → pre c w → RepX c (s.eval y) v → ∃ b, v = .pointer (some ⟨b, off, none⟩) ∧ CellsAt c w b cells)
    (r : C) (hn : off + n ≤ cells.length) (hr : mkC agg ((cells.drop off).take n) = r) : QR P o s pre (.c r) :=
  .of_same (fun _ => nolp) fun c w a hm hpre hrep => by
    obtain ⟨b, hv, hc⟩ := hp c w _ hm hpre (hrep y (by rw [ho]; simp [Op.operands]))
    obtain ⟨cs, h1, h2, h3⟩ := hc.range off n hn
    obtain ⟨v, h4, h5⟩ := load_run ty h3 h1 h2
    refine ⟨v, by simp [execOp, ho, hv, h4], ?_⟩
    show RepC _ _ r v
    rw [← hr]; exact h5
theorem l_load {t : TypeId} {y : Operand} {agg : Bool} {n d off : Nat} {cells : List A} (r : C) (ho : o.op = .load t y) (ty : tyB P t agg n = true) (hy : s.eval y = .lp d off) (hL : s.L d = some (.box cells)) (hr : mkC agg ((cells.drop off).take n) = r) (hn : Nat.ble (off + n) cells.length = true) (hd : inB o.dst s.n = true) :
    LR P o (.b d :: lk o) (dstT o) s (s.put o.dst (.c r)) :=
  .q (pre := fun c w => ORep c w (.box cells) (c.lam d).1 (c.lam d).2) (r_load (b := 0) (off := off) ho ty cells _ (fun c w v hm hp hv => ⟨(c.lam d).1, by rw [hy] at hv; exact hv, .box hp⟩) r (Nat.le_of_ble_eq_true hn) hr) (fun ℓ h => by simp [lk, h]) hd
    fun s1 hs c a w g => by
      have hb : s1.L d = some (.box cells) := Eq.trans (hs (.b d) (by simp)) hL
      obtain ⟨b, n, h1, h2⟩ := g.conc.obj (.l d) (.box cells) hb (by simp [AO.empty])
      injection h1 with h1
      rw [h1]; exact h2
theorem h_load {t : TypeId} {y : Operand} {agg : Bool} {n k off : Nat} {cells : List A} (r : C) (ho : o.op = .load t y) (ty : tyB P t agg n = true) (hy : s.eval y = .c (.a (.bp k off))) (hH : s.H k = some (.box cells)) (hr : mkC agg ((cells.drop off).take n) = r) (hn : Nat.ble (off + n) cells.length = true) (hd : inB o.dst s.n = true) :
    LR P o (.h :: lk o) (dstT o) s (s.put o.dst (.c r)) :=
  .q (pre := fun c w => ∃ b n, c.β k = some (b, n) ∧ ORep c w (.box cells) b n) (r_load (b := 0) (off := off) ho ty cells _ (fun c w v hm ⟨b, n, hb, hp⟩ hv => ⟨b, by rw [hy] at hv; cases hv with | bp h => rw [hb] at h; cases h; rfl, .box hp⟩) r (Nat.le_of_ble_eq_true hn) hr) (fun ℓ h => by simp [lk, h]) hd
    fun s1 hs c a w g => by
      have hb : s1.H k = some (.box cells) := Eq.trans (congrFun (hs .h (by simp)) k) hH
      exact g.conc.obj (.e k) (.box cells) hb (by simp [AO.empty])
theorem h_loadR {t e : TypeId} {y : Operand} {agg : Bool} {n k off sz : Nat} {cells : List A} (r : C) (ho : o.op = .load t y) (ty : tyB P t agg n = true) (hy : s.eval y = .c (.a (.bp k off))) (hH : s.H k = some (.row e sz cells)) (hr : mkC agg ((cells.drop off).take n) = r) (hn : off + n ≤ cells.length) (h0 : 0 < n) (hd : inB o.dst s.n = true) :
    LR P o (.h :: lk o) (dstT o) s (s.put o.dst (.c r)) :=
  .q (pre := fun c w => ∃ b n, c.β k = some (b, n) ∧ ORep c w (.row e sz cells) b n) (r_load (b := 0) (off := off) ho ty cells _ (fun c w v hm ⟨b, n, hb, hp⟩ hv => ⟨b, by rw [hy] at hv; cases hv with | bp h => rw [hb] at h; cases h; rfl, .row hp⟩) r hn hr) (fun ℓ h => by simp [lk, h]) hd
    fun s1 hs c a w g => by
      have hb : s1.H k = some (.row e sz cells) := Eq.trans (congrFun (hs .h (by simp)) k) hH
      exact g.conc.obj (.e k) (.row e sz cells) hb (fun e => by simp only [AO.empty] at e; subst e; simp at hn; omega)
theorem q_load {t : TypeId} {y : Operand} {agg : Bool} {n : Nat} {l : List T} (r : C) (ho : o.op = .load t y) (ty : tyB P t agg n = true) (hy : s.eval y = .pc l) (hr : mkC agg ((l.take n).map .t) = r) (hnb : Nat.ble n l.length = true) : QV P o s (.c r) :=
  have hn := Nat.le_of_ble_eq_true hnb
  .of_same (fun _ => nolp) fun c w a hm hrep => by
    have h0 := hrep y (by rw [ho]; simp [Op.operands])
    rw [hy] at h0
    obtain ⟨b, off, hv, u, hu⟩ := h0
    obtain ⟨v, h4, h5⟩ := load_run (P := P) ty (w := w) (b := b) (off := off) (cs := (List.range n).map u) (fun j v hj => by
        have hlt : j < n := by
          rcases Nat.lt_or_ge j n with h | h
          · exact h
          · rw [List.getElem?_eq_none (by simpa using h)] at hj; cases hj
        rw [qR, List.getElem?_range hlt] at hj
        injection hj with hj; subst hj
        exact hm.mem _ _ _ (hu j l[j] (qF (by omega))).1) (by simp) (μ := c.μ) (β := c.β) (l := (l.take n).map .t) ⟨by simp [Nat.min_eq_left hn], fun i x v h1 h2 => by
        rw [qR, List.getElem?_take] at h1
        obtain ⟨z, hz, rfl⟩ := Option.map_eq_some_iff.1 h1
        split at hz
        · rename_i hlt
          rw [qR, List.getElem?_range hlt] at h2
          injection h2 with h2; subst h2
          exact .t (hu i z hz).2
        · cases hz⟩
    refine ⟨v, by simp [execOp, ho, hv, h4], ?_⟩
    show RepC _ _ r v
    rw [← hr]; exact h5
theorem add_mid (b off j : Nat) : (⟨b, off, none⟩ : Addr).add j = ⟨b, off + j, none⟩ := Addr.add_mid b off j
theorem field_run {t : TypeId} {i fo : Nat} (hf : fldB P t i fo = true) (w : World) (b off : Nat) : (Instr.fieldAt t (.pointer (some ⟨b, off, none⟩)) i).run P w = .ok (.pointer (some ⟨b, off + fo, none⟩)) w := by
  obtain ⟨fs, f, j, h1, h2, h3, h4, h5⟩ := fldB_get hf
  simp [Instr.fieldAt, run_underlying h1, h2, Instr.sureAddr, fieldPlace, sizeOf, typeInfo, h4, h5, h3, add_mid]
theorem q_fieldL {t : TypeId} {y : Operand} {i fo d off : Nat} (r : Nat) (ho : o.op = .fieldAddr t y i) (hf : fldB P t i fo = true) (hy : s.eval y = .lp d off) (hr : off + fo = r) : QV P o s (.lp d r) :=
  .of_same (fun d' h => ⟨y, by rw [ho]; simp [Op.operands], by rw [hy]; exact h⟩) fun c w a hm hrep => by
    have h0 := hrep y (by rw [ho]; simp [Op.operands])
    rw [hy] at h0
    have h0 : a.eval y = .pointer (some ⟨(c.lam d).1, off, none⟩) := h0
    exact ⟨_, by simp [execOp, ho, h0, field_run hf, hr], rfl⟩
theorem q_fieldH {t : TypeId} {y : Operand} {i fo k off : Nat} (r : Nat) (ho : o.op = .fieldAddr t y i) (hf : fldB P t i fo = true) (hy : s.eval y = .c (.a (.bp k off))) (hr : off + fo = r) : QV P o s (.c (.a (.bp k r))) :=
  .of_same (fun _ => nolp) fun c w a hm hrep => by
    have h0 := hrep y (by rw [ho]; simp [Op.operands])
    rw [hy] at h0
    generalize hv : a.eval y = v at h0
    cases h0 with
    | bp hk => exact ⟨_, by simp [execOp, ho, hv, field_run hf, hr], .bp hk⟩
theorem q_fieldP {t : TypeId} {y : Operand} {i fo : Nat} {l : List T} (r : List T) (ho : o.op = .fieldAddr t y i) (hf : fldB P t i fo = true) (hy : s.eval y = .pc l) (hr : l.drop fo = r) : QV P o s (.pc r) :=
  .of_same (fun _ h => by cases h) fun c w a hm hrep => by
    have h0 := hrep y (by rw [ho]; simp [Op.operands])
    rw [hy] at h0
    obtain ⟨b, off, hv, u, hu⟩ := h0
    refine ⟨_, by simp [execOp, ho, hv, field_run hf], b, off + fo, rfl, fun i => u (fo + i), fun i x hx => ?_⟩
    rw [← hr, List.getElem?_drop] at hx
    have := hu _ x hx
    rw [Nat.add_assoc]; exact this
theorem sl_at {μ : Mem} {z : Nz} {sz : Nat} {es : List (List T)} {v : Value} (h : RepT μ (.sl z sz es) v) {i : Nat} {e : List T} (he : es[i]? = some e) : ∃ b off c, v = .slice (some ⟨b, off, none⟩) es.length c ∧ e.length = sz ∧ ∃ u : Nat → Value, ∀ (j : Nat) (x : T), e[j]? = some x → μ b (off + i * sz + j) = some (u j) ∧ RepT μ x (u j) := by
  cases h with
  | nil => simp at he
  | emp => simp at he
  | @sl _ _ _ b off n c u ne hn hc len mem rep => exact ⟨b, off, c, by rw [hn], len i e he, fun j => u i j, fun j x hx => ⟨by rw [Nat.add_assoc]; exact mem i e j x he hx, rep i e j x he hx⟩⟩
theorem index_run {t e : TypeId} {sz : Nat} (ty : slB P t e sz = true) (w : World) (b off n c : Nat) (k : IntKind) (i : Int) (h0 : 0 ≤ i) (h1 : i.toNat < n) : (Instr.indexAt t (.slice (some ⟨b, off, none⟩) n c) (.int k i)).run P w = .ok (.pointer (some ⟨b, off + i.toNat * sz, none⟩)) w := by
  obtain ⟨j, h2, h3, h4, h5⟩ := slB_get ty
  have h6 : i < (n : Int) := by omega
  simp [Instr.indexAt, asIntOf, run_underlying h2, h0, h6, sizeOf, typeInfo, h3, h4, add_mid]
theorem q_index {t e : TypeId} {x y : Operand} {z : Nz} {sz : Nat} {es : List (List T)} {k : IntKind} {i : Int} (r : List T) (ho : o.op = .indexAddr t x y) (ty : slB P t e sz = true) (hx : s.eval x = .c (.a (.t (.sl z sz es)))) (hy : s.eval y = iX k i) (h0 : 0 ≤ i) (hr : es[i.toNat]? = some r) : QV P o s (.pc r) :=
  .of_same (fun _ h => by cases h) fun c w a hm hrep => by
    have ha := hrep x (by rw [ho]; simp [Op.operands])
    have hb := hrep y (by rw [ho]; simp [Op.operands])
    rw [hx] at ha
    rw [hy] at hb
    have hb := rep_tv hb
    generalize hv : a.eval x = v at ha
    cases ha with
    | t ha =>
      obtain ⟨b, off, c', rfl, hlen, u, hu⟩ := sl_at ha hr
      have hlt : i.toNat < es.length := (List.getElem?_eq_some_iff.1 hr).1
      exact ⟨_, by simp [execOp, ho, hv, hb, index_run ty w b off es.length c' k i h0 hlt], b, off + i.toNat * sz, rfl, u, hu⟩
theorem q_indexOs {t e : TypeId} {x y : Operand} {q off n sz : Nat} {k : IntKind} {i : Int} (r : Nat) (ho : o.op = .indexAddr t x y) (ty : slB P t e sz = true) (hx : s.eval x = .c (.a (.os q off n sz))) (hy : s.eval y = iX k i) (h0 : 0 ≤ i) (h1 : i.toNat < n) (hr : off + i.toNat * sz = r) : QV P o s (.c (.a (.bp q r))) :=
  .of_same (fun _ => nolp) fun c w a hm hrep => by
    have ha := hrep x (by rw [ho]; simp [Op.operands])
    have hb := hrep y (by rw [ho]; simp [Op.operands])
    rw [hx] at ha
    rw [hy] at hb
    have hb := rep_tv hb
    generalize hv : a.eval x = v at ha
    cases ha with
    | os0 => omega
    | os hk _ => exact ⟨_, by simp [execOp, ho, hv, hb, index_run ty w _ _ _ _ k i h0 h1, ← hr], .bp hk⟩
    | osub hk _ => exact ⟨_, by simp [execOp, ho, hv, hb, index_run ty w _ _ _ _ k i h0 h1, ← hr], .bp hk⟩
theorem q_extract {y : Operand} {i : Nat} {l : List C} (r : C) (ho : o.op = .extract y i) (hy : s.eval y = .tup l) (hr : l[i]? = some r) : QV P o s (.c r) :=
  .of_same (fun _ => nolp) fun c w a hm hrep => by
    have h0 := hrep y (by rw [ho]; simp [Op.operands])
    rw [hy] at h0
    obtain ⟨us, hv, h1⟩ := h0
    obtain ⟨v, h2, h3⟩ := h1.get hr
    have h4 : us[i]? = some v := by simpa using h2
    exact ⟨v, by simp [execOp, ho, hv, Instr.extract, h4], h3⟩
theorem q_indexS {t : TypeId} {x y : Operand} {st : ByteArray} {k : IntKind} {i : Int} (b : UInt8) (ho : o.op = .index t x y) (ty : P.underlying t = some .string) (hx : s.eval x = sX st) (hy : s.eval y = iX k i) (h0 : 0 ≤ i) (hr : st.data.toList[i.toNat]? = some b) : QV P o s (iX .u8 (b.toNat : Int)) :=
  .of_same (fun _ => nolp) fun c w a hm hrep => by
    have ha := hrep x (by rw [ho]; simp [Op.operands])
    have hb := hrep y (by rw [ho]; simp [Op.operands])
    rw [hx] at ha
    rw [hy] at hb
    have ha := rep_tv ha
    have hb := rep_tv hb
    have h1 : st[i.toNat]? = some b := by
      have hlt : i.toNat < st.data.size := by simpa using (List.getElem?_eq_some_iff.1 hr).1
      have : st.data[i.toNat]? = some b := by simpa using hr
      rw [Array.getElem?_eq_getElem hlt] at this
      injection this with this
      rw [getElem?_pos st i.toNat hlt]
      rw [← this]; rfl
    exact ⟨_, by simp [execOp, ho, ha, hb, Instr.index, asIntOf, run_underlying ty, h0, h1], tv_rep rfl⟩
theorem len_run {t : TypeId} {e : TypeId} (ty : P.underlying t = some (.slice e)) (u : TypeId) (w : World) (a : Option Addr) (n c : Nat) : (Builtin.len_ #[t] u #[.slice a n c]).run P w = .ok (.int .i64 n) w := by
  simp [Builtin.len_, run_underlying ty, goInt]
theorem q_lenC {y : Operand} {t u : TypeId} {n : Nat} {x : C} (ho : o.op = .call { callee := .builtin .len, args := #[y], argTypes := #[t] }) (hy : s.eval y = .c x)
    (h : ∀ (c : Ctx) (w : World) (v : Value), RepC c.μ c.β x v → (Builtin.len_ #[t] o.type #[v]).run P w = .ok (.int .i64 n) w) : QV P o s (iX .i64 n) :=
  .of_same (fun _ => nolp) fun c w a hm hrep => by
    have h0 := hrep y (by rw [ho]; simp [Op.operands, Call.operands])
    rw [hy] at h0
    exact ⟨_, by simp [execOp, ho, resolve, invoke, builtin, h c w _ h0], tv_rep rfl⟩
theorem q_lenS {y : Operand} {t : TypeId} {st : ByteArray} (ho : o.op = .call { callee := .builtin .len, args := #[y], argTypes := #[t] }) (ty : P.underlying t = some .string) (hy : s.eval y = sX st) : QV P o s (iX .i64 (st.size : Nat)) :=
  .of_same (fun _ => nolp) fun c w a hm hrep => by
    have h0 := hrep y (by rw [ho]; simp [Op.operands, Call.operands])
    rw [hy] at h0
    have h0 := rep_tv h0
    exact ⟨_, by simp [execOp, ho, h0, resolve, invoke, builtin, Builtin.len_, run_underlying ty, goInt], tv_rep rfl⟩
theorem q_len {y : Operand} {t e : TypeId} {z : Nz} {sz : Nat} {es : List (List T)} (ho : o.op = .call { callee := .builtin .len, args := #[y], argTypes := #[t] }) (ty : P.underlying t = some (.slice e)) (hy : s.eval y = .c (.a (.t (.sl z sz es)))) : QV P o s (iX .i64 (es.length : Nat)) :=
  q_lenC (u := 0) ho hy fun c w v h => by
    cases h with
    | t h => cases h with
      | nil => exact len_run ty _ w _ _ _
      | emp => exact len_run ty _ w _ _ _
      | sl u ne hn => rw [hn]; exact len_run ty _ w _ _ _
theorem q_lenTs {y : Operand} {t e : TypeId} {q : Nat} {z : Nz} {sz : Nat} {es : List (List T)} (ho : o.op = .call { callee := .builtin .len, args := #[y], argTypes := #[t] }) (ty : P.underlying t = some (.slice e)) (hy : s.eval y = .c (.a (.ts q z sz es))) : QV P o s (iX .i64 (es.length : Nat)) :=
  q_lenC (u := 0) ho hy fun c w v h => by
    cases h with
    | ts0 => exact len_run ty _ w _ _ _
    | tsE => exact len_run ty _ w _ _ _
    | ts hk hz hn h => rw [hn]; exact len_run ty _ w _ _ _
theorem q_lenOs {y : Operand} {t e : TypeId} {q off n sz : Nat} (ho : o.op = .call { callee := .builtin .len, args := #[y], argTypes := #[t] }) (ty : P.underlying t = some (.slice e)) (hy : s.eval y = .c (.a (.os q off n sz))) : QV P o s (iX .i64 (n : Nat)) :=
  q_lenC (u := 0) ho hy fun c w v h => by
    cases h with
    | os0 => exact len_run ty _ w _ _ _
    | os hk _ => exact len_run ty _ w _ _ _
    | osub hk _ => exact len_run ty _ w _ _ _
end
end Go.Proofs.YtgnnjebfoffphaaGreatDoor.E
