/- Levels, step by step. Plain laws, no program. -/
import Derived.Test.YtkpacejikoengaaP2
namespace Go.Proofs.Ytkpacejikoengaa.M
set_option linter.unusedVariables false
def B50 (t : Nat) (w : Int) : Prop := -(1125899906842624 * (t : Int)) ≤ w ∧ w ≤ 1125899906842624 * (t : Int)
theorem B50.zero {t : Nat} : B50 t 0 := ⟨by omega, by omega⟩
theorem B50.up {t : Nat} {w : Int} (h : B50 t w) : B50 (t + 1) w := ⟨by have := h.1; omega, by have := h.2; omega⟩
theorem B50.add {t : Nat} {w c : Int} (h : B50 t w) (h1 : -1125899906842624 ≤ c) (h2 : c ≤ 1125899906842624) : B50 (t + 1) (w + c) := ⟨by have := h.1; omega, by have := h.2; omega⟩
structure Pre (all : List Bd) (n : Nat) (src : Int → Bool) (ls : List (List Wk)) (t : Nat) : Prop where
  len : ls.length = t + 1
  len0 : (ls.getD 0 []).length = n + 1
  zero : ∀ v : Int, 0 ≤ v → v ≤ n → at' (ls.getD 0 []) v = ⟨src v, 0, -1⟩
  step : ∀ s, s < t → Step all n (ls.getD s []) (ls.getD (s + 1) [])
  small : ∀ s, s ≤ t → ∀ v, B50 s (W ls s v).w
section
variable {all : List Bd} {n : Nat} {src : Int → Bool} {ls : List (List Wk)} {t : Nat}
theorem Pre.start {l : List Wk} (hl : l.length = n + 1) (hz : ∀ v : Nat, v < n + 1 → l.getD v ⟨false, 0, -1⟩ = ⟨src v, 0, -1⟩) : Pre all n src [l] 0 := by
  refine ⟨rfl, hl, fun v h0 h1 => ?_, fun s hs => absurd hs (Nat.not_lt_zero s), fun s hs v => ?_⟩
  · have := hz v.toNat (by omega)
    rw [show ((v.toNat : Nat) : Int) = v by omega] at this
    exact this
  · obtain rfl : s = 0 := by omega
    show B50 0 (l.getD v.toNat ⟨false, 0, -1⟩).w
    by_cases hv : v.toNat < n + 1
    · rw [hz _ hv]; exact .zero
    · rw [List.getD_eq_getElem?_getD, List.getElem?_eq_none (by omega)]; exact .zero
theorem Pre.lens (h : Pre all n src ls t) {s : Nat} (hs : s ≤ t) : (ls.getD s []).length = n + 1 := by
  cases s with
  | zero => exact h.len0
  | succ s => exact (h.step s (by omega)).len
theorem Pre.snoc (h : Pre all n src ls t) {l : List Wk} (hs : Step all n (ls.getD t []) l) (hb : ∀ v, B50 (t + 1) (at' l v).w) : Pre all n src (ls ++ [l]) (t + 1) := by
  have hl := h.len
  have e1 : ∀ s, s ≤ t → (ls ++ [l]).getD s [] = ls.getD s [] := fun s h => by rw [getD_snoc, if_pos (by omega)]
  have e2 : (ls ++ [l]).getD (t + 1) [] = l := by rw [getD_snoc, if_neg (by omega), if_pos (by omega)]
  refine ⟨by simp; omega, by rw [e1 0 (by omega)]; exact h.len0, fun v h0 h1 => by rw [e1 0 (by omega)]; exact h.zero v h0 h1, fun s hs' => ?_, fun s hs' v => ?_⟩
  · by_cases e : s < t
    · rw [e1 s (by omega), e1 (s + 1) (by omega)]; exact h.step s e
    · obtain rfl : s = t := by omega
      rw [e1 s (by omega), e2]; exact hs
  · by_cases e : s ≤ t
    · have := h.small s e v
      show B50 s (at' ((ls ++ [l]).getD s []) v).w
      rw [e1 s e]; exact this
    · obtain rfl : s = t + 1 := by omega
      show B50 (t + 1) (at' ((ls ++ [l]).getD (t + 1) []) v).w
      rw [e2]; exact hb v
theorem Pre.levels (h : Pre all n src ls (n + 1)) : Levels all n src ls := ⟨h.len, h.len0, h.zero, fun t ht => h.step t ht⟩
/-- what one position does to a level -/
def rlx (all : List Bd) (now l : List Wk) (q : Int) : List Wk :=
  if (at' now (bd all q.toNat).j).known = true ∧ ((at' l (bd all q.toNat).i).known = true → (at' now (bd all q.toNat).j).w + (bd all q.toNat).c < (at' l (bd all q.toNat).i).w) then l.set (bd all q.toNat).i.toNat ⟨true, (at' now (bd all q.toNat).j).w + (bd all q.toNat).c, q⟩ else l
abbrev wipe (w : Wk) : Wk := { w with last := -1 }
def nextF (all : List Bd) (ts : List Int) (now : List Wk) : List Wk := ts.foldl (rlx all now) (now.map wipe)
/-- a level under way: the first p positions are done -/
structure PS (all : List Bd) (n : Nat) (ts : List Int) (now l : List Wk) (t p : Nat) : Prop where
  len : l.length = n + 1
  two : ∀ v : Int, 0 ≤ v → v ≤ n → ((at' l v).last = -1 ∧ (at' l v).known = (at' now v).known ∧ (at' l v).w = (at' now v).w) ∨
    ∃ k : Nat, k < all.length ∧ (all.getD k ⟨0, 0, 0⟩).i = v ∧ (at' now (all.getD k ⟨0, 0, 0⟩).j).known = true ∧ at' l v = ⟨true, (at' now (all.getD k ⟨0, 0, 0⟩).j).w + (all.getD k ⟨0, 0, 0⟩).c, k⟩ ∧ ((at' now v).known = true → (at' l v).w < (at' now v).w)
  low : ∀ q (hq : q < ts.length), q < p → (at' now (bd all ts[q].toNat).j).known = true → (at' l (bd all ts[q].toNat).i).known = true ∧ (at' l (bd all ts[q].toNat).i).w ≤ (at' now (bd all ts[q].toNat).j).w + (bd all ts[q].toNat).c
  small : ∀ v, B50 (t + 1) (at' l v).w
  eq : l = (ts.take p).foldl (rlx all now) (now.map wipe)
variable {ts : List Int} {now l : List Wk} {p : Nat}
theorem PS.start (hl : l.length = n + 1) (hn : now.length = n + 1) (h : ∀ v : Nat, v < n + 1 → l.getD v ⟨false, 0, -1⟩ = { now.getD v ⟨false, 0, -1⟩ with last := -1 }) (hs : ∀ v, B50 t (at' now v).w) : PS all n ts now l t 0 := by
  have e : ∀ v : Int, 0 ≤ v → v ≤ n → at' l v = { at' now v with last := -1 } := fun v h0 h1 => h v.toNat (by omega)
  refine ⟨hl, fun v h0 h1 => .inl (by rw [e v h0 h1]; exact ⟨rfl, rfl, rfl⟩), fun q hq hp => absurd hp (Nat.not_lt_zero q), fun v => ?_, ?_⟩
  rotate_left
  · refine List.ext_getElem (by simp; omega) fun v h1 h2 => ?_
    have := h v (by omega)
    rw [List.getD_eq_getElem?_getD, List.getD_eq_getElem?_getD, List.getElem?_eq_getElem h1, List.getElem?_eq_getElem (by omega)] at this
    simpa using this
  by_cases hv : v.toNat < n + 1
  · have : at' l v = { at' now v with last := -1 } := h v.toNat hv
    rw [this]; exact (hs v).up
  · have : at' l v = ⟨false, 0, -1⟩ := by unfold at'; rw [List.getD_eq_getElem?_getD, List.getElem?_eq_none (by omega)]; rfl
    rw [this]; exact .zero
theorem at'_set {v u : Int} {x : Wk} (hv0 : 0 ≤ v) (hu0 : 0 ≤ u) (hu : u.toNat < l.length) : at' (l.set u.toNat x) v = if v = u then x else at' l v := by
  unfold at'
  simp only [List.getD_eq_getElem?_getD, List.getElem?_set]
  by_cases e : v = u
  · subst e; rw [if_pos rfl, if_pos hu, if_pos rfl]; rfl
  · rw [if_neg (by omega), if_neg e]
theorem at'_neg {v : Int} (hv : v < 0) : at' l v = at' l 0 := by
  unfold at'; rw [show v.toNat = 0 by omega]; rfl
/-- the position lowers a variable -/
theorem PS.relax (h : PS all n ts now l t p) (hok : ∀ b ∈ all, OkB n b) (hp : p < ts.length) (h0 : 0 ≤ ts[p] ∧ ts[p] < all.length) (hn : ∀ v, B50 t (at' now v).w)
    (hk : (at' now (bd all ts[p].toNat).j).known = true) (hc : (at' l (bd all ts[p].toNat).i).known = true → (at' now (bd all ts[p].toNat).j).w + (bd all ts[p].toNat).c < (at' l (bd all ts[p].toNat).i).w) :
    PS all n ts now (l.set (bd all ts[p].toNat).i.toNat ⟨true, (at' now (bd all ts[p].toNat).j).w + (bd all ts[p].toNat).c, ts[p]⟩) t (p + 1) := by
  have hk1 : ts[p].toNat < all.length := by omega
  have ho := hok _ (bd_mem hk1)
  have hlen := h.len
  have hu : (bd all ts[p].toNat).i.toNat < l.length := by have := ho.1; have := ho.2.1; omega
  have es : ∀ v, 0 ≤ v → at' (l.set (bd all ts[p].toNat).i.toNat ⟨true, (at' now (bd all ts[p].toNat).j).w + (bd all ts[p].toNat).c, ts[p]⟩) v = if v = (bd all ts[p].toNat).i then ⟨true, (at' now (bd all ts[p].toNat).j).w + (bd all ts[p].toNat).c, ts[p]⟩ else at' l v := fun v hv => at'_set hv ho.1 hu
  have hmono : ∀ v : Int, 0 ≤ v → v ≤ n → (at' now v).known = true → (at' l v).known = true ∧ (at' l v).w ≤ (at' now v).w := fun v g0 g1 gk => by
    rcases h.two v g0 g1 with ⟨g2, g3, g4⟩ | ⟨k, g2, g3, g4, g5, g6⟩
    · exact ⟨by rw [g3, gk], by omega⟩
    · have := g6 gk; exact ⟨by rw [g5], by omega⟩
  refine ⟨by simpa using hlen, fun v g0 g1 => ?_, fun q hq hqp gk => ?_, fun v => ?_, ?_⟩
  rotate_right
  · rw [List.take_add_one, List.getElem?_eq_getElem hp, List.foldl_append, ← h.eq]
    show _ = rlx all now l ts[p]
    unfold rlx
    rw [if_pos ⟨hk, hc⟩]
  · rw [es v g0]
    by_cases e : v = (bd all ts[p].toNat).i
    · rw [if_pos e]
      refine .inr ⟨ts[p].toNat, hk1, e.symm, hk, by rw [show ((ts[p].toNat : Nat) : Int) = ts[p] by omega], fun gk => ?_⟩
      obtain ⟨g2, g3⟩ := hmono v g0 g1 gk
      rw [e] at g2
      have := hc g2
      rw [← e] at this
      show (at' now (bd all ts[p].toNat).j).w + (bd all ts[p].toNat).c < (at' now v).w
      omega
    · rw [if_neg e]; exact h.two v g0 g1
  · have hkq : (bd all ts[q].toNat).i = (bd all ts[p].toNat).i ∨ (bd all ts[q].toNat).i ≠ (bd all ts[p].toNat).i := Classical.em _
    have hqi : 0 ≤ (bd all ts[q].toNat).i := by
      by_cases hlt : ts[q].toNat < all.length
      · exact (hok _ (bd_mem hlt)).1
      · unfold bd; rw [List.getD_eq_getElem?_getD, List.getElem?_eq_none (by omega)]; exact Int.le_refl _
    rw [es _ hqi]
    by_cases e : (bd all ts[q].toNat).i = (bd all ts[p].toNat).i
    · rw [if_pos e]
      refine ⟨rfl, ?_⟩
      show (at' now (bd all ts[p].toNat).j).w + (bd all ts[p].toNat).c ≤ _
      by_cases e2 : q = p
      · subst e2; exact Int.le_refl _
      · obtain ⟨g2, g3⟩ := h.low q hq (by omega) gk
        rw [e] at g2 g3
        have := hc g2
        omega
    · rw [if_neg e]
      by_cases e2 : q = p
      · subst e2; exact absurd rfl e
      · exact h.low q hq (by omega) gk
  · by_cases hv : 0 ≤ v
    · rw [es v hv]
      split
      · exact (hn _).add ho.2.2.2.2.1 ho.2.2.2.2.2
      · exact h.small v
    · rw [at'_neg (by omega), es 0 (by omega)]
      split
      · exact (hn _).add ho.2.2.2.2.1 ho.2.2.2.2.2
      · exact h.small 0
/-- the position lowers nothing -/
theorem PS.skip (h : PS all n ts now l t p) (hp : p < ts.length) (hc : (at' now (bd all ts[p].toNat).j).known = true → (at' l (bd all ts[p].toNat).i).known = true ∧ (at' l (bd all ts[p].toNat).i).w ≤ (at' now (bd all ts[p].toNat).j).w + (bd all ts[p].toNat).c) : PS all n ts now l t (p + 1) :=
  ⟨h.len, h.two, fun q hq hqp gk => by
    by_cases e : q = p
    · subst e; exact hc gk
    · exact h.low q hq (by omega) gk, h.small, by
    rw [List.take_add_one, List.getElem?_eq_getElem hp, List.foldl_append, ← h.eq]
    show _ = rlx all now l ts[p]
    unfold rlx
    rw [if_neg fun h9 => by
      obtain ⟨h1, h2⟩ := hc h9.1
      have := h9.2 h1
      omega]⟩
theorem PS.next (h : PS all n ts now l t ts.length) : l = nextF all ts now := by have := h.eq; rwa [List.take_length] at this
/-- each position lowers or does not -/
theorem PS.ex (hok : ∀ b ∈ all, OkB n b) (hl : now.length = n + 1) (h0 : ∀ v ∈ ts, 0 ≤ v ∧ v < all.length) (hn : ∀ v, B50 t (at' now v).w) : ∀ p, p ≤ ts.length → ∃ l, PS all n ts now l t p
  | 0, _ => ⟨_, PS.start (l := now.map wipe) (by simpa using hl) hl (fun v hv => by
      simp only [List.getD_eq_getElem?_getD, List.getElem?_map, List.getElem?_eq_getElem (show v < now.length by omega)]; rfl) hn⟩
  | p + 1, hp => by
    obtain ⟨l, h⟩ := PS.ex hok hl h0 hn p (by omega)
    by_cases hk : (at' now (bd all ts[p].toNat).j).known = true
    · by_cases hc : (at' l (bd all ts[p].toNat).i).known = true → (at' now (bd all ts[p].toNat).j).w + (bd all ts[p].toNat).c < (at' l (bd all ts[p].toNat).i).w
      · exact ⟨_, h.relax hok hp (h0 _ (List.getElem_mem _)) hn hk hc⟩
      · have hc := Classical.not_imp.1 hc
        exact ⟨_, h.skip hp fun _ => ⟨hc.1, by omega⟩⟩
    · exact ⟨_, h.skip hp fun h9 => absurd h9 hk⟩
theorem PS.done (h : PS all n ts now l t ts.length) (hts : ∀ b ∈ all, ∃ v ∈ ts, (bd all v.toNat).i = b.i ∧ (bd all v.toNat).j = b.j ∧ (bd all v.toNat).c ≤ b.c) : Step all n now l :=
  ⟨h.len, h.two, fun b hb gk => by
    obtain ⟨v, hv, h1, h2, h3⟩ := hts b hb
    obtain ⟨q, hq, rfl⟩ := List.getElem_of_mem hv
    have := h.low q hq hq (by rw [h2]; exact gk)
    rw [h1, h2] at this
    exact ⟨this.1, by omega⟩⟩
end
end Go.Proofs.Ytkpacejikoengaa.M
