/- A variable that is still lowered at the last level lies behind a negative cycle. Plain laws, no program. -/
import Derived.Test.YtkpacejikoengaaP1
namespace Go.Proofs.Ytkpacejikoengaa.M
set_option linter.unusedVariables false
theorem len_sub {α : Type} : ∀ (a b : List α), a.Nodup → (∀ x ∈ a, x ∈ b) → a.length ≤ b.length := by
  classical
  intro a
  induction a with
  | nil => intro b _ _; simp
  | cons x a ih =>
    intro b hn hm
    obtain ⟨h1, h2⟩ := List.nodup_cons.1 hn
    have hx := hm x (by simp)
    have := ih (b.erase x) h2 fun y hy => (List.mem_erase_of_ne (fun e => h1 (by rw [← e]; exact hy))).2 (hm y (by simp [hy]))
    rw [List.length_erase_of_mem hx] at this
    have hpos : 0 < b.length := List.length_pos_of_mem hx
    simp; omega
theorem pigeon {vs : List Int} {n : Nat} (hn : vs.Nodup) (h : ∀ v ∈ vs, 0 ≤ v ∧ v ≤ n) : vs.length ≤ n + 1 := by
  have := len_sub vs ((List.range (n + 1)).map fun k : Nat => (k : Int)) hn fun v hv => List.mem_map.2 ⟨v.toNat, by have := h v hv; simp; omega, by have := h v hv; omega⟩
  simpa using this
abbrev bd (all : List Bd) (k : Nat) : Bd := all.getD k ⟨0, 0, 0⟩
theorem bd_mem {all : List Bd} {k : Nat} (h : k < all.length) : bd all k ∈ all := by
  unfold bd; rw [List.getD_eq_getElem?_getD, List.getElem?_eq_getElem h]; exact List.getElem_mem h
structure Tr (all : List Bd) (n : Nat) (ls : List (List Wk)) (vs : List Int) (ks : List Nat) : Prop where
  len : vs.length = ks.length + 1
  le : ks.length ≤ n + 1
  rng : ∀ t, t < vs.length → 0 ≤ vs.getD t 0 ∧ vs.getD t 0 ≤ n
  lt : ∀ t, t < ks.length → ks.getD t 0 < all.length
  hi : ∀ t, t < ks.length → (bd all (ks.getD t 0)).i = vs.getD t 0
  hj : ∀ t, t < ks.length → (bd all (ks.getD t 0)).j = vs.getD (t + 1) 0
  kn : ∀ t, t < ks.length → (W ls (n - t) (vs.getD (t + 1) 0)).known = true
  w : ∀ t, t < ks.length → (W ls (n + 1 - t) (vs.getD t 0)).w = (W ls (n - t) (vs.getD (t + 1) 0)).w + (bd all (ks.getD t 0)).c
  dn : ∀ t, t < ks.length → (W ls (n - t) (vs.getD t 0)).known = true → (W ls (n + 1 - t) (vs.getD t 0)).w < (W ls (n - t) (vs.getD t 0)).w
  last : ks.length < n + 1 → (W ls (n + 1 - ks.length) (vs.getD ks.length 0)).last ≠ -1
section
variable {all : List Bd} {n : Nat} {src : Int → Bool} {ls : List (List Wk)} {vs : List Int} {ks : List Nat}
theorem Tr.start {v : Int} (h0 : 0 ≤ v) (h1 : v ≤ n) (hl : (W ls (n + 1) v).last ≠ -1) : Tr all n ls [v] [] :=
  ⟨rfl, Nat.zero_le _, fun t ht => by simp at ht; subst ht; exact ⟨h0, h1⟩, fun t ht => by simp at ht, fun t ht => by simp at ht, fun t ht => by simp at ht, fun t ht => by simp at ht, fun t ht => by simp at ht, fun t ht => by simp at ht, fun _ => hl⟩
theorem getD_snoc {α : Type} (l : List α) (x d : α) (t : Nat) : (l ++ [x]).getD t d = if t < l.length then l.getD t d else if t = l.length then x else d := by
  simp only [List.getD_eq_getElem?_getD]
  by_cases h : t < l.length
  · rw [if_pos h, List.getElem?_append_left h]
  · rw [if_neg h, List.getElem?_append_right (by omega)]
    by_cases e : t = l.length
    · subst e; simp
    · rw [if_neg e, List.getElem?_eq_none (by simp; omega)]; rfl
/-- one step back -/
theorem Tr.step (h : Tr all n ls vs ks) (hL : Levels all n src ls) (hok : ∀ b ∈ all, OkB n b) (hlt : ks.length < n + 1) :
    ∃ k : Nat, (W ls (n + 1 - ks.length) (vs.getD ks.length 0)).last = k ∧ k < all.length ∧ 0 ≤ (bd all k).j ∧ (bd all k).j ≤ n ∧ Tr all n ls (vs ++ [(bd all k).j]) (ks ++ [k]) := by
  obtain ⟨h0, h1⟩ := h.rng ks.length (by rw [h.len]; omega)
  have hl := h.last hlt
  have e1 : n + 1 - ks.length = (n - ks.length) + 1 := by omega
  rw [e1] at hl
  obtain ⟨k, g1, g2, g3, g4, g5, g6, g7, g8⟩ := hL.back (by omega) h0 h1 hok hl
  have ho := hok _ (bd_mem g1)
  have hvl := h.len
  refine ⟨k, by rw [e1]; exact g2, g1, ho.2.2.1, ho.2.2.2.1, by simp; omega, by simp; omega, fun t ht => ?_, fun t ht => ?_, fun t ht => ?_, fun t ht => ?_, fun t ht => ?_, fun t ht => ?_, fun t ht => ?_, fun hlt' => ?_⟩
  · simp only [List.length_append, List.length_cons, List.length_nil] at ht
    rw [getD_snoc]
    by_cases e : t < vs.length
    · rw [if_pos e]; exact h.rng t e
    · rw [if_neg e, if_pos (by omega)]; exact ⟨ho.2.2.1, ho.2.2.2.1⟩
  all_goals
    simp only [List.length_append, List.length_cons, List.length_nil] at *
  · rw [getD_snoc]
    by_cases e : t < ks.length
    · rw [if_pos e]; exact h.lt t e
    · rw [if_neg e, if_pos (by omega)]; exact g1
  · rw [getD_snoc, getD_snoc, if_pos (show t < vs.length by omega)]
    by_cases e : t < ks.length
    · rw [if_pos e]; exact h.hi t e
    · obtain rfl : t = ks.length := by omega
      rw [if_neg e, if_pos rfl]; exact g3
  · rw [getD_snoc, getD_snoc]
    by_cases e : t < ks.length
    · rw [if_pos e, if_pos (by omega)]; exact h.hj t e
    · obtain rfl : t = ks.length := by omega
      rw [if_neg e, if_pos rfl, if_neg (by omega), if_pos (by omega)]
  · rw [getD_snoc]
    by_cases e : t < ks.length
    · rw [if_pos (by omega)]; exact h.kn t e
    · obtain rfl : t = ks.length := by omega
      rw [if_neg (by omega), if_pos (by omega)]; exact g4
  · rw [getD_snoc, getD_snoc, getD_snoc, if_pos (show t < vs.length by omega)]
    by_cases e : t < ks.length
    · rw [if_pos e, if_pos (by omega)]; exact h.w t e
    · obtain rfl : t = ks.length := by omega
      rw [if_neg e, if_pos rfl, if_neg (by omega), if_pos (by omega), e1]; exact g6
  · rw [getD_snoc, if_pos (show t < vs.length by omega)]
    by_cases e : t < ks.length
    · exact h.dn t e
    · obtain rfl : t = ks.length := by omega
      rw [e1]; exact g7
  · rw [getD_snoc, if_neg (by omega), if_pos (by omega)]
    have e2 : n + 1 - (ks.length + 1) = n - ks.length := by omega
    rw [e2]; exact g8 (by omega)
theorem Tr.sum (h : Tr all n ls vs ks) : ∀ d a, a + d = ks.length → ((ks.drop a).map fun k => (bd all k).c).sum = (W ls (n + 1 - a) (vs.getD a 0)).w - (W ls (n + 1 - ks.length) (vs.getD ks.length 0)).w
  | 0, a, e => by
    have e : a = ks.length := by omega
    subst e; simp
  | d + 1, a, e => by
    have ha : a < ks.length := by omega
    have ih := Tr.sum h d (a + 1) (by omega)
    rw [List.drop_eq_getElem_cons ha, List.map_cons, List.sum_cons, ih]
    have h1 := h.w a ha
    have e1 : ks.getD a 0 = ks[a] := by rw [List.getD_eq_getElem?_getD, List.getElem?_eq_getElem ha]; rfl
    rw [e1] at h1
    have e2 : n + 1 - (a + 1) = n - a := by omega
    rw [e2]
    omega
theorem getD_get {α : Type} {l : List α} {t : Nat} {d : α} (h : t < l.length) : l.getD t d = l[t] := by
  rw [List.getD_eq_getElem?_getD, List.getElem?_eq_getElem h]; rfl
theorem Tr.cyc (h : Tr all n ls vs ks) (hL : Levels all n src ls) {a : Nat} (ha : a < ks.length) (hn : (vs.take ks.length).Nodup) (he : vs.getD a 0 = vs.getD ks.length 0) : NegCyc all (ks.drop a) := by
  have hvl := h.len
  have hle := h.le
  have hd : ∀ t (ht : t < (ks.drop a).length), (ks.drop a)[t] = ks.getD (a + t) 0 := fun t ht => by
    have : a + t < ks.length := by simp at ht; omega
    rw [List.getElem_drop, getD_get this]
  refine ⟨fun e => ?_, fun k hk => ?_, fun t ht => ?_, ?_, ?_⟩
  · have := congrArg List.length e; simp at this; omega
  · obtain ⟨t, ht, rfl⟩ := List.getElem_of_mem hk
    rw [hd t ht]; exact h.lt _ (by simp at ht; omega)
  · have hlt : (t + 1) % (ks.drop a).length < (ks.drop a).length := Nat.mod_lt _ (by omega)
    rw [hd t ht, hd _ hlt]
    have ht' : a + t < ks.length := by simp at ht; omega
    show (bd all (ks.getD (a + t) 0)).j = (bd all (ks.getD (a + (t + 1) % (ks.drop a).length) 0)).i
    rw [h.hj _ ht']
    by_cases e : t + 1 < (ks.drop a).length
    · rw [Nat.mod_eq_of_lt e, h.hi (a + (t + 1)) (by simp at e; omega)]; rfl
    · have e1 : t + 1 = (ks.drop a).length := by omega
      have e2 : (t + 1) % (ks.drop a).length = 0 := by rw [e1]; exact Nat.mod_self _
      rw [e2]
      show vs.getD (a + t + 1) 0 = (bd all (ks.getD a 0)).i
      rw [h.hi a ha, he]
      have : a + t + 1 = ks.length := by simp at e1; omega
      rw [this]
  · have : (ks.drop a).map (fun k => (bd all k).i) = (vs.take ks.length).drop a := by
      apply List.ext_getElem
      · simp; omega
      · intro t h1 h2
        rw [List.getElem_map, hd t (by simpa using h1), h.hi _ (by simp at h1; omega), List.getElem_drop, List.getElem_take, getD_get (by simp at h1; omega)]
    show ((ks.drop a).map (fun k => (bd all k).i)).Nodup
    rw [this]
    exact hn.sublist (List.drop_sublist _ _)
  · show ((ks.drop a).map (fun k => (bd all k).c)).sum < 0
    rw [h.sum (ks.length - a) a (by omega), ← he]
    obtain ⟨q0, q1⟩ := h.rng a (by omega)
    have k1 := h.kn (ks.length - 1) (by omega)
    have e3 : ks.length - 1 + 1 = ks.length := by omega
    have e4 : n - (ks.length - 1) = n + 1 - ks.length := by omega
    rw [e3, e4, ← he] at k1
    obtain ⟨k2, k3⟩ := hL.known q0 q1 (t := n + 1 - ks.length) (u := n - a) (by omega) (by omega) k1
    have := h.dn a ha k2
    omega
theorem Tr.find (hL : Levels all n src ls) (hok : ∀ b ∈ all, OkB n b) : ∀ r (vs : List Int) (ks : List Nat), Tr all n ls vs ks → n + 1 - ks.length = r → vs.Nodup → ∃ cs, NegCyc all cs
  | 0, vs, ks, h, hr, hn => by
    have := pigeon hn fun v hv => by
      obtain ⟨t, ht, rfl⟩ := List.getElem_of_mem hv
      have := h.rng t ht
      rwa [getD_get ht] at this
    have := h.len
    omega
  | r + 1, vs, ks, h, hr, hn => by
    obtain ⟨k, h1, h2, h3, h4, h5⟩ := h.step hL hok (by omega)
    by_cases hm : (bd all k).j ∈ vs
    · obtain ⟨a, ha, e⟩ := List.getElem_of_mem hm
      have hvl := h.len
      refine ⟨_, h5.cyc hL (a := a) (by simp; omega) ?_ ?_⟩
      · rw [List.take_append_of_le_length (by simp; omega), List.take_of_length_le (by simp; omega)]; exact hn
      · rw [getD_snoc, getD_snoc, if_pos ha, if_neg (by simp; omega), if_pos (by simp; omega), getD_get ha, e]
    · refine Tr.find hL hok r _ _ h5 (by simp; omega) ?_
      rw [List.nodup_append]
      exact ⟨hn, by simp, fun x hx y hy e => by simp at hy; subst hy e; exact hm hx⟩
/-- with a solution nothing is lowered at the last level -/
theorem Levels.still (hL : Levels all n src ls) (hok : ∀ b ∈ all, OkB n b) (hs : Sat all) {v : Int} (h0 : 0 ≤ v) (h1 : v ≤ n) : (W ls (n + 1) v).last = -1 := by
  refine Classical.byContradiction fun hl => ?_
  obtain ⟨cs, hc⟩ := Tr.find hL hok _ [v] [] (.start h0 h1 hl) rfl (by simp)
  exact hc.unsat hs
/-- where nothing is lowered at the last level, no bound lowers anything -/
theorem Levels.fix (hL : Levels all n src ls) (hok : ∀ b ∈ all, OkB n b) (hst : ∀ v : Int, 0 ≤ v → v ≤ n → (W ls (n + 1) v).last = -1) : ∀ b ∈ all, (W ls (n + 1) b.j).known = true → (W ls (n + 1) b.i).known = true ∧ (W ls (n + 1) b.i).w ≤ (W ls (n + 1) b.j).w + b.c := by
  intro b hb hk
  have ho := hok b hb
  have hs := hL.step n (by omega)
  have h9 := hst b.j ho.2.2.1 ho.2.2.2.1
  rcases hs.two b.j ho.2.2.1 ho.2.2.2.1 with ⟨h2, h3, h4⟩ | ⟨k, h2, h3, h4, h5, h6⟩
  · obtain ⟨h5, h6⟩ := hs.low b hb (by rw [← h3]; exact hk)
    exact ⟨h5, by show (at' (ls.getD (n + 1) []) b.i).w ≤ (at' (ls.getD (n + 1) []) b.j).w + b.c; rw [h4]; exact h6⟩
  · have h9 : (at' (ls.getD (n + 1) []) b.j).last = -1 := h9
    rw [h5] at h9; simp at h9
theorem Levels.sat (hL : Levels all n (fun _ => true) ls) (hok : ∀ b ∈ all, OkB n b) (hst : ∀ v : Int, 0 ≤ v → v ≤ n → (W ls (n + 1) v).last = -1) : Sol all fun v => (W ls (n + 1) v).w := by
  intro b hb
  have ho := hok b hb
  have h0 := hL.zero b.j ho.2.2.1 ho.2.2.2.1
  have := (hL.fix hok hst b hb (hL.known ho.2.2.1 ho.2.2.2.1 (t := 0) (u := n + 1) (by omega) (by omega) (by show (at' (ls.getD 0 []) b.j).known = true; rw [h0])).1).2
  show (W ls (n + 1) b.i).w - (W ls (n + 1) b.j).w ≤ b.c
  omega
theorem Levels.br (hs : Sat all) {j : Int} (hj0 : 0 ≤ j) (hj1 : j ≤ n) (hL : Levels all n (fun v => decide (v = j)) ls) (hok : ∀ b ∈ all, OkB n b) {i : Int} (h0 : 0 ≤ i) (h1 : i ≤ n) :
    BR all i j (if (W ls (n + 1) i).known = true then (W ls (n + 1) i).w else 0) (W ls (n + 1) i).known := by
  have hst : ∀ v : Int, 0 ≤ v → v ≤ n → (W ls (n + 1) v).last = -1 := fun v g0 g1 => hL.still hok hs g0 g1
  have hz := hL.zero j hj0 hj1
  -- outside the variables nothing is known
  let kn : Int → Bool := fun v => decide (0 ≤ v ∧ v ≤ n) && (W ls (n + 1) v).known
  have hkn : ∀ v : Int, 0 ≤ v → v ≤ n → kn v = (W ls (n + 1) v).known := fun v g0 g1 => by simp [kn, g0, g1]
  have key := br_of_fix hs kn (fun v => (W ls (n + 1) v).w) i j ?_ ?_ ?_
  · rwa [hkn i h0 h1] at key
  · have := hL.known hj0 hj1 (t := 0) (u := n + 1) (by omega) (by omega) (by show (at' (ls.getD 0 []) j).known = true; rw [hz]; simp)
    refine ⟨by rw [hkn j hj0 hj1]; exact this.1, ?_⟩
    have h2 := this.2
    have h3 : (W ls 0 j).w = 0 := by show (at' (ls.getD 0 []) j).w = 0; rw [hz]
    show (W ls (n + 1) j).w ≤ 0
    omega
  · intro b hb hk
    have ho := hok b hb
    rw [hkn _ ho.2.2.1 ho.2.2.2.1] at hk
    have := hL.fix hok hst b hb hk
    exact ⟨by rw [hkn _ ho.1 ho.2.1]; exact this.1, this.2⟩
  · intro x hx v hv
    have hv' : (0 ≤ v ∧ v ≤ n) ∧ (W ls (n + 1) v).known = true := by simpa [kn] using hv
    exact hL.up hok hx (z := x j) (fun v _ _ h => by have : v = j := by simpa using h
                                                     rw [this]; omega) (n + 1) (Nat.le_refl _) v hv'.1.1 hv'.1.2 hv'.2
end
end Go.Proofs.Ytkpacejikoengaa.M
