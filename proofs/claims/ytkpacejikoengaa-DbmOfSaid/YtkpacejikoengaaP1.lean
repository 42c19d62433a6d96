import Derived.KernelRfl
/- Systems of difference bounds: solutions, greatest values, negative cycles. Plain laws, no program. -/
namespace Go.Proofs.Ytkpacejikoengaa.M
set_option linter.unusedVariables false
structure Bd where
  i : Int
  j : Int
  c : Int
  deriving DecidableEq
def Sol (all : List Bd) (x : Int → Int) : Prop := ∀ b ∈ all, x b.i - x b.j ≤ b.c
def Sat (all : List Bd) : Prop := ∃ x, Sol all x
/-- what the greatest value of a difference is -/
def BR (all : List Bd) (i j c : Int) (ok : Bool) : Prop :=
  (ok = true ∧ (∃ x, Sol all x ∧ x i - x j = c) ∧ ∀ x, Sol all x → x i - x j ≤ c) ∨ (ok = false ∧ c = 0 ∧ ∀ M : Int, ∃ x, Sol all x ∧ M < x i - x j)
theorem BR.uniq {all : List Bd} {i j c c' : Int} {ok ok' : Bool} (h : BR all i j c ok) (h' : BR all i j c' ok') : c = c' ∧ ok = ok' := by
  rcases h with ⟨h1, ⟨x, h2, h3⟩, h4⟩ | ⟨h1, h2, h3⟩ <;> rcases h' with ⟨g1, ⟨y, g2, g3⟩, g4⟩ | ⟨g1, g2, g3⟩
  · have := g4 x h2; have := h4 y g2; exact ⟨by omega, by rw [h1, g1]⟩
  · obtain ⟨y, g4, g5⟩ := g3 c; have := h4 y g4; omega
  · obtain ⟨y, h4, h5⟩ := h3 c'; have := g4 y h4; omega
  · exact ⟨by rw [h2, g2], by rw [h1, g1]⟩
theorem Sol.sub {a b : List Bd} {x : Int → Int} (h : Sol b x) (hs : ∀ y ∈ a, y ∈ b) : Sol a x := fun y hy => h y (hs y hy)
/-- values that no bound lowers any more are the greatest differences to a variable -/
theorem br_of_fix {all : List Bd} (hs : Sat all) (kn : Int → Bool) (d : Int → Int) (i j : Int) (hj : kn j = true ∧ d j ≤ 0)
    (fix : ∀ b ∈ all, kn b.j = true → kn b.i = true ∧ d b.i ≤ d b.j + b.c) (up : ∀ x, Sol all x → ∀ v, kn v = true → x v - x j ≤ d v) :
    BR all i j (if kn i = true then d i else 0) (kn i) := by
  obtain ⟨s, hs⟩ := hs
  have hdj : d j = 0 := by have := up s hs j hj.1; omega
  -- great enough a shift for the variables that are not reached
  obtain ⟨K0, hK0⟩ : ∃ K0 : Int, ∀ b ∈ all, d b.i - s b.j - b.c ≤ K0 := by
    clear fix hs up
    induction all with
    | nil => exact ⟨0, fun b hb => by simp at hb⟩
    | cons b l ih =>
      obtain ⟨K, hK⟩ := ih
      refine ⟨max K (d b.i - s b.j - b.c), fun b' hb' => ?_⟩
      rcases List.mem_cons.1 hb' with rfl | hb'
      · omega
      · have := hK b' hb'; omega
  have sol : ∀ K, K0 ≤ K → Sol all fun v => if kn v = true then d v else s v + K := fun K hK b hb => by
    have h1 := hK0 b hb
    have h2 := hs b hb
    by_cases kj : kn b.j = true
    · obtain ⟨h3, h4⟩ := fix b hb kj
      show (if kn b.i = true then d b.i else s b.i + K) - (if kn b.j = true then d b.j else s b.j + K) ≤ b.c
      rw [if_pos kj, if_pos h3]; omega
    · show (if kn b.i = true then d b.i else s b.i + K) - (if kn b.j = true then d b.j else s b.j + K) ≤ b.c
      rw [if_neg kj]
      by_cases ki : kn b.i = true
      · rw [if_pos ki]; omega
      · rw [if_neg ki]; omega
  by_cases ki : kn i = true
  · rw [if_pos ki]
    exact .inl ⟨ki, ⟨_, sol K0 (Int.le_refl _), by show (if kn i = true then d i else _) - (if kn j = true then d j else _) = d i; rw [if_pos ki, if_pos hj.1]; omega⟩, fun x hx => up x hx i ki⟩
  · rw [if_neg ki]
    refine .inr ⟨by simpa using ki, rfl, fun M => ⟨_, sol (max K0 (M - s i + 1)) (by omega), ?_⟩⟩
    show M < (if kn i = true then d i else s i + max K0 (M - s i + 1)) - (if kn j = true then d j else _)
    rw [if_neg ki, if_pos hj.1]; omega

/-! ### negative cycles -/
structure NegCyc (all : List Bd) (cs : List Nat) : Prop where
  ne : cs ≠ []
  lt : ∀ k ∈ cs, k < all.length
  next : ∀ (t : Nat) (h : t < cs.length), (all.getD cs[t] ⟨0, 0, 0⟩).j = (all.getD (cs[(t + 1) % cs.length]'(Nat.mod_lt _ (by omega))) ⟨0, 0, 0⟩).i
  nodup : (cs.map fun k => (all.getD k ⟨0, 0, 0⟩).i).Nodup
  neg : (cs.map fun k => (all.getD k ⟨0, 0, 0⟩).c).sum < 0
theorem sum_le {l : List Nat} {f g : Nat → Int} (h : ∀ k ∈ l, f k ≤ g k) : (l.map f).sum ≤ (l.map g).sum := by
  induction l with
  | nil => simp
  | cons a l ih =>
    have h1 := h a (by simp)
    have h2 := ih fun k hk => h k (by simp [hk])
    simp only [List.map_cons, List.sum_cons]; omega
theorem sum_sub {l : List Nat} {f g : Nat → Int} : (l.map fun k => f k - g k).sum = (l.map f).sum - (l.map g).sum := by
  induction l with
  | nil => simp
  | cons a l ih => simp only [List.map_cons, List.sum_cons, ih]; omega
theorem sum_append (a b : List Int) : (a ++ b).sum = a.sum + b.sum := by
  induction a with
  | nil => simp
  | cons x a ih => simp [ih]; omega
/-- a list turned by one place has the same sum -/
theorem sum_turn {l : List Int} : ∀ {r : List Int}, (∀ (t : Nat) (h : t < l.length), r[t]? = l[(t + 1) % l.length]?) → r.length = l.length → r.sum = l.sum := by
  intro r h hl
  cases l with
  | nil => have : r = [] := List.length_eq_zero_iff.1 hl; rw [this]
  | cons a l =>
    have : r = l ++ [a] := by
      apply List.ext_getElem?
      intro t
      by_cases ht : t < (a :: l).length
      · rw [h t ht]
        by_cases h2 : t + 1 < (a :: l).length
        · rw [Nat.mod_eq_of_lt h2, List.getElem?_cons_succ, List.getElem?_append_left (by simpa using h2)]
        · have e : t = l.length := by simp at ht h2; omega
          subst e
          simp
      · rw [List.getElem?_eq_none (by omega), List.getElem?_eq_none (by simp at ht ⊢; omega)]
    rw [this, sum_append]; simp; omega
theorem NegCyc.unsat {all : List Bd} {cs : List Nat} (h : NegCyc all cs) : ¬ Sat all := by
  rintro ⟨x, hx⟩
  have h1 : (cs.map fun k => x (all.getD k ⟨0, 0, 0⟩).i - x (all.getD k ⟨0, 0, 0⟩).j).sum ≤ (cs.map fun k => (all.getD k ⟨0, 0, 0⟩).c).sum := sum_le fun k hk => by
    have hk' := h.lt k hk
    refine hx _ ?_
    rw [List.getD_eq_getElem?_getD, List.getElem?_eq_getElem hk']
    exact List.getElem_mem hk'
  rw [sum_sub (f := fun k => x (all.getD k ⟨0, 0, 0⟩).i) (g := fun k => x (all.getD k ⟨0, 0, 0⟩).j)] at h1
  have h2 : (cs.map fun k => x (all.getD k ⟨0, 0, 0⟩).j).sum = (cs.map fun k => x (all.getD k ⟨0, 0, 0⟩).i).sum := sum_turn (fun t ht => by
    simp only [List.length_map] at ht ⊢
    have hlt : (t + 1) % cs.length < cs.length := Nat.mod_lt _ (by omega)
    rw [List.getElem?_map, List.getElem?_map, List.getElem?_eq_getElem ht, List.getElem?_eq_getElem hlt]
    simp only [Option.map_some]
    rw [h.next t ht]) (by simp)
  have := h.neg
  omega

/-! ### levels of walks -/
structure Wk where
  known : Bool
  w : Int
  last : Int
  deriving DecidableEq, Inhabited
def at' (l : List Wk) (v : Int) : Wk := l.getD v.toNat ⟨false, 0, -1⟩
def OkB (n : Nat) (b : Bd) : Prop := 0 ≤ b.i ∧ b.i ≤ n ∧ 0 ≤ b.j ∧ b.j ≤ n ∧ -1125899906842624 ≤ b.c ∧ b.c ≤ 1125899906842624
structure Step (all : List Bd) (n : Nat) (now next : List Wk) : Prop where
  len : next.length = n + 1
  two : ∀ v : Int, 0 ≤ v → v ≤ n → ((at' next v).last = -1 ∧ (at' next v).known = (at' now v).known ∧ (at' next v).w = (at' now v).w) ∨
    ∃ k : Nat, k < all.length ∧ (all.getD k ⟨0, 0, 0⟩).i = v ∧ (at' now (all.getD k ⟨0, 0, 0⟩).j).known = true ∧ at' next v = ⟨true, (at' now (all.getD k ⟨0, 0, 0⟩).j).w + (all.getD k ⟨0, 0, 0⟩).c, k⟩ ∧ ((at' now v).known = true → (at' next v).w < (at' now v).w)
  low : ∀ b ∈ all, (at' now b.j).known = true → (at' next b.i).known = true ∧ (at' next b.i).w ≤ (at' now b.j).w + b.c
theorem Step.mono {all : List Bd} {n : Nat} {now next : List Wk} (h : Step all n now next) {v : Int} (h0 : 0 ≤ v) (h1 : v ≤ n) (hk : (at' now v).known = true) : (at' next v).known = true ∧ (at' next v).w ≤ (at' now v).w := by
  rcases h.two v h0 h1 with ⟨h2, h3, h4⟩ | ⟨k, h2, h3, h4, h5, h6⟩
  · exact ⟨by rw [h3, hk], by omega⟩
  · have := h6 hk; exact ⟨by rw [h5], by omega⟩
/-- the levels from the first on -/
structure Levels (all : List Bd) (n : Nat) (src : Int → Bool) (ls : List (List Wk)) : Prop where
  len : ls.length = n + 2
  len0 : (ls.getD 0 []).length = n + 1
  zero : ∀ v : Int, 0 ≤ v → v ≤ n → at' (ls.getD 0 []) v = ⟨src v, 0, -1⟩
  step : ∀ t, t < n + 1 → Step all n (ls.getD t []) (ls.getD (t + 1) [])
section
variable {all : List Bd} {n : Nat} {src : Int → Bool} {ls : List (List Wk)}
abbrev W (ls : List (List Wk)) (t : Nat) (v : Int) : Wk := at' (ls.getD t []) v
theorem Levels.known (h : Levels all n src ls) {v : Int} (h0 : 0 ≤ v) (h1 : v ≤ n) : ∀ {t u : Nat}, t ≤ u → u ≤ n + 1 → (W ls t v).known = true → (W ls u v).known = true ∧ (W ls u v).w ≤ (W ls t v).w := by
  intro t u htu
  induction u with
  | zero => intro hu hk; obtain rfl : t = 0 := by omega
            exact ⟨hk, Int.le_refl _⟩
  | succ u ih =>
    intro hu hk
    by_cases e : t = u + 1
    · subst e; exact ⟨hk, Int.le_refl _⟩
    · obtain ⟨h2, h3⟩ := ih (by omega) (by omega) hk
      obtain ⟨h4, h5⟩ := (h.step u (by omega)).mono h0 h1 h2
      exact ⟨h4, Int.le_trans h5 h3⟩
/-- each walk is one: no solution goes beyond it -/
theorem Levels.up (h : Levels all n src ls) (hok : ∀ b ∈ all, OkB n b) {x : Int → Int} (hx : Sol all x) {z : Int} (hz : ∀ v : Int, 0 ≤ v → v ≤ n → src v = true → x v ≤ z) : ∀ t : Nat, t ≤ n + 1 → ∀ v : Int, 0 ≤ v → v ≤ n → (W ls t v).known = true → x v - z ≤ (W ls t v).w
  | 0, _, v, h0, h1, hk => by
    have := h.zero v h0 h1
    show x v - z ≤ (at' (ls.getD 0 []) v).w
    simp only [W, this] at hk ⊢
    have := hz v h0 h1 hk
    omega
  | t + 1, ht, v, h0, h1, hk => by
    have ih := Levels.up h hok hx hz t (by omega)
    rcases (h.step t (by omega)).two v h0 h1 with ⟨h2, h3, h4⟩ | ⟨k, h2, h3, h4, h5, h6⟩
    · have := ih v h0 h1 (by show (at' (ls.getD t []) v).known = true; rw [← h3]; exact hk)
      show x v - z ≤ (at' (ls.getD (t + 1) []) v).w
      rw [h4]; exact this
    · have hm : all.getD k ⟨0, 0, 0⟩ ∈ all := by rw [List.getD_eq_getElem?_getD, List.getElem?_eq_getElem h2]; exact List.getElem_mem h2
      have ho := hok _ hm
      have h7 := ih _ ho.2.2.1 ho.2.2.2.1 h4
      have h8 := hx _ hm
      show x v - z ≤ (at' (ls.getD (t + 1) []) v).w
      rw [h5]
      show x v - z ≤ (at' (ls.getD t []) (all.getD k ⟨0, 0, 0⟩).j).w + (all.getD k ⟨0, 0, 0⟩).c
      rw [h3] at h8
      have h7 : x (all.getD k ⟨0, 0, 0⟩).j - z ≤ (at' (ls.getD t []) (all.getD k ⟨0, 0, 0⟩).j).w := h7
      omega
/-- who is lowered at a level was reached by one that was lowered at the level before -/
theorem Levels.back (h : Levels all n src ls) {t : Nat} (ht : t < n + 1) {v : Int} (h0 : 0 ≤ v) (h1 : v ≤ n) (hok : ∀ b ∈ all, OkB n b) (hl : (W ls (t + 1) v).last ≠ -1) :
    ∃ k : Nat, k < all.length ∧ (W ls (t + 1) v).last = k ∧ (all.getD k ⟨0, 0, 0⟩).i = v ∧ (W ls t (all.getD k ⟨0, 0, 0⟩).j).known = true ∧ (W ls (t + 1) v).known = true ∧ (W ls (t + 1) v).w = (W ls t (all.getD k ⟨0, 0, 0⟩).j).w + (all.getD k ⟨0, 0, 0⟩).c ∧
      ((W ls t v).known = true → (W ls (t + 1) v).w < (W ls t v).w) ∧ (0 < t → (W ls t (all.getD k ⟨0, 0, 0⟩).j).last ≠ -1) := by
  rcases (h.step t ht).two v h0 h1 with ⟨h2, h3, h4⟩ | ⟨k, h2, h3, h4, h5, h6⟩
  · exact absurd h2 hl
  · have hm : all.getD k ⟨0, 0, 0⟩ ∈ all := by rw [List.getD_eq_getElem?_getD, List.getElem?_eq_getElem h2]; exact List.getElem_mem h2
    have ho := hok _ hm
    refine ⟨k, h2, by show (at' (ls.getD (t + 1) []) v).last = k; rw [h5], h3, h4, by show (at' (ls.getD (t + 1) []) v).known = true; rw [h5], by show (at' (ls.getD (t + 1) []) v).w = _; rw [h5], h6, fun h7 h8 => ?_⟩
    obtain ⟨t, rfl⟩ : ∃ s, t = s + 1 := ⟨t - 1, by omega⟩
    rcases (h.step t (by omega)).two _ ho.2.2.1 ho.2.2.2.1 with ⟨g2, g3, g4⟩ | ⟨k', g2, g3, g4, g5, g6⟩
    · have h9 := (h.step t (by omega)).low _ hm (by rw [← g3]; exact h4)
      rw [h3] at h9
      have h10 := h6 h9.1
      have h11 : (at' (ls.getD (t + 1 + 1) []) v).w = (at' (ls.getD (t + 1) []) (all.getD k ⟨0, 0, 0⟩).j).w + (all.getD k ⟨0, 0, 0⟩).c := by rw [h5]
      have := h9.2
      omega
    · have h8 : (at' (ls.getD (t + 1) []) (all.getD k ⟨0, 0, 0⟩).j).last = -1 := h8
      rw [g5] at h8
      simp at h8
end
end Go.Proofs.Ytkpacejikoengaa.M

/- A variable that is still lowered at the last level lies behind a negative cycle. Plain laws, no program. -/
namespace Go.Proofs.Ytkpacejikoengaa.M
set_option linter.unusedVariables false
theorem len_sub {α : Type} : ∀ (a b : List α), a.Nodup → (∀ x ∈ a, x ∈ b) → a.length ≤ b.length := by
  classical
  intro a
  induction a with
  | nil => intro b _ _; simp
  | cons x a ih =>
    intro b hn hm
    obtain ⟨h1, h2⟩ := List.nodup_cons.1 hn
    have hx := hm x (by simp)
    have := ih (b.erase x) h2 fun y hy => (List.mem_erase_of_ne (fun e => h1 (by rw [← e]; exact hy))).2 (hm y (by simp [hy]))
    rw [List.length_erase_of_mem hx] at this
    have hpos : 0 < b.length := List.length_pos_of_mem hx
    simp; omega
theorem pigeon {vs : List Int} {n : Nat} (hn : vs.Nodup) (h : ∀ v ∈ vs, 0 ≤ v ∧ v ≤ n) : vs.length ≤ n + 1 := by
  have := len_sub vs ((List.range (n + 1)).map fun k : Nat => (k : Int)) hn fun v hv => List.mem_map.2 ⟨v.toNat, by have := h v hv; simp; omega, by have := h v hv; omega⟩
  simpa using this
abbrev bd (all : List Bd) (k : Nat) : Bd := all.getD k ⟨0, 0, 0⟩
theorem bd_mem {all : List Bd} {k : Nat} (h : k < all.length) : bd all k ∈ all := by
  unfold bd; rw [List.getD_eq_getElem?_getD, List.getElem?_eq_getElem h]; exact List.getElem_mem h
structure Tr (all : List Bd) (n : Nat) (ls : List (List Wk)) (vs : List Int) (ks : List Nat) : Prop where
  len : vs.length = ks.length + 1
  le : ks.length ≤ n + 1
  rng : ∀ t, t < vs.length → 0 ≤ vs.getD t 0 ∧ vs.getD t 0 ≤ n
  lt : ∀ t, t < ks.length → ks.getD t 0 < all.length
  hi : ∀ t, t < ks.length → (bd all (ks.getD t 0)).i = vs.getD t 0
  hj : ∀ t, t < ks.length → (bd all (ks.getD t 0)).j = vs.getD (t + 1) 0
  kn : ∀ t, t < ks.length → (W ls (n - t) (vs.getD (t + 1) 0)).known = true
  w : ∀ t, t < ks.length → (W ls (n + 1 - t) (vs.getD t 0)).w = (W ls (n - t) (vs.getD (t + 1) 0)).w + (bd all (ks.getD t 0)).c
  dn : ∀ t, t < ks.length → (W ls (n - t) (vs.getD t 0)).known = true → (W ls (n + 1 - t) (vs.getD t 0)).w < (W ls (n - t) (vs.getD t 0)).w
  last : ks.length < n + 1 → (W ls (n + 1 - ks.length) (vs.getD ks.length 0)).last ≠ -1
section
variable {all : List Bd} {n : Nat} {src : Int → Bool} {ls : List (List Wk)} {vs : List Int} {ks : List Nat}
theorem Tr.start {v : Int} (h0 : 0 ≤ v) (h1 : v ≤ n) (hl : (W ls (n + 1) v).last ≠ -1) : Tr all n ls [v] [] :=
  ⟨rfl, Nat.zero_le _, fun t ht => by simp at ht; subst ht; exact ⟨h0, h1⟩, fun t ht => by simp at ht, fun t ht => by simp at ht, fun t ht => by simp at ht, fun t ht => by simp at ht, fun t ht => by simp at ht, fun t ht => by simp at ht, fun _ => hl⟩
theorem getD_snoc {α : Type} (l : List α) (x d : α) (t : Nat) : (l ++ [x]).getD t d = if t < l.length then l.getD t d else if t = l.length then x else d := by
  simp only [List.getD_eq_getElem?_getD]
  by_cases h : t < l.length
  · rw [if_pos h, List.getElem?_append_left h]
  · rw [if_neg h, List.getElem?_append_right (by omega)]
    by_cases e : t = l.length
    · subst e; simp
    · rw [if_neg e, List.getElem?_eq_none (by simp; omega)]; rfl
/-- one step back -/
theorem Tr.step (h : Tr all n ls vs ks) (hL : Levels all n src ls) (hok : ∀ b ∈ all, OkB n b) (hlt : ks.length < n + 1) :
    ∃ k : Nat, (W ls (n + 1 - ks.length) (vs.getD ks.length 0)).last = k ∧ k < all.length ∧ 0 ≤ (bd all k).j ∧ (bd all k).j ≤ n ∧ Tr all n ls (vs ++ [(bd all k).j]) (ks ++ [k]) := by
  obtain ⟨h0, h1⟩ := h.rng ks.length (by rw [h.len]; omega)
  have hl := h.last hlt
  have e1 : n + 1 - ks.length = (n - ks.length) + 1 := by omega
  rw [e1] at hl
  obtain ⟨k, g1, g2, g3, g4, g5, g6, g7, g8⟩ := hL.back (by omega) h0 h1 hok hl
  have ho := hok _ (bd_mem g1)
  have hvl := h.len
  refine ⟨k, by rw [e1]; exact g2, g1, ho.2.2.1, ho.2.2.2.1, by simp; omega, by simp; omega, fun t ht => ?_, fun t ht => ?_, fun t ht => ?_, fun t ht => ?_, fun t ht => ?_, fun t ht => ?_, fun t ht => ?_, fun hlt' => ?_⟩
  · simp only [List.length_append, List.length_cons, List.length_nil] at ht
    rw [getD_snoc]
    by_cases e : t < vs.length
    · rw [if_pos e]; exact h.rng t e
    · rw [if_neg e, if_pos (by omega)]; exact ⟨ho.2.2.1, ho.2.2.2.1⟩
  all_goals
    simp only [List.length_append, List.length_cons, List.length_nil] at *
  · rw [getD_snoc]
    by_cases e : t < ks.length
    · rw [if_pos e]; exact h.lt t e
    · rw [if_neg e, if_pos (by omega)]; exact g1
  · rw [getD_snoc, getD_snoc, if_pos (show t < vs.length by omega)]
    by_cases e : t < ks.length
    · rw [if_pos e]; exact h.hi t e
    · obtain rfl : t = ks.length := by omega
      rw [if_neg e, if_pos rfl]; exact g3
  · rw [getD_snoc, getD_snoc]
    by_cases e : t < ks.length
    · rw [if_pos e, if_pos (by omega)]; exact h.hj t e
    · obtain rfl : t = ks.length := by omega
      rw [if_neg e, if_pos rfl, if_neg (by omega), if_pos (by omega)]
  · rw [getD_snoc]
    by_cases e : t < ks.length
    · rw [if_pos (by omega)]; exact h.kn t e
    · obtain rfl : t = ks.length := by omega
      rw [if_neg (by omega), if_pos (by omega)]; exact g4
  · rw [getD_snoc, getD_snoc, getD_snoc, if_pos (show t < vs.length by omega)]
    by_cases e : t < ks.length
    · rw [if_pos e, if_pos (by omega)]; exact h.w t e
    · obtain rfl : t = ks.length := by omega
      rw [if_neg e, if_pos rfl, if_neg (by omega), if_pos (by omega), e1]; exact g6
  · rw [getD_snoc, if_pos (show t < vs.length by omega)]
    by_cases e : t < ks.length
    · exact h.dn t e
    · obtain rfl : t = ks.length := by omega
      rw [e1]; exact g7
  · rw [getD_snoc, if_neg (by omega), if_pos (by omega)]
    have e2 : n + 1 - (ks.length + 1) = n - ks.length := by omega
    rw [e2]; exact g8 (by omega)
theorem Tr.sum (h : Tr all n ls vs ks) : ∀ d a, a + d = ks.length → ((ks.drop a).map fun k => (bd all k).c).sum = (W ls (n + 1 - a) (vs.getD a 0)).w - (W ls (n + 1 - ks.length) (vs.getD ks.length 0)).w
  | 0, a, e => by
    have e : a = ks.length := by omega
    subst e; simp
  | d + 1, a, e => by
    have ha : a < ks.length := by omega
    have ih := Tr.sum h d (a + 1) (by omega)
    rw [List.drop_eq_getElem_cons ha, List.map_cons, List.sum_cons, ih]
    have h1 := h.w a ha
    have e1 : ks.getD a 0 = ks[a] := by rw [List.getD_eq_getElem?_getD, List.getElem?_eq_getElem ha]; rfl
    rw [e1] at h1
    have e2 : n + 1 - (a + 1) = n - a := by omega
    rw [e2]
    omega
theorem getD_get {α : Type} {l : List α} {t : Nat} {d : α} (h : t < l.length) : l.getD t d = l[t] := by
  rw [List.getD_eq_getElem?_getD, List.getElem?_eq_getElem h]; rfl
theorem Tr.cyc (h : Tr all n ls vs ks) (hL : Levels all n src ls) {a : Nat} (ha : a < ks.length) (hn : (vs.take ks.length).Nodup) (he : vs.getD a 0 = vs.getD ks.length 0) : NegCyc all (ks.drop a) := by
  have hvl := h.len
  have hle := h.le
  have hd : ∀ t (ht : t < (ks.drop a).length), (ks.drop a)[t] = ks.getD (a + t) 0 := fun t ht => by
    have : a + t < ks.length := by simp at ht; omega
    rw [List.getElem_drop, getD_get this]
  refine ⟨fun e => ?_, fun k hk => ?_, fun t ht => ?_, ?_, ?_⟩
  · have := congrArg List.length e; simp at this; omega
  · obtain ⟨t, ht, rfl⟩ := List.getElem_of_mem hk
    rw [hd t ht]; exact h.lt _ (by simp at ht; omega)
  · have hlt : (t + 1) % (ks.drop a).length < (ks.drop a).length := Nat.mod_lt _ (by omega)
    rw [hd t ht, hd _ hlt]
    have ht' : a + t < ks.length := by simp at ht; omega
    show (bd all (ks.getD (a + t) 0)).j = (bd all (ks.getD (a + (t + 1) % (ks.drop a).length) 0)).i
    rw [h.hj _ ht']
    by_cases e : t + 1 < (ks.drop a).length
    · rw [Nat.mod_eq_of_lt e, h.hi (a + (t + 1)) (by simp at e; omega)]; rfl
    · have e1 : t + 1 = (ks.drop a).length := by omega
      have e2 : (t + 1) % (ks.drop a).length = 0 := by rw [e1]; exact Nat.mod_self _
      rw [e2]
      show vs.getD (a + t + 1) 0 = (bd all (ks.getD a 0)).i
      rw [h.hi a ha, he]
      have : a + t + 1 = ks.length := by simp at e1; omega
      rw [this]
  · have : (ks.drop a).map (fun k => (bd all k).i) = (vs.take ks.length).drop a := by
      apply List.ext_getElem
      · simp; omega
      · intro t h1 h2
        rw [List.getElem_map, hd t (by simpa using h1), h.hi _ (by simp at h1; omega), List.getElem_drop, List.getElem_take, getD_get (by simp at h1; omega)]
    show ((ks.drop a).map (fun k => (bd all k).i)).Nodup
    rw [this]
    exact hn.sublist (List.drop_sublist _ _)
  · show ((ks.drop a).map (fun k => (bd all k).c)).sum < 0
    rw [h.sum (ks.length - a) a (by omega), ← he]
    obtain ⟨q0, q1⟩ := h.rng a (by omega)
    have k1 := h.kn (ks.length - 1) (by omega)
    have e3 : ks.length - 1 + 1 = ks.length := by omega
    have e4 : n - (ks.length - 1) = n + 1 - ks.length := by omega
    rw [e3, e4, ← he] at k1
    obtain ⟨k2, k3⟩ := hL.known q0 q1 (t := n + 1 - ks.length) (u := n - a) (by omega) (by omega) k1
    have := h.dn a ha k2
    omega
theorem Tr.find (hL : Levels all n src ls) (hok : ∀ b ∈ all, OkB n b) : ∀ r (vs : List Int) (ks : List Nat), Tr all n ls vs ks → n + 1 - ks.length = r → vs.Nodup → ∃ cs, NegCyc all cs
  | 0, vs, ks, h, hr, hn => by
    have := pigeon hn fun v hv => by
      obtain ⟨t, ht, rfl⟩ := List.getElem_of_mem hv
      have := h.rng t ht
      rwa [getD_get ht] at this
    have := h.len
    omega
  | r + 1, vs, ks, h, hr, hn => by
    obtain ⟨k, h1, h2, h3, h4, h5⟩ := h.step hL hok (by omega)
    by_cases hm : (bd all k).j ∈ vs
    · obtain ⟨a, ha, e⟩ := List.getElem_of_mem hm
      have hvl := h.len
      refine ⟨_, h5.cyc hL (a := a) (by simp; omega) ?_ ?_⟩
      · rw [List.take_append_of_le_length (by simp; omega), List.take_of_length_le (by simp; omega)]; exact hn
      · rw [getD_snoc, getD_snoc, if_pos ha, if_neg (by simp; omega), if_pos (by simp; omega), getD_get ha, e]
    · refine Tr.find hL hok r _ _ h5 (by simp; omega) ?_
      rw [List.nodup_append]
      exact ⟨hn, by simp, fun x hx y hy e => by simp at hy; subst hy e; exact hm hx⟩
/-- with a solution nothing is lowered at the last level -/
theorem Levels.still (hL : Levels all n src ls) (hok : ∀ b ∈ all, OkB n b) (hs : Sat all) {v : Int} (h0 : 0 ≤ v) (h1 : v ≤ n) : (W ls (n + 1) v).last = -1 := by
  refine Classical.byContradiction fun hl => ?_
  obtain ⟨cs, hc⟩ := Tr.find hL hok _ [v] [] (.start h0 h1 hl) rfl (by simp)
  exact hc.unsat hs
/-- where nothing is lowered at the last level, no bound lowers anything -/
theorem Levels.fix (hL : Levels all n src ls) (hok : ∀ b ∈ all, OkB n b) (hst : ∀ v : Int, 0 ≤ v → v ≤ n → (W ls (n + 1) v).last = -1) : ∀ b ∈ all, (W ls (n + 1) b.j).known = true → (W ls (n + 1) b.i).known = true ∧ (W ls (n + 1) b.i).w ≤ (W ls (n + 1) b.j).w + b.c := by
  intro b hb hk
  have ho := hok b hb
  have hs := hL.step n (by omega)
  have h9 := hst b.j ho.2.2.1 ho.2.2.2.1
  rcases hs.two b.j ho.2.2.1 ho.2.2.2.1 with ⟨h2, h3, h4⟩ | ⟨k, h2, h3, h4, h5, h6⟩
  · obtain ⟨h5, h6⟩ := hs.low b hb (by rw [← h3]; exact hk)
    exact ⟨h5, by show (at' (ls.getD (n + 1) []) b.i).w ≤ (at' (ls.getD (n + 1) []) b.j).w + b.c; rw [h4]; exact h6⟩
  · have h9 : (at' (ls.getD (n + 1) []) b.j).last = -1 := h9
    rw [h5] at h9; simp at h9
theorem Levels.sat (hL : Levels all n (fun _ => true) ls) (hok : ∀ b ∈ all, OkB n b) (hst : ∀ v : Int, 0 ≤ v → v ≤ n → (W ls (n + 1) v).last = -1) : Sol all fun v => (W ls (n + 1) v).w := by
  intro b hb
  have ho := hok b hb
  have h0 := hL.zero b.j ho.2.2.1 ho.2.2.2.1
  have := (hL.fix hok hst b hb (hL.known ho.2.2.1 ho.2.2.2.1 (t := 0) (u := n + 1) (by omega) (by omega) (by show (at' (ls.getD 0 []) b.j).known = true; rw [h0])).1).2
  show (W ls (n + 1) b.i).w - (W ls (n + 1) b.j).w ≤ b.c
  omega
theorem Levels.br (hs : Sat all) {j : Int} (hj0 : 0 ≤ j) (hj1 : j ≤ n) (hL : Levels all n (fun v => decide (v = j)) ls) (hok : ∀ b ∈ all, OkB n b) {i : Int} (h0 : 0 ≤ i) (h1 : i ≤ n) :
    BR all i j (if (W ls (n + 1) i).known = true then (W ls (n + 1) i).w else 0) (W ls (n + 1) i).known := by
  have hst : ∀ v : Int, 0 ≤ v → v ≤ n → (W ls (n + 1) v).last = -1 := fun v g0 g1 => hL.still hok hs g0 g1
  have hz := hL.zero j hj0 hj1
  -- outside the variables nothing is known
  let kn : Int → Bool := fun v => decide (0 ≤ v ∧ v ≤ n) && (W ls (n + 1) v).known
  have hkn : ∀ v : Int, 0 ≤ v → v ≤ n → kn v = (W ls (n + 1) v).known := fun v g0 g1 => by simp [kn, g0, g1]
  have key := br_of_fix hs kn (fun v => (W ls (n + 1) v).w) i j ?_ ?_ ?_
  · rwa [hkn i h0 h1] at key
  · have := hL.known hj0 hj1 (t := 0) (u := n + 1) (by omega) (by omega) (by show (at' (ls.getD 0 []) j).known = true; rw [hz]; simp)
    refine ⟨by rw [hkn j hj0 hj1]; exact this.1, ?_⟩
    have h2 := this.2
    have h3 : (W ls 0 j).w = 0 := by show (at' (ls.getD 0 []) j).w = 0; rw [hz]
    show (W ls (n + 1) j).w ≤ 0
    omega
  · intro b hb hk
    have ho := hok b hb
    rw [hkn _ ho.2.2.1 ho.2.2.2.1] at hk
    have := hL.fix hok hst b hb hk
    exact ⟨by rw [hkn _ ho.1 ho.2.1]; exact this.1, this.2⟩
  · intro x hx v hv
    have hv' : (0 ≤ v ∧ v ≤ n) ∧ (W ls (n + 1) v).known = true := by simpa [kn] using hv
    exact hL.up hok hx (z := x j) (fun v _ _ h => by have : v = j := by simpa using h
                                                     rw [this]; omega) (n + 1) (Nat.le_refl _) v hv'.1.1 hv'.1.2 hv'.2
end
end Go.Proofs.Ytkpacejikoengaa.M

/- Levels, step by step. Plain laws, no program. -/
namespace Go.Proofs.Ytkpacejikoengaa.M
set_option linter.unusedVariables false
def B50 (t : Nat) (w : Int) : Prop := -(1125899906842624 * (t : Int)) ≤ w ∧ w ≤ 1125899906842624 * (t : Int)
theorem B50.zero {t : Nat} : B50 t 0 := ⟨by omega, by omega⟩
theorem B50.up {t : Nat} {w : Int} (h : B50 t w) : B50 (t + 1) w := ⟨by have := h.1; omega, by have := h.2; omega⟩
theorem B50.add {t : Nat} {w c : Int} (h : B50 t w) (h1 : -1125899906842624 ≤ c) (h2 : c ≤ 1125899906842624) : B50 (t + 1) (w + c) := ⟨by have := h.1; omega, by have := h.2; omega⟩
structure Pre (all : List Bd) (n : Nat) (src : Int → Bool) (ls : List (List Wk)) (t : Nat) : Prop where
  len : ls.length = t + 1
  len0 : (ls.getD 0 []).length = n + 1
  zero : ∀ v : Int, 0 ≤ v → v ≤ n → at' (ls.getD 0 []) v = ⟨src v, 0, -1⟩
  step : ∀ s, s < t → Step all n (ls.getD s []) (ls.getD (s + 1) [])
  small : ∀ s, s ≤ t → ∀ v, B50 s (W ls s v).w
section
variable {all : List Bd} {n : Nat} {src : Int → Bool} {ls : List (List Wk)} {t : Nat}
theorem Pre.start {l : List Wk} (hl : l.length = n + 1) (hz : ∀ v : Nat, v < n + 1 → l.getD v ⟨false, 0, -1⟩ = ⟨src v, 0, -1⟩) : Pre all n src [l] 0 := by
  refine ⟨rfl, hl, fun v h0 h1 => ?_, fun s hs => absurd hs (Nat.not_lt_zero s), fun s hs v => ?_⟩
  · have := hz v.toNat (by omega)
    rw [show ((v.toNat : Nat) : Int) = v by omega] at this
    exact this
  · obtain rfl : s = 0 := by omega
    show B50 0 (l.getD v.toNat ⟨false, 0, -1⟩).w
    by_cases hv : v.toNat < n + 1
    · rw [hz _ hv]; exact .zero
    · rw [List.getD_eq_getElem?_getD, List.getElem?_eq_none (by omega)]; exact .zero
theorem Pre.lens (h : Pre all n src ls t) {s : Nat} (hs : s ≤ t) : (ls.getD s []).length = n + 1 := by
  cases s with
  | zero => exact h.len0
  | succ s => exact (h.step s (by omega)).len
theorem Pre.snoc (h : Pre all n src ls t) {l : List Wk} (hs : Step all n (ls.getD t []) l) (hb : ∀ v, B50 (t + 1) (at' l v).w) : Pre all n src (ls ++ [l]) (t + 1) := by
  have hl := h.len
  have e1 : ∀ s, s ≤ t → (ls ++ [l]).getD s [] = ls.getD s [] := fun s h => by rw [getD_snoc, if_pos (by omega)]
  have e2 : (ls ++ [l]).getD (t + 1) [] = l := by rw [getD_snoc, if_neg (by omega), if_pos (by omega)]
  refine ⟨by simp; omega, by rw [e1 0 (by omega)]; exact h.len0, fun v h0 h1 => by rw [e1 0 (by omega)]; exact h.zero v h0 h1, fun s hs' => ?_, fun s hs' v => ?_⟩
  · by_cases e : s < t
    · rw [e1 s (by omega), e1 (s + 1) (by omega)]; exact h.step s e
    · obtain rfl : s = t := by omega
      rw [e1 s (by omega), e2]; exact hs
  · by_cases e : s ≤ t
    · have := h.small s e v
      show B50 s (at' ((ls ++ [l]).getD s []) v).w
      rw [e1 s e]; exact this
    · obtain rfl : s = t + 1 := by omega
      show B50 (t + 1) (at' ((ls ++ [l]).getD (t + 1) []) v).w
      rw [e2]; exact hb v
theorem Pre.levels (h : Pre all n src ls (n + 1)) : Levels all n src ls := ⟨h.len, h.len0, h.zero, fun t ht => h.step t ht⟩
/-- what one position does to a level -/
def rlx (all : List Bd) (now l : List Wk) (q : Int) : List Wk :=
  if (at' now (bd all q.toNat).j).known = true ∧ ((at' l (bd all q.toNat).i).known = true → (at' now (bd all q.toNat).j).w + (bd all q.toNat).c < (at' l (bd all q.toNat).i).w) then l.set (bd all q.toNat).i.toNat ⟨true, (at' now (bd all q.toNat).j).w + (bd all q.toNat).c, q⟩ else l
abbrev wipe (w : Wk) : Wk := { w with last := -1 }
def nextF (all : List Bd) (ts : List Int) (now : List Wk) : List Wk := ts.foldl (rlx all now) (now.map wipe)
/-- a level under way: the first p positions are done -/
structure PS (all : List Bd) (n : Nat) (ts : List Int) (now l : List Wk) (t p : Nat) : Prop where
  len : l.length = n + 1
  two : ∀ v : Int, 0 ≤ v → v ≤ n → ((at' l v).last = -1 ∧ (at' l v).known = (at' now v).known ∧ (at' l v).w = (at' now v).w) ∨
    ∃ k : Nat, k < all.length ∧ (all.getD k ⟨0, 0, 0⟩).i = v ∧ (at' now (all.getD k ⟨0, 0, 0⟩).j).known = true ∧ at' l v = ⟨true, (at' now (all.getD k ⟨0, 0, 0⟩).j).w + (all.getD k ⟨0, 0, 0⟩).c, k⟩ ∧ ((at' now v).known = true → (at' l v).w < (at' now v).w)
  low : ∀ q (hq : q < ts.length), q < p → (at' now (bd all ts[q].toNat).j).known = true → (at' l (bd all ts[q].toNat).i).known = true ∧ (at' l (bd all ts[q].toNat).i).w ≤ (at' now (bd all ts[q].toNat).j).w + (bd all ts[q].toNat).c
  small : ∀ v, B50 (t + 1) (at' l v).w
  eq : l = (ts.take p).foldl (rlx all now) (now.map wipe)
variable {ts : List Int} {now l : List Wk} {p : Nat}
theorem PS.start (hl : l.length = n + 1) (hn : now.length = n + 1) (h : ∀ v : Nat, v < n + 1 → l.getD v ⟨false, 0, -1⟩ = { now.getD v ⟨false, 0, -1⟩ with last := -1 }) (hs : ∀ v, B50 t (at' now v).w) : PS all n ts now l t 0 := by
  have e : ∀ v : Int, 0 ≤ v → v ≤ n → at' l v = { at' now v with last := -1 } := fun v h0 h1 => h v.toNat (by omega)
  refine ⟨hl, fun v h0 h1 => .inl (by rw [e v h0 h1]; exact ⟨rfl, rfl, rfl⟩), fun q hq hp => absurd hp (Nat.not_lt_zero q), fun v => ?_, ?_⟩
  rotate_left
  · refine List.ext_getElem (by simp; omega) fun v h1 h2 => ?_
    have := h v (by omega)
    rw [List.getD_eq_getElem?_getD, List.getD_eq_getElem?_getD, List.getElem?_eq_getElem h1, List.getElem?_eq_getElem (by omega)] at this
    simpa using this
  by_cases hv : v.toNat < n + 1
  · have : at' l v = { at' now v with last := -1 } := h v.toNat hv
    rw [this]; exact (hs v).up
  · have : at' l v = ⟨false, 0, -1⟩ := by unfold at'; rw [List.getD_eq_getElem?_getD, List.getElem?_eq_none (by omega)]; rfl
    rw [this]; exact .zero
theorem at'_set {v u : Int} {x : Wk} (hv0 : 0 ≤ v) (hu0 : 0 ≤ u) (hu : u.toNat < l.length) : at' (l.set u.toNat x) v = if v = u then x else at' l v := by
  unfold at'
  simp only [List.getD_eq_getElem?_getD, List.getElem?_set]
  by_cases e : v = u
  · subst e; rw [if_pos rfl, if_pos hu, if_pos rfl]; rfl
  · rw [if_neg (by omega), if_neg e]
theorem at'_neg {v : Int} (hv : v < 0) : at' l v = at' l 0 := by
  unfold at'; rw [show v.toNat = 0 by omega]; rfl
/-- the position lowers a variable -/
theorem PS.relax (h : PS all n ts now l t p) (hok : ∀ b ∈ all, OkB n b) (hp : p < ts.length) (h0 : 0 ≤ ts[p] ∧ ts[p] < all.length) (hn : ∀ v, B50 t (at' now v).w)
    (hk : (at' now (bd all ts[p].toNat).j).known = true) (hc : (at' l (bd all ts[p].toNat).i).known = true → (at' now (bd all ts[p].toNat).j).w + (bd all ts[p].toNat).c < (at' l (bd all ts[p].toNat).i).w) :
    PS all n ts now (l.set (bd all ts[p].toNat).i.toNat ⟨true, (at' now (bd all ts[p].toNat).j).w + (bd all ts[p].toNat).c, ts[p]⟩) t (p + 1) := by
  have hk1 : ts[p].toNat < all.length := by omega
  have ho := hok _ (bd_mem hk1)
  have hlen := h.len
  have hu : (bd all ts[p].toNat).i.toNat < l.length := by have := ho.1; have := ho.2.1; omega
  have es : ∀ v, 0 ≤ v → at' (l.set (bd all ts[p].toNat).i.toNat ⟨true, (at' now (bd all ts[p].toNat).j).w + (bd all ts[p].toNat).c, ts[p]⟩) v = if v = (bd all ts[p].toNat).i then ⟨true, (at' now (bd all ts[p].toNat).j).w + (bd all ts[p].toNat).c, ts[p]⟩ else at' l v := fun v hv => at'_set hv ho.1 hu
  have hmono : ∀ v : Int, 0 ≤ v → v ≤ n → (at' now v).known = true → (at' l v).known = true ∧ (at' l v).w ≤ (at' now v).w := fun v g0 g1 gk => by
    rcases h.two v g0 g1 with ⟨g2, g3, g4⟩ | ⟨k, g2, g3, g4, g5, g6⟩
    · exact ⟨by rw [g3, gk], by omega⟩
    · have := g6 gk; exact ⟨by rw [g5], by omega⟩
  refine ⟨by simpa using hlen, fun v g0 g1 => ?_, fun q hq hqp gk => ?_, fun v => ?_, ?_⟩
  rotate_right
  · rw [List.take_add_one, List.getElem?_eq_getElem hp, List.foldl_append, ← h.eq]
    show _ = rlx all now l ts[p]
    unfold rlx
    rw [if_pos ⟨hk, hc⟩]
  · rw [es v g0]
    by_cases e : v = (bd all ts[p].toNat).i
    · rw [if_pos e]
      refine .inr ⟨ts[p].toNat, hk1, e.symm, hk, by rw [show ((ts[p].toNat : Nat) : Int) = ts[p] by omega], fun gk => ?_⟩
      obtain ⟨g2, g3⟩ := hmono v g0 g1 gk
      rw [e] at g2
      have := hc g2
      rw [← e] at this
      show (at' now (bd all ts[p].toNat).j).w + (bd all ts[p].toNat).c < (at' now v).w
      omega
    · rw [if_neg e]; exact h.two v g0 g1
  · have hkq : (bd all ts[q].toNat).i = (bd all ts[p].toNat).i ∨ (bd all ts[q].toNat).i ≠ (bd all ts[p].toNat).i := Classical.em _
    have hqi : 0 ≤ (bd all ts[q].toNat).i := by
      by_cases hlt : ts[q].toNat < all.length
      · exact (hok _ (bd_mem hlt)).1
      · unfold bd; rw [List.getD_eq_getElem?_getD, List.getElem?_eq_none (by omega)]; exact Int.le_refl _
    rw [es _ hqi]
    by_cases e : (bd all ts[q].toNat).i = (bd all ts[p].toNat).i
    · rw [if_pos e]
      refine ⟨rfl, ?_⟩
      show (at' now (bd all ts[p].toNat).j).w + (bd all ts[p].toNat).c ≤ _
      by_cases e2 : q = p
      · subst e2; exact Int.le_refl _
      · obtain ⟨g2, g3⟩ := h.low q hq (by omega) gk
        rw [e] at g2 g3
        have := hc g2
        omega
    · rw [if_neg e]
      by_cases e2 : q = p
      · subst e2; exact absurd rfl e
      · exact h.low q hq (by omega) gk
  · by_cases hv : 0 ≤ v
    · rw [es v hv]
      split
      · exact (hn _).add ho.2.2.2.2.1 ho.2.2.2.2.2
      · exact h.small v
    · rw [at'_neg (by omega), es 0 (by omega)]
      split
      · exact (hn _).add ho.2.2.2.2.1 ho.2.2.2.2.2
      · exact h.small 0
/-- the position lowers nothing -/
theorem PS.skip (h : PS all n ts now l t p) (hp : p < ts.length) (hc : (at' now (bd all ts[p].toNat).j).known = true → (at' l (bd all ts[p].toNat).i).known = true ∧ (at' l (bd all ts[p].toNat).i).w ≤ (at' now (bd all ts[p].toNat).j).w + (bd all ts[p].toNat).c) : PS all n ts now l t (p + 1) :=
  ⟨h.len, h.two, fun q hq hqp gk => by
    by_cases e : q = p
    · subst e; exact hc gk
    · exact h.low q hq (by omega) gk, h.small, by
    rw [List.take_add_one, List.getElem?_eq_getElem hp, List.foldl_append, ← h.eq]
    show _ = rlx all now l ts[p]
    unfold rlx
    rw [if_neg fun h9 => by
      obtain ⟨h1, h2⟩ := hc h9.1
      have := h9.2 h1
      omega]⟩
theorem PS.next (h : PS all n ts now l t ts.length) : l = nextF all ts now := by have := h.eq; rwa [List.take_length] at this
/-- each position lowers or does not -/
theorem PS.ex (hok : ∀ b ∈ all, OkB n b) (hl : now.length = n + 1) (h0 : ∀ v ∈ ts, 0 ≤ v ∧ v < all.length) (hn : ∀ v, B50 t (at' now v).w) : ∀ p, p ≤ ts.length → ∃ l, PS all n ts now l t p
  | 0, _ => ⟨_, PS.start (l := now.map wipe) (by simpa using hl) hl (fun v hv => by
      simp only [List.getD_eq_getElem?_getD, List.getElem?_map, List.getElem?_eq_getElem (show v < now.length by omega)]; rfl) hn⟩
  | p + 1, hp => by
    obtain ⟨l, h⟩ := PS.ex hok hl h0 hn p (by omega)
    by_cases hk : (at' now (bd all ts[p].toNat).j).known = true
    · by_cases hc : (at' l (bd all ts[p].toNat).i).known = true → (at' now (bd all ts[p].toNat).j).w + (bd all ts[p].toNat).c < (at' l (bd all ts[p].toNat).i).w
      · exact ⟨_, h.relax hok hp (h0 _ (List.getElem_mem _)) hn hk hc⟩
      · have hc := Classical.not_imp.1 hc
        exact ⟨_, h.skip hp fun _ => ⟨hc.1, by omega⟩⟩
    · exact ⟨_, h.skip hp fun h9 => absurd h9 hk⟩
theorem PS.done (h : PS all n ts now l t ts.length) (hts : ∀ b ∈ all, ∃ v ∈ ts, (bd all v.toNat).i = b.i ∧ (bd all v.toNat).j = b.j ∧ (bd all v.toNat).c ≤ b.c) : Step all n now l :=
  ⟨h.len, h.two, fun b hb gk => by
    obtain ⟨v, hv, h1, h2, h3⟩ := hts b hb
    obtain ⟨q, hq, rfl⟩ := List.getElem_of_mem hv
    have := h.low q hq hq (by rw [h2]; exact gk)
    rw [h1, h2] at this
    exact ⟨this.1, by omega⟩⟩
end
end Go.Proofs.Ytkpacejikoengaa.M

/- The levels as one value. Plain laws, no program. -/
namespace Go.Proofs.Ytkpacejikoengaa.M
set_option linter.unusedVariables false
/-- the positions, in ascending order, that a table of positions names -/
structure TightEx (r : Int → Int → Option Nat) (ts : List Int) : Prop where
  of : ∀ v ∈ ts, ∃ i j, ∃ k : Nat, r i j = some k ∧ v = k
  mem : ∀ i j (k : Nat), r i j = some k → (k : Int) ∈ ts
  up : ts.Pairwise (· < ·)
theorem up_ext : ∀ {a b : List Int}, a.Pairwise (· < ·) → b.Pairwise (· < ·) → (∀ x, x ∈ a ↔ x ∈ b) → a = b
  | [], [], _, _, _ => rfl
  | [], y :: b, _, _, h => by have := (h y).2 (by simp); simp at this
  | x :: a, [], _, _, h => by have := (h x).1 (by simp); simp at this
  | x :: a, y :: b, ha, hb, h => by
    rw [List.pairwise_cons] at ha hb
    have h1 : x = y := by
      have h2 := (h x).1 (by simp)
      have h3 := (h y).2 (by simp)
      rcases List.mem_cons.1 h2 with h2 | h2
      · exact h2
      · rcases List.mem_cons.1 h3 with h3 | h3
        · exact h3.symm
        · have := ha.1 y h3; have := hb.1 x h2; omega
    subst h1
    rw [up_ext ha.2 hb.2 fun z => ⟨fun hz => by
      rcases List.mem_cons.1 ((h z).1 (by simp [hz])) with h4 | h4
      · subst h4; have := ha.1 z hz; omega
      · exact h4, fun hz => by
      rcases List.mem_cons.1 ((h z).2 (by simp [hz])) with h4 | h4
      · subst h4; have := hb.1 z hz; omega
      · exact h4⟩]
theorem TightEx.uniq {r : Int → Int → Option Nat} {a b : List Int} (ha : TightEx r a) (hb : TightEx r b) : a = b := up_ext ha.up hb.up fun x => ⟨fun h => by
  obtain ⟨i, j, k, h1, rfl⟩ := ha.of x h; exact hb.mem i j k h1, fun h => by
  obtain ⟨i, j, k, h1, rfl⟩ := hb.of x h; exact ha.mem i j k h1⟩
theorem TightEx.ex {r : Int → Int → Option Nat} {m : Nat} (hr : ∀ i j k, r i j = some k → k < m) : ∃ ts, TightEx r ts := by
  classical
  refine ⟨((List.range m).filter fun k => decide (∃ i j, r i j = some k)).map fun k : Nat => (k : Int), ⟨fun v hv => ?_, fun i j k h => ?_, ?_⟩⟩
  · obtain ⟨k, h1, rfl⟩ := List.mem_map.1 hv
    obtain ⟨i, j, h2⟩ := of_decide_eq_true (List.mem_filter.1 h1).2
    exact ⟨i, j, k, h2, rfl⟩
  · exact List.mem_map.2 ⟨k, List.mem_filter.2 ⟨List.mem_range.2 (hr i j k h), decide_eq_true ⟨i, j, h⟩⟩, rfl⟩
  · rw [List.pairwise_map]
    exact (List.pairwise_lt_range.filter _).imp fun h => by omega
/-- the levels -/
def walksF (all : List Bd) (ts : List Int) (l0 : List Wk) : Nat → List (List Wk)
  | 0 => [l0]
  | t + 1 => walksF all ts l0 t ++ [nextF all ts ((walksF all ts l0 t).getD t [])]
abbrev stW (fr : Int) (v : Int) : Wk := ⟨decide (fr < 0) || decide (v = fr), 0, -1⟩
def firstF (n : Nat) (fr : Int) : List Wk := (List.range (n + 1)).map fun v : Nat => stW fr (v : Int)
theorem first_eq {n : Nat} {fr : Int} {l : List Wk} (hl : l.length = n + 1) (h : ∀ v : Nat, v < n + 1 → l.getD v ⟨false, 0, -1⟩ = stW fr v) : l = firstF n fr := by
  refine List.ext_getElem (by simp [firstF, hl]) fun v h1 h2 => ?_
  have := h v (by omega)
  rw [List.getD_eq_getElem?_getD, List.getElem?_eq_getElem h1] at this
  simpa [firstF] using this
theorem Pre.ex {all : List Bd} {n : Nat} {ts : List Int} {fr : Int} (hok : ∀ b ∈ all, OkB n b) (h0 : ∀ v ∈ ts, 0 ≤ v ∧ v < all.length) (h1 : ∀ b ∈ all, ∃ v ∈ ts, (bd all v.toNat).i = b.i ∧ (bd all v.toNat).j = b.j ∧ (bd all v.toNat).c ≤ b.c) :
    ∀ t, Pre all n (fun v => decide (fr < 0) || decide (v = fr)) (walksF all ts (firstF n fr) t) t
  | 0 => Pre.start (by simp [firstF]) fun v hv => by simp [firstF, List.getD_eq_getElem?_getD, hv]
  | t + 1 => by
    have ih := Pre.ex (fr := fr) hok h0 h1 t
    obtain ⟨l, h⟩ := PS.ex hok (ih.lens (Nat.le_refl _)) h0 (ih.small t (Nat.le_refl _)) ts.length (Nat.le_refl _)
    have h2 := h.next
    subst h2
    exact ih.snoc (h.done h1) h.small
end Go.Proofs.Ytkpacejikoengaa.M

/- What Bound answers. Plain laws, no program. -/
namespace Go.Proofs.Ytkpacejikoengaa.M
set_option linter.unusedVariables false
noncomputable def satB (all : List Bd) : Bool := @decide (Sat all) (Classical.propDecidable _)
theorem satB_t {all : List Bd} : satB all = true ↔ Sat all := by unfold satB; exact @decide_eq_true_iff _ (Classical.propDecidable _)
theorem satB_yes {all : List Bd} (h : Sat all) : satB all = true := satB_t.2 h
theorem satB_no {all : List Bd} (h : ¬ Sat all) : satB all = false := by cases e : satB all with | false => rfl | true => exact absurd (satB_t.1 e) h
theorem satB_of {all : List Bd} {b : Bool} (h : b = true ↔ Sat all) : b = satB all := by
  cases b with
  | true => exact (satB_yes (h.1 rfl)).symm
  | false => exact (satB_no fun e => by have := h.2 e; cases this).symm
def BRes (all : List Bd) (n : Nat) (i j c : Int) (ok : Bool) : Prop :=
  (¬ ((0 ≤ i ∧ i ≤ n) ∧ (0 ≤ j ∧ j ≤ n) ∧ Sat all) ∧ c = 0 ∧ ok = false) ∨ ((0 ≤ i ∧ i ≤ n) ∧ (0 ≤ j ∧ j ≤ n) ∧ Sat all ∧ BR all i j c ok)
theorem BRes.uniq {all : List Bd} {n : Nat} {i j c c' : Int} {ok ok' : Bool} (h : BRes all n i j c ok) (h' : BRes all n i j c' ok') : c = c' ∧ ok = ok' := by
  rcases h with ⟨h1, h2, h3⟩ | ⟨h1, h2, h3, h4⟩ <;> rcases h' with ⟨g1, g2, g3⟩ | ⟨g1, g2, g3, g4⟩
  · exact ⟨by rw [h2, g2], by rw [h3, g3]⟩
  · exact absurd ⟨g1, g2, g3⟩ h1
  · exact absurd ⟨h1, h2, h3⟩ g1
  · exact h4.uniq g4
theorem em3 (p q r : Prop) : ¬ p ∨ (p ∧ ¬ q) ∨ (p ∧ q ∧ ¬ r) ∨ (p ∧ q ∧ r) := by
  by_cases h1 : p <;> by_cases h2 : q <;> by_cases h3 : r <;> simp_all
end Go.Proofs.Ytkpacejikoengaa.M

/- The reference: values lowered in place. Plain laws, no program. -/
namespace Go.Proofs.Ytkpacejikoengaa.M
set_option linter.unusedVariables false
def xf (xs : List Int) (v : Int) : Int := xs.getD v.toNat 0
theorem xf_get {xs : List Int} {v : Int} (h : v.toNat < xs.length) : xf xs v = xs[v.toNat] := by
  unfold xf; rw [List.getD_eq_getElem?_getD, List.getElem?_eq_getElem h]; rfl
theorem xf_set {xs : List Int} {u v a : Int} (hv : 0 ≤ v) (hu : 0 ≤ u) (h : u.toNat < xs.length) : xf (xs.set u.toNat a) v = if v = u then a else xf xs v := by
  unfold xf
  simp only [List.getD_eq_getElem?_getD, List.getElem?_set]
  by_cases e : v = u
  · subst e; rw [if_pos rfl, if_pos h, if_pos rfl]; rfl
  · rw [if_neg (by omega), if_neg e]
theorem xf_neg {xs : List Int} {v : Int} (hv : v < 0) : xf xs v = xf xs 0 := by unfold xf; rw [show v.toNat = 0 by omega]; rfl
/-- all positions name all bounds -/
theorem all_ts (l : List Bd) : (∀ v ∈ (List.range l.length).map (fun k : Nat => (k : Int)), 0 ≤ v ∧ v < l.length) ∧ ∀ b ∈ l, ∃ v ∈ (List.range l.length).map (fun k : Nat => (k : Int)), (bd l v.toNat).i = b.i ∧ (bd l v.toNat).j = b.j ∧ (bd l v.toNat).c ≤ b.c := by
  refine ⟨fun v hv => ?_, fun b hb => ?_⟩
  · obtain ⟨k, h1, rfl⟩ := List.mem_map.1 hv
    have := List.mem_range.1 h1
    omega
  · obtain ⟨k, h1, rfl⟩ := List.getElem_of_mem hb
    refine ⟨(k : Int), List.mem_map.2 ⟨k, List.mem_range.2 h1, rfl⟩, ?_⟩
    have : bd l ((k : Nat) : Int).toNat = l[k] := getD_get h1
    rw [this]; exact ⟨rfl, rfl, Int.le_refl _⟩
theorem lev_ex {l : List Bd} {n : Nat} (hok : ∀ b ∈ l, OkB n b) (fr : Int) : ∃ ls, Levels l n (fun v => decide (fr < 0) || decide (v = fr)) ls :=
  ⟨_, (Pre.ex hok (all_ts l).1 (all_ts l).2 (n + 1)).levels⟩
theorem bdl {l : List Bd} {k : Nat} (h : k < l.length) : bd l k = l[k] := getD_get h

/-! ### Solution -/
/-- at the start of a round -/
structure OR (l : List Bd) (n : Nat) (U : Int → Wk) (xs : List Int) (T : Nat) : Prop where
  len : xs.length = n + 1
  le : ∀ v : Int, 0 ≤ v → v ≤ n → xf xs v ≤ (U v).w
  ge : ∀ s, Sol l s → (∀ v : Int, 0 ≤ v → v ≤ n → s v ≤ 0) → ∀ v : Int, 0 ≤ v → v ≤ n → s v ≤ xf xs v
  sm : ∀ v, -(1125899906842624 * (T : Int)) ≤ xf xs v ∧ xf xs v ≤ 0
/-- within a round -/
structure SR (l : List Bd) (n : Nat) (U : Int → Wk) (x0 xs : List Int) (ch : Bool) (p T : Nat) : Prop extends OR l n U xs T where
  low : ∀ q (hq : q < l.length), q < p → xf xs l[q].i ≤ (U l[q].j).w + l[q].c
  un : ch = false → ∀ q (hq : q < l.length), q < p → xf xs l[q].i ≤ xf xs l[q].j + l[q].c
  same : (∀ b ∈ l, xf x0 b.i ≤ xf x0 b.j + b.c) → ch = false ∧ xs = x0
section
variable {l : List Bd} {n : Nat} {U : Int → Wk} {x0 xs : List Int} {ch : Bool} {p T : Nat}
theorem SR.start (h : OR l n U xs T) : SR l n U xs xs false 0 T := ⟨h, fun q _ hq => absurd hq (Nat.not_lt_zero q), fun _ q _ hq => absurd hq (Nat.not_lt_zero q), fun _ => ⟨rfl, rfl⟩⟩
theorem OR.more (h : OR l n U xs T) {T' : Nat} (ht : T ≤ T') : OR l n U xs T' := ⟨h.len, h.le, h.ge, fun v => ⟨by have := (h.sm v).1; omega, (h.sm v).2⟩⟩
theorem SR.relax (h : SR l n U x0 xs ch p T) (hok : ∀ b ∈ l, OkB n b) (hp : p < l.length) (hc : xf xs l[p].j + l[p].c < xf xs l[p].i) :
    SR l n U x0 (xs.set l[p].i.toNat (xf xs l[p].j + l[p].c)) true (p + 1) (T + 1) := by
  have ho := hok _ (List.getElem_mem hp)
  have hlen := h.len
  have hu : l[p].i.toNat < xs.length := by have := ho.1; have := ho.2.1; omega
  have es : ∀ v, 0 ≤ v → xf (xs.set l[p].i.toNat (xf xs l[p].j + l[p].c)) v = if v = l[p].i then xf xs l[p].j + l[p].c else xf xs v := fun v hv => xf_set hv ho.1 hu
  have hle := h.le
  refine ⟨⟨by simpa using hlen, fun v h0 h1 => ?_, fun s hs hz v h0 h1 => ?_, fun v => ?_⟩, fun q hq hqp => ?_, fun e => (by cases e), fun hs => ?_⟩
  · rw [es v h0]
    split
    · rename_i e; subst e; have := hle _ h0 h1; omega
    · exact hle v h0 h1
  · rw [es v h0]
    split
    · rename_i e
      subst e
      have h2 := hs _ (List.getElem_mem hp)
      have h3 := h.ge s hs hz l[p].j ho.2.2.1 ho.2.2.2.1
      omega
    · exact h.ge s hs hz v h0 h1
  · have key : ∀ v, 0 ≤ v → -(1125899906842624 * ((T + 1 : Nat) : Int)) ≤ xf (xs.set l[p].i.toNat (xf xs l[p].j + l[p].c)) v ∧ xf (xs.set l[p].i.toNat (xf xs l[p].j + l[p].c)) v ≤ 0 := fun v hv => by
      rw [es v hv]
      split
      · have h1 := h.sm l[p].j
        have h2 := h.sm l[p].i
        have h3 := ho.2.2.2.2.1
        exact ⟨by have := h1.1; omega, by have := h2.2; omega⟩
      · have h1 := h.sm v
        exact ⟨by have := h1.1; omega, h1.2⟩
    by_cases hv : 0 ≤ v
    · exact key v hv
    · rw [xf_neg (by omega)]; exact key 0 (by omega)
  · have hoq := hok _ (List.getElem_mem hq)
    rw [es _ hoq.1]
    have hj := hle l[p].j ho.2.2.1 ho.2.2.2.1
    split
    · rename_i e
      by_cases e2 : q = p
      · subst e2; omega
      · have := h.low q hq (by omega)
        rw [e] at this; omega
    · rename_i e
      by_cases e2 : q = p
      · subst e2; exact absurd rfl e
      · exact h.low q hq (by omega)
  · obtain ⟨_, h2⟩ := h.same hs
    subst h2
    have := hs _ (List.getElem_mem hp)
    omega
theorem SR.skip (h : SR l n U x0 xs ch p T) (hok : ∀ b ∈ l, OkB n b) (hp : p < l.length) (hc : ¬ xf xs l[p].j + l[p].c < xf xs l[p].i) : SR l n U x0 xs ch (p + 1) (T + 1) := by
  have ho := hok _ (List.getElem_mem hp)
  refine ⟨h.toOR.more (by omega), fun q hq hqp => ?_, fun e q hq hqp => ?_, h.same⟩
  · by_cases e2 : q = p
    · subst e2
      have := h.le l[q].j ho.2.2.1 ho.2.2.2.1
      omega
    · exact h.low q hq (by omega)
  · by_cases e2 : q = p
    · subst e2; omega
    · exact h.un e q hq (by omega)
/-- a round lowers to the next level -/
theorem SR.next {ls : List (List Wk)} {r : Nat} (h : SR l n (W ls r) x0 xs ch l.length T) (hst : Step l n (ls.getD r []) (ls.getD (r + 1) [])) : OR l n (W ls (r + 1)) xs T :=
  ⟨h.len, fun v h0 h1 => by
    rcases hst.two v h0 h1 with ⟨_, _, h2⟩ | ⟨k, h2, h3, _, h4, _⟩
    · show _ ≤ (at' _ v).w; rw [h2]; exact h.le v h0 h1
    · have := h.low k h2 h2
      rw [← getD_get (d := ⟨0, 0, 0⟩) h2, h3] at this
      show _ ≤ (at' _ v).w; rw [h4]; exact this, h.ge, h.sm⟩
theorem SR.yes (h : SR l n U x0 xs false l.length T) : Sat l := ⟨xf xs, fun b hb => by
  obtain ⟨q, hq, rfl⟩ := List.getElem_of_mem hb
  have := h.un rfl q hq hq
  omega⟩
theorem SR.no {ls : List (List Wk)} (hL : Levels l n (fun _ => true) ls) (hok : ∀ b ∈ l, OkB n b) (h0 : OR l n (W ls (n + 1)) x0 T) {T' : Nat} (h : SR l n U x0 xs true l.length T') : ¬ Sat l := fun hs => by
  have hst : ∀ v : Int, 0 ≤ v → v ≤ n → (W ls (n + 1) v).last = -1 := fun v g0 g1 => hL.still hok hs g0 g1
  have hsol := hL.sat hok hst
  have hz : ∀ v : Int, 0 ≤ v → v ≤ n → (W ls (n + 1) v).w ≤ 0 := fun v g0 g1 => by
    have h1 := hL.zero v g0 g1
    have h2 := hL.known g0 g1 (t := 0) (u := n + 1) (by omega) (by omega) (by show (at' (ls.getD 0 []) v).known = true; rw [h1])
    have h3 := h2.2
    have h4 : (W ls 0 v).w = 0 := by show (at' (ls.getD 0 []) v).w = 0; rw [h1]
    omega
  have heq : ∀ v : Int, 0 ≤ v → v ≤ n → xf x0 v = (W ls (n + 1) v).w := fun v g0 g1 => by
    have h1 := h0.le v g0 g1
    have h2 := h0.ge _ hsol hz v g0 g1
    omega
  have := h.same fun b hb => by
    have ho := hok b hb
    have h3 : (W ls (n + 1) b.i).w - (W ls (n + 1) b.j).w ≤ b.c := hsol b hb
    rw [heq _ ho.1 ho.2.1, heq _ ho.2.2.1 ho.2.2.2.1]
    omega
  cases this.1
theorem OR.start {ls : List (List Wk)} (hL : Levels l n (fun _ => true) ls) : OR l n (W ls 0) (List.replicate (n + 1) 0) 0 := by
  have hx : ∀ v, xf (List.replicate (n + 1) 0) v = 0 := fun v => by
    unfold xf; rw [List.getD_eq_getElem?_getD, List.getElem?_replicate]; split <;> rfl
  refine ⟨by simp, fun v h0 h1 => ?_, fun s hs hz v h0 h1 => ?_, fun v => ?_⟩
  · rw [hx]
    have := hL.zero v h0 h1
    show 0 ≤ (at' (ls.getD 0 []) v).w
    rw [this]; exact Int.le_refl _
  · rw [hx]; exact hz v h0 h1
  · rw [hx]; omega
end

/-! ### Greatest -/
def kf (ks : List Bool) (v : Int) : Bool := ks.getD v.toNat false
theorem kf_get {xs : List Bool} {v : Int} (h : v.toNat < xs.length) : kf xs v = xs[v.toNat] := by
  unfold kf; rw [List.getD_eq_getElem?_getD, List.getElem?_eq_getElem h]; rfl
theorem kf_set {xs : List Bool} {u v : Int} {a : Bool} (hv : 0 ≤ v) (hu : 0 ≤ u) (h : u.toNat < xs.length) : kf (xs.set u.toNat a) v = if v = u then a else kf xs v := by
  unfold kf
  simp only [List.getD_eq_getElem?_getD, List.getElem?_set]
  by_cases e : v = u
  · subst e; rw [if_pos rfl, if_pos h, if_pos rfl]; rfl
  · rw [if_neg (by omega), if_neg e]
structure GR (l : List Bd) (n : Nat) (j : Int) (U : Int → Wk) (ks : List Bool) (xs : List Int) (p T : Nat) : Prop where
  len : xs.length = n + 1
  klen : ks.length = n + 1
  le : ∀ v : Int, 0 ≤ v → v ≤ n → (U v).known = true → kf ks v = true ∧ xf xs v ≤ (U v).w
  low : ∀ q (hq : q < l.length), q < p → (U l[q].j).known = true → kf ks l[q].i = true ∧ xf xs l[q].i ≤ (U l[q].j).w + l[q].c
  up : ∀ s, Sol l s → ∀ v : Int, 0 ≤ v → v ≤ n → kf ks v = true → s v - s j ≤ xf xs v
  sm : ∀ v, -(1125899906842624 * (T : Int)) ≤ xf xs v ∧ xf xs v ≤ 1125899906842624 * (T : Int)
section
variable {l : List Bd} {n : Nat} {j : Int} {U : Int → Wk} {ks : List Bool} {xs : List Int} {p T : Nat}
theorem GR.relax (h : GR l n j U ks xs p T) (hok : ∀ b ∈ l, OkB n b) (hp : p < l.length) (hk : kf ks l[p].j = true) (hc : kf ks l[p].i = true → xf xs l[p].j + l[p].c < xf xs l[p].i) :
    GR l n j U (ks.set l[p].i.toNat true) (xs.set l[p].i.toNat (xf xs l[p].j + l[p].c)) (p + 1) (T + 1) := by
  have ho := hok _ (List.getElem_mem hp)
  have hlen := h.len
  have hklen := h.klen
  have hu : l[p].i.toNat < xs.length := by have := ho.1; have := ho.2.1; omega
  have es : ∀ v, 0 ≤ v → xf (xs.set l[p].i.toNat (xf xs l[p].j + l[p].c)) v = if v = l[p].i then xf xs l[p].j + l[p].c else xf xs v := fun v hv => xf_set hv ho.1 hu
  have ek : ∀ v, 0 ≤ v → kf (ks.set l[p].i.toNat true) v = if v = l[p].i then true else kf ks v := fun v hv => kf_set hv ho.1 (by omega)
  refine ⟨by simpa using hlen, by simpa using hklen, fun v h0 h1 hkn => ?_, fun q hq hqp hkn => ?_, fun s hs v h0 h1 hkv => ?_, fun v => ?_⟩
  · rw [es v h0, ek v h0]
    have := h.le v h0 h1 hkn
    split
    · rename_i e; subst e; have := hc this.1; exact ⟨rfl, by omega⟩
    · exact this
  · have hoq := hok _ (List.getElem_mem hq)
    rw [es _ hoq.1, ek _ hoq.1]
    split
    · rename_i e
      refine ⟨rfl, ?_⟩
      by_cases e2 : q = p
      · subst e2
        have := h.le _ ho.2.2.1 ho.2.2.2.1 hkn
        omega
      · have h3 := h.low q hq (by omega) hkn
        rw [e] at h3
        have := hc h3.1
        omega
    · rename_i e
      by_cases e2 : q = p
      · subst e2; exact absurd rfl e
      · exact h.low q hq (by omega) hkn
  · rw [ek v h0] at hkv
    rw [es v h0]
    split
    · rename_i e
      subst e
      have h2 := hs _ (List.getElem_mem hp)
      have h3 := h.up s hs l[p].j ho.2.2.1 ho.2.2.2.1 hk
      omega
    · rename_i e
      rw [if_neg e] at hkv
      exact h.up s hs v h0 h1 hkv
  · have key : ∀ v, 0 ≤ v → -(1125899906842624 * ((T + 1 : Nat) : Int)) ≤ xf (xs.set l[p].i.toNat (xf xs l[p].j + l[p].c)) v ∧ xf (xs.set l[p].i.toNat (xf xs l[p].j + l[p].c)) v ≤ 1125899906842624 * ((T + 1 : Nat) : Int) := fun v hv => by
      rw [es v hv]
      split
      · have h1 := h.sm l[p].j
        have h3 := ho.2.2.2.2.1
        have h4 := ho.2.2.2.2.2
        exact ⟨by have := h1.1; omega, by have := h1.2; omega⟩
      · have h1 := h.sm v
        exact ⟨by have := h1.1; omega, by have := h1.2; omega⟩
    by_cases hv : 0 ≤ v
    · exact key v hv
    · rw [xf_neg (by omega)]; exact key 0 (by omega)
theorem GR.skip (h : GR l n j U ks xs p T) (hok : ∀ b ∈ l, OkB n b) (hp : p < l.length) (hc : kf ks l[p].j = true → kf ks l[p].i = true ∧ xf xs l[p].i ≤ xf xs l[p].j + l[p].c) : GR l n j U ks xs (p + 1) (T + 1) := by
  have ho := hok _ (List.getElem_mem hp)
  refine ⟨h.len, h.klen, h.le, fun q hq hqp hkn => ?_, h.up, fun v => ⟨by have := (h.sm v).1; omega, by have := (h.sm v).2; omega⟩⟩
  by_cases e2 : q = p
  · subst e2
    have h1 := h.le l[q].j ho.2.2.1 ho.2.2.2.1 hkn
    have h2 := hc h1.1
    exact ⟨h2.1, by omega⟩
  · exact h.low q hq (by omega) hkn
theorem GR.next {ls : List (List Wk)} {r : Nat} (h : GR l n j (W ls r) ks xs l.length T) (hst : Step l n (ls.getD r []) (ls.getD (r + 1) [])) : GR l n j (W ls (r + 1)) ks xs 0 T :=
  ⟨h.len, h.klen, fun v h0 h1 hkn => by
    have hkn : (at' (ls.getD (r + 1) []) v).known = true := hkn
    rcases hst.two v h0 h1 with ⟨_, h3, h2⟩ | ⟨k, h2, h3, h5, h4, _⟩
    · show _ ∧ _ ≤ (at' _ v).w; rw [h2]; exact h.le v h0 h1 (by rw [h3] at hkn; exact hkn)
    · have := h.low k h2 h2 (by rw [← getD_get (d := ⟨0, 0, 0⟩) h2]; exact h5)
      rw [← getD_get (d := ⟨0, 0, 0⟩) h2, h3] at this
      show _ ∧ _ ≤ (at' _ v).w; rw [h4]; exact this, fun q _ hq => absurd hq (Nat.not_lt_zero q), h.up, h.sm⟩
theorem GR.more (h : GR l n j U ks xs p T) {U' : Int → Wk} (hU : ∀ v : Int, 0 ≤ v → v ≤ n → (U' v).known = true → (U v).known = true ∧ (U v).w ≤ (U' v).w) : GR l n j U' ks xs 0 T :=
  ⟨h.len, h.klen, fun v h0 h1 hk => by
    obtain ⟨h2, h3⟩ := hU v h0 h1 hk
    have := h.le v h0 h1 h2
    exact ⟨this.1, by omega⟩, fun q _ hq => absurd hq (Nat.not_lt_zero q), h.up, h.sm⟩
theorem GR.start {ls : List (List Wk)} (hj0 : 0 ≤ j) (hj1 : j ≤ n) (hL : Levels l n (fun v => decide (v = j)) ls) : GR l n j (W ls 0) ((List.replicate (n + 1) false).set j.toNat true) (List.replicate (n + 1) 0) 0 0 := by
  have hx : ∀ v, xf (List.replicate (n + 1) 0) v = 0 := fun v => by
    unfold xf; rw [List.getD_eq_getElem?_getD, List.getElem?_replicate]; split <;> rfl
  have hk : ∀ v : Int, 0 ≤ v → kf ((List.replicate (n + 1) false).set j.toNat true) v = decide (v = j) := fun v hv => by
    rw [kf_set hv hj0 (by simp; omega)]
    by_cases e : v = j
    · rw [if_pos e]; simp [e]
    · rw [if_neg e]; unfold kf; rw [List.getD_eq_getElem?_getD, List.getElem?_replicate]; split <;> simp [e]
  refine ⟨by simp, by simp, fun v h0 h1 hkn => ?_, fun q _ hq => absurd hq (Nat.not_lt_zero q), fun s hs v h0 h1 hkv => ?_, fun v => by rw [hx]; omega⟩
  · have h2 := hL.zero v h0 h1
    have hkn : (at' (ls.getD 0 []) v).known = true := hkn
    rw [h2] at hkn
    rw [hx, hk v h0]
    exact ⟨hkn, by show 0 ≤ (at' (ls.getD 0 []) v).w; rw [h2]; exact Int.le_refl _⟩
  · rw [hk v h0] at hkv
    have := of_decide_eq_true hkv
    subst this
    rw [hx]; omega
/-- after the rounds the values are the greatest -/
theorem GR.done {ls : List (List Wk)} {i : Int} (h : GR l n j (W ls (n + 1)) ks xs p T) (hs : Sat l) (hok : ∀ b ∈ l, OkB n b) (hj0 : 0 ≤ j) (hj1 : j ≤ n) (h0 : 0 ≤ i) (h1 : i ≤ n) (hL : Levels l n (fun v => decide (v = j)) ls) :
    BR l i j (if kf ks i = true then xf xs i else 0) (kf ks i) := by
  have hb := hL.br hs hj0 hj1 hok h0 h1
  have hle := h.le i h0 h1
  cases hk : (W ls (n + 1) i).known with
  | true =>
    rw [hk, if_pos rfl] at hb
    obtain ⟨h2, h3⟩ := hle hk
    rw [h2, if_pos rfl]
    have : xf xs i = (W ls (n + 1) i).w := by
      rcases hb with ⟨_, ⟨x, h5, h6⟩, _⟩ | ⟨h5, _⟩
      · have := h.up x h5 i h0 h1 h2; omega
      · cases h5
    rw [this]; exact hb
  | false =>
    rw [hk, if_neg (by simp)] at hb
    cases hkf : kf ks i with
    | false => rw [if_neg (by simp)]; exact hb
    | true =>
      rcases hb with ⟨h5, _⟩ | ⟨_, _, h5⟩
      · cases h5
      · obtain ⟨x, h6, h7⟩ := h5 (xf xs i)
        have := h.up x h6 i h0 h1 hkf
        omega
end
end Go.Proofs.Ytkpacejikoengaa.M

/- Chains. Plain laws, no program. -/
namespace Go.Proofs.Ytkpacejikoengaa.M
set_option linter.unusedVariables false
def chB : Nat → List Int → List Bd
  | _, [] => []
  | s, c :: cs => ⟨(s : Nat), (s + 1 : Nat), c⟩ :: chB (s + 1) cs
theorem chB_len : ∀ (cs : List Int) (s : Nat), (chB s cs).length = cs.length
  | [], _ => rfl
  | c :: cs, s => by simp [chB, chB_len cs]
theorem chB_snoc (c : Int) : ∀ (cs : List Int) (s : Nat), chB s (cs ++ [c]) = chB s cs ++ [⟨(s + cs.length : Nat), (s + cs.length + 1 : Nat), c⟩]
  | [], s => rfl
  | a :: cs, s => by
    simp only [List.cons_append, chB, chB_snoc c cs, List.length_cons]
    rw [show s + 1 + cs.length = s + (cs.length + 1) by omega]
theorem chB_get : ∀ (cs : List Int) (s k : Nat) (h : k < cs.length), (chB s cs)[k]'(by rw [chB_len]; exact h) = ⟨(s + k : Nat), (s + k + 1 : Nat), cs[k]⟩
  | [], s, k, h => by simp at h
  | c :: cs, s, 0, h => rfl
  | c :: cs, s, k + 1, h => by
    have := chB_get cs (s + 1) k (by simpa using h)
    simp only [chB, List.getElem_cons_succ]
    rw [this, show s + 1 + k = s + (k + 1) by omega]
theorem chB_sum {x : Int → Int} : ∀ (cs : List Int) (s : Nat), Sol (chB s cs) x → x (s : Nat) - x (s + cs.length : Nat) ≤ cs.sum
  | [], s, _ => by simp
  | c :: cs, s, h => by
    have h1 := h ⟨(s : Nat), (s + 1 : Nat), c⟩ (by simp [chB])
    have h2 := chB_sum cs (s + 1) fun b hb => h b (by simp [chB, hb])
    simp only [List.sum_cons, List.length_cons]
    rw [show s + 1 + cs.length = s + (cs.length + 1) by omega] at h2
    have h1 : x (s : Nat) - x (s + 1 : Nat) ≤ c := h1
    omega
def chX (cs : List Int) (v : Int) : Int := -(cs.take v.toNat).sum
theorem chB_sol (cs : List Int) : Sol (chB 0 cs) (chX cs) := fun b hb => by
  obtain ⟨k, hk, rfl⟩ := List.getElem_of_mem hb
  rw [chB_len] at hk
  rw [chB_get cs 0 k hk]
  show chX cs ((0 + k : Nat) : Int) - chX cs ((0 + k + 1 : Nat) : Int) ≤ cs[k]
  unfold chX
  rw [show ((0 + k : Nat) : Int).toNat = k by omega, show ((0 + k + 1 : Nat) : Int).toNat = k + 1 by omega, List.take_add_one, List.getElem?_eq_getElem hk, M.sum_append]
  simp; omega
theorem chB_br (cs : List Int) : BR (chB 0 cs) 0 (cs.length : Nat) cs.sum true := by
  refine .inl ⟨rfl, ⟨_, chB_sol cs, ?_⟩, fun x hx => ?_⟩
  · unfold chX; simp
  · have := chB_sum cs 0 hx; simpa using this
theorem chB_unsat (cs : List Int) : ¬ Sat (chB 0 cs ++ [⟨(cs.length : Nat), 0, -cs.sum - 1⟩]) := by
  rintro ⟨x, hx⟩
  have h1 := chB_sum cs 0 (hx.sub fun b hb => by simp [hb])
  have h2 := hx ⟨(cs.length : Nat), 0, -cs.sum - 1⟩ (by simp)
  have h2 : x (cs.length : Nat) - x 0 ≤ -cs.sum - 1 := h2
  simp only [Nat.zero_add] at h1
  have h1 : x 0 - x (cs.length : Nat) ≤ cs.sum := h1
  omega
/-- a cycle of bounds each of which leads to the next is all of them -/
theorem ring_len {all : List Bd} {n : Nat} (hl : all.length = n + 1) (hi : ∀ k, k < n + 1 → (all.getD k ⟨0, 0, 0⟩).i = (k : Nat) ∧ (all.getD k ⟨0, 0, 0⟩).j = ((k + 1) % (n + 1) : Nat)) {cs : List Nat} (h : NegCyc all cs) : cs.length = n + 1 := by
  have hpos : 0 < cs.length := by have := h.ne; cases cs with | nil => exact absurd rfl this | cons => simp
  have hlt : ∀ t (ht : t < cs.length), cs[t] < n + 1 := fun t ht => by have := h.lt cs[t] (List.getElem_mem ht); omega
  have hstep : ∀ t (ht : t < cs.length), cs[(t + 1) % cs.length]'(Nat.mod_lt _ hpos) = (cs[t] + 1) % (n + 1) := fun t ht => by
    have := h.next t ht
    rw [(hi _ (hlt t ht)).2, (hi _ (hlt _ (Nat.mod_lt _ hpos))).1] at this
    omega
  have hall : ∀ t (ht : t < cs.length), cs[t] = (cs[0] + t) % (n + 1) := fun t => by
    induction t with
    | zero => intro ht; rw [Nat.add_zero, Nat.mod_eq_of_lt (hlt 0 ht)]
    | succ t ih =>
      intro ht
      have h1 := hstep t (by omega)
      have h2 : (t + 1) % cs.length = t + 1 := Nat.mod_eq_of_lt ht
      simp only [h2] at h1
      rw [h1, ih (by omega), Nat.mod_add_mod, Nat.add_assoc]
  have hlast : cs[0] = (cs[0] + cs.length) % (n + 1) := by
    have h1 := hstep (cs.length - 1) (by omega)
    have h2 : (cs.length - 1 + 1) % cs.length = 0 := by rw [show cs.length - 1 + 1 = cs.length by omega, Nat.mod_self]
    simp only [h2] at h1
    have h3 := hall (cs.length - 1) (by omega)
    have h4 : (cs[cs.length - 1] + 1) % (n + 1) = (cs[0] + cs.length) % (n + 1) := by
      rw [h3, Nat.mod_add_mod, show cs[0] + (cs.length - 1) + 1 = cs[0] + cs.length by omega]
    exact h1.trans h4
  have hge : n + 1 ≤ cs.length := by
    have h0 := hlt 0 hpos
    by_cases e : cs.length < n + 1
    · by_cases e2 : cs[0] + cs.length < n + 1
      · rw [Nat.mod_eq_of_lt e2] at hlast; omega
      · rw [Nat.mod_eq_sub_mod (by omega), Nat.mod_eq_of_lt (by omega)] at hlast; omega
    · omega
  have hnd : cs.Nodup := by
    have := h.nodup
    exact (List.pairwise_map.1 this).imp fun hne e => hne (by rw [e])
  have hle : cs.length ≤ (List.range (n + 1)).length := len_sub cs (List.range (n + 1)) hnd fun k hk => List.mem_range.2 (by have := h.lt k hk; omega)
  simp at hle
  omega
theorem chB_ring (cs : List Int) (c : Int) : ∀ k, k < cs.length + 1 → ((chB 0 cs ++ [(⟨(cs.length : Nat), 0, c⟩ : Bd)]).getD k ⟨0, 0, 0⟩).i = (k : Nat) ∧ ((chB 0 cs ++ [(⟨(cs.length : Nat), 0, c⟩ : Bd)]).getD k ⟨0, 0, 0⟩).j = ((k + 1) % (cs.length + 1) : Nat) := fun k hk => by
  rw [getD_snoc, chB_len]
  by_cases e : k < cs.length
  · rw [if_pos e, getD_get (by rw [chB_len]; exact e), chB_get cs 0 k e, Nat.mod_eq_of_lt (by omega)]
    simp
  · have : k = cs.length := by omega
    subst this
    rw [if_neg e, if_pos rfl]
    simp
end Go.Proofs.Ytkpacejikoengaa.M
