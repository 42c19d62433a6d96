/- Systems of difference bounds: solutions, greatest values, negative cycles. Plain laws, no program. -/
import Derived.KernelRfl
namespace Go.Proofs.Ytkpacejikoengaa.M
set_option linter.unusedVariables false
structure Bd where
  i : Int
  j : Int
  c : Int
  deriving DecidableEq
def Sol (all : List Bd) (x : Int → Int) : Prop := ∀ b ∈ all, x b.i - x b.j ≤ b.c
def Sat (all : List Bd) : Prop := ∃ x, Sol all x
/-- what the greatest value of a difference is -/
def BR (all : List Bd) (i j c : Int) (ok : Bool) : Prop :=
  (ok = true ∧ (∃ x, Sol all x ∧ x i - x j = c) ∧ ∀ x, Sol all x → x i - x j ≤ c) ∨ (ok = false ∧ c = 0 ∧ ∀ M : Int, ∃ x, Sol all x ∧ M < x i - x j)
theorem BR.uniq {all : List Bd} {i j c c' : Int} {ok ok' : Bool} (h : BR all i j c ok) (h' : BR all i j c' ok') : c = c' ∧ ok = ok' := by
  rcases h with ⟨h1, ⟨x, h2, h3⟩, h4⟩ | ⟨h1, h2, h3⟩ <;> rcases h' with ⟨g1, ⟨y, g2, g3⟩, g4⟩ | ⟨g1, g2, g3⟩
  · have := g4 x h2; have := h4 y g2; exact ⟨by omega, by rw [h1, g1]⟩
  · obtain ⟨y, g4, g5⟩ := g3 c; have := h4 y g4; omega
  · obtain ⟨y, h4, h5⟩ := h3 c'; have := g4 y h4; omega
  · exact ⟨by rw [h2, g2], by rw [h1, g1]⟩
theorem Sol.sub {a b : List Bd} {x : Int → Int} (h : Sol b x) (hs : ∀ y ∈ a, y ∈ b) : Sol a x := fun y hy => h y (hs y hy)
/-- values that no bound lowers any more are the greatest differences to a variable -/
theorem br_of_fix {all : List Bd} (hs : Sat all) (kn : Int → Bool) (d : Int → Int) (i j : Int) (hj : kn j = true ∧ d j ≤ 0)
    (fix : ∀ b ∈ all, kn b.j = true → kn b.i = true ∧ d b.i ≤ d b.j + b.c) (up : ∀ x, Sol all x → ∀ v, kn v = true → x v - x j ≤ d v) :
    BR all i j (if kn i = true then d i else 0) (kn i) := by
  obtain ⟨s, hs⟩ := hs
  have hdj : d j = 0 := by have := up s hs j hj.1; omega
  -- great enough a shift for the variables that are not reached
  obtain ⟨K0, hK0⟩ : ∃ K0 : Int, ∀ b ∈ all, d b.i - s b.j - b.c ≤ K0 := by
    clear fix hs up
    induction all with
    | nil => exact ⟨0, fun b hb => by simp at hb⟩
    | cons b l ih =>
      obtain ⟨K, hK⟩ := ih
      refine ⟨max K (d b.i - s b.j - b.c), fun b' hb' => ?_⟩
      rcases List.mem_cons.1 hb' with rfl | hb'
      · omega
      · have := hK b' hb'; omega
  have sol : ∀ K, K0 ≤ K → Sol all fun v => if kn v = true then d v else s v + K := fun K hK b hb => by
    have h1 := hK0 b hb
    have h2 := hs b hb
    by_cases kj : kn b.j = true
    · obtain ⟨h3, h4⟩ := fix b hb kj
      show (if kn b.i = true then d b.i else s b.i + K) - (if kn b.j = true then d b.j else s b.j + K) ≤ b.c
      rw [if_pos kj, if_pos h3]; omega
    · show (if kn b.i = true then d b.i else s b.i + K) - (if kn b.j = true then d b.j else s b.j + K) ≤ b.c
      rw [if_neg kj]
      by_cases ki : kn b.i = true
      · rw [if_pos ki]; omega
      · rw [if_neg ki]; omega
  by_cases ki : kn i = true
  · rw [if_pos ki]
    exact .inl ⟨ki, ⟨_, sol K0 (Int.le_refl _), by show (if kn i = true then d i else _) - (if kn j = true then d j else _) = d i; rw [if_pos ki, if_pos hj.1]; omega⟩, fun x hx => up x hx i ki⟩
  · rw [if_neg ki]
    refine .inr ⟨by simpa using ki, rfl, fun M => ⟨_, sol (max K0 (M - s i + 1)) (by omega), ?_⟩⟩
    show M < (if kn i = true then d i else s i + max K0 (M - s i + 1)) - (if kn j = true then d j else _)
    rw [if_neg ki, if_pos hj.1]; omega

/-! ### negative cycles -/
structure NegCyc (all : List Bd) (cs : List Nat) : Prop where
  ne : cs ≠ []
  lt : ∀ k ∈ cs, k < all.length
  next : ∀ (t : Nat) (h : t < cs.length), (all.getD cs[t] ⟨0, 0, 0⟩).j = (all.getD (cs[(t + 1) % cs.length]'(Nat.mod_lt _ (by omega))) ⟨0, 0, 0⟩).i
  nodup : (cs.map fun k => (all.getD k ⟨0, 0, 0⟩).i).Nodup
  neg : (cs.map fun k => (all.getD k ⟨0, 0, 0⟩).c).sum < 0
theorem sum_le {l : List Nat} {f g : Nat → Int} (h : ∀ k ∈ l, f k ≤ g k) : (l.map f).sum ≤ (l.map g).sum := by
  induction l with
  | nil => simp
  | cons a l ih =>
    have h1 := h a (by simp)
    have h2 := ih fun k hk => h k (by simp [hk])
    simp only [List.map_cons, List.sum_cons]; omega
theorem sum_sub {l : List Nat} {f g : Nat → Int} : (l.map fun k => f k - g k).sum = (l.map f).sum - (l.map g).sum := by
  induction l with
  | nil => simp
  | cons a l ih => simp only [List.map_cons, List.sum_cons, ih]; omega
theorem sum_append (a b : List Int) : (a ++ b).sum = a.sum + b.sum := by
  induction a with
  | nil => simp
  | cons x a ih => simp [ih]; omega
/-- a list turned by one place has the same sum -/
theorem sum_turn {l : List Int} : ∀ {r : List Int}, (∀ (t : Nat) (h : t < l.length), r[t]? = l[(t + 1) % l.length]?) → r.length = l.length → r.sum = l.sum := by
  intro r h hl
  cases l with
  | nil => have : r = [] := List.length_eq_zero_iff.1 hl; rw [this]
  | cons a l =>
    have : r = l ++ [a] := by
      apply List.ext_getElem?
      intro t
      by_cases ht : t < (a :: l).length
      · rw [h t ht]
        by_cases h2 : t + 1 < (a :: l).length
        · rw [Nat.mod_eq_of_lt h2, List.getElem?_cons_succ, List.getElem?_append_left (by simpa using h2)]
        · have e : t = l.length := by simp at ht h2; omega
          subst e
          simp
      · rw [List.getElem?_eq_none (by omega), List.getElem?_eq_none (by simp at ht ⊢; omega)]
    rw [this, sum_append]; simp; omega
theorem NegCyc.unsat {all : List Bd} {cs : List Nat} (h : NegCyc all cs) : ¬ Sat all := by
  rintro ⟨x, hx⟩
  have h1 : (cs.map fun k => x (all.getD k ⟨0, 0, 0⟩).i - x (all.getD k ⟨0, 0, 0⟩).j).sum ≤ (cs.map fun k => (all.getD k ⟨0, 0, 0⟩).c).sum := sum_le fun k hk => by
    have hk' := h.lt k hk
    refine hx _ ?_
    rw [List.getD_eq_getElem?_getD, List.getElem?_eq_getElem hk']
    exact List.getElem_mem hk'
  rw [sum_sub (f := fun k => x (all.getD k ⟨0, 0, 0⟩).i) (g := fun k => x (all.getD k ⟨0, 0, 0⟩).j)] at h1
  have h2 : (cs.map fun k => x (all.getD k ⟨0, 0, 0⟩).j).sum = (cs.map fun k => x (all.getD k ⟨0, 0, 0⟩).i).sum := sum_turn (fun t ht => by
    simp only [List.length_map] at ht ⊢
    have hlt : (t + 1) % cs.length < cs.length := Nat.mod_lt _ (by omega)
    rw [List.getElem?_map, List.getElem?_map, List.getElem?_eq_getElem ht, List.getElem?_eq_getElem hlt]
    simp only [Option.map_some]
    rw [h.next t ht]) (by simp)
  have := h.neg
  omega

/-! ### levels of walks -/
structure Wk where
  known : Bool
  w : Int
  last : Int
  deriving DecidableEq, Inhabited
def at' (l : List Wk) (v : Int) : Wk := l.getD v.toNat ⟨false, 0, -1⟩
def OkB (n : Nat) (b : Bd) : Prop := 0 ≤ b.i ∧ b.i ≤ n ∧ 0 ≤ b.j ∧ b.j ≤ n ∧ -1125899906842624 ≤ b.c ∧ b.c ≤ 1125899906842624
structure Step (all : List Bd) (n : Nat) (now next : List Wk) : Prop where
  len : next.length = n + 1
  two : ∀ v : Int, 0 ≤ v → v ≤ n → ((at' next v).last = -1 ∧ (at' next v).known = (at' now v).known ∧ (at' next v).w = (at' now v).w) ∨
    ∃ k : Nat, k < all.length ∧ (all.getD k ⟨0, 0, 0⟩).i = v ∧ (at' now (all.getD k ⟨0, 0, 0⟩).j).known = true ∧ at' next v = ⟨true, (at' now (all.getD k ⟨0, 0, 0⟩).j).w + (all.getD k ⟨0, 0, 0⟩).c, k⟩ ∧ ((at' now v).known = true → (at' next v).w < (at' now v).w)
  low : ∀ b ∈ all, (at' now b.j).known = true → (at' next b.i).known = true ∧ (at' next b.i).w ≤ (at' now b.j).w + b.c
theorem Step.mono {all : List Bd} {n : Nat} {now next : List Wk} (h : Step all n now next) {v : Int} (h0 : 0 ≤ v) (h1 : v ≤ n) (hk : (at' now v).known = true) : (at' next v).known = true ∧ (at' next v).w ≤ (at' now v).w := by
  rcases h.two v h0 h1 with ⟨h2, h3, h4⟩ | ⟨k, h2, h3, h4, h5, h6⟩
  · exact ⟨by rw [h3, hk], by omega⟩
  · have := h6 hk; exact ⟨by rw [h5], by omega⟩
/-- the levels from the first on -/
structure Levels (all : List Bd) (n : Nat) (src : Int → Bool) (ls : List (List Wk)) : Prop where
  len : ls.length = n + 2
  len0 : (ls.getD 0 []).length = n + 1
  zero : ∀ v : Int, 0 ≤ v → v ≤ n → at' (ls.getD 0 []) v = ⟨src v, 0, -1⟩
  step : ∀ t, t < n + 1 → Step all n (ls.getD t []) (ls.getD (t + 1) [])
section
variable {all : List Bd} {n : Nat} {src : Int → Bool} {ls : List (List Wk)}
abbrev W (ls : List (List Wk)) (t : Nat) (v : Int) : Wk := at' (ls.getD t []) v
theorem Levels.known (h : Levels all n src ls) {v : Int} (h0 : 0 ≤ v) (h1 : v ≤ n) : ∀ {t u : Nat}, t ≤ u → u ≤ n + 1 → (W ls t v).known = true → (W ls u v).known = true ∧ (W ls u v).w ≤ (W ls t v).w := by
  intro t u htu
  induction u with
  | zero => intro hu hk; obtain rfl : t = 0 := by omega
            exact ⟨hk, Int.le_refl _⟩
  | succ u ih =>
    intro hu hk
    by_cases e : t = u + 1
    · subst e; exact ⟨hk, Int.le_refl _⟩
    · obtain ⟨h2, h3⟩ := ih (by omega) (by omega) hk
      obtain ⟨h4, h5⟩ := (h.step u (by omega)).mono h0 h1 h2
      exact ⟨h4, Int.le_trans h5 h3⟩
/-- each walk is one: no solution goes beyond it -/
theorem Levels.up (h : Levels all n src ls) (hok : ∀ b ∈ all, OkB n b) {x : Int → Int} (hx : Sol all x) {z : Int} (hz : ∀ v : Int, 0 ≤ v → v ≤ n → src v = true → x v ≤ z) : ∀ t : Nat, t ≤ n + 1 → ∀ v : Int, 0 ≤ v → v ≤ n → (W ls t v).known = true → x v - z ≤ (W ls t v).w
  | 0, _, v, h0, h1, hk => by
    have := h.zero v h0 h1
    show x v - z ≤ (at' (ls.getD 0 []) v).w
    simp only [W, this] at hk ⊢
    have := hz v h0 h1 hk
    omega
  | t + 1, ht, v, h0, h1, hk => by
    have ih := Levels.up h hok hx hz t (by omega)
    rcases (h.step t (by omega)).two v h0 h1 with ⟨h2, h3, h4⟩ | ⟨k, h2, h3, h4, h5, h6⟩
    · have := ih v h0 h1 (by show (at' (ls.getD t []) v).known = true; rw [← h3]; exact hk)
      show x v - z ≤ (at' (ls.getD (t + 1) []) v).w
      rw [h4]; exact this
    · have hm : all.getD k ⟨0, 0, 0⟩ ∈ all := by rw [List.getD_eq_getElem?_getD, List.getElem?_eq_getElem h2]; exact List.getElem_mem h2
      have ho := hok _ hm
      have h7 := ih _ ho.2.2.1 ho.2.2.2.1 h4
      have h8 := hx _ hm
      show x v - z ≤ (at' (ls.getD (t + 1) []) v).w
      rw [h5]
      show x v - z ≤ (at' (ls.getD t []) (all.getD k ⟨0, 0, 0⟩).j).w + (all.getD k ⟨0, 0, 0⟩).c
      rw [h3] at h8
      have h7 : x (all.getD k ⟨0, 0, 0⟩).j - z ≤ (at' (ls.getD t []) (all.getD k ⟨0, 0, 0⟩).j).w := h7
      omega
/-- who is lowered at a level was reached by one that was lowered at the level before -/
theorem Levels.back (h : Levels all n src ls) {t : Nat} (ht : t < n + 1) {v : Int} (h0 : 0 ≤ v) (h1 : v ≤ n) (hok : ∀ b ∈ all, OkB n b) (hl : (W ls (t + 1) v).last ≠ -1) :
    ∃ k : Nat, k < all.length ∧ (W ls (t + 1) v).last = k ∧ (all.getD k ⟨0, 0, 0⟩).i = v ∧ (W ls t (all.getD k ⟨0, 0, 0⟩).j).known = true ∧ (W ls (t + 1) v).known = true ∧ (W ls (t + 1) v).w = (W ls t (all.getD k ⟨0, 0, 0⟩).j).w + (all.getD k ⟨0, 0, 0⟩).c ∧
      ((W ls t v).known = true → (W ls (t + 1) v).w < (W ls t v).w) ∧ (0 < t → (W ls t (all.getD k ⟨0, 0, 0⟩).j).last ≠ -1) := by
  rcases (h.step t ht).two v h0 h1 with ⟨h2, h3, h4⟩ | ⟨k, h2, h3, h4, h5, h6⟩
  · exact absurd h2 hl
  · have hm : all.getD k ⟨0, 0, 0⟩ ∈ all := by rw [List.getD_eq_getElem?_getD, List.getElem?_eq_getElem h2]; exact List.getElem_mem h2
    have ho := hok _ hm
    refine ⟨k, h2, by show (at' (ls.getD (t + 1) []) v).last = k; rw [h5], h3, h4, by show (at' (ls.getD (t + 1) []) v).known = true; rw [h5], by show (at' (ls.getD (t + 1) []) v).w = _; rw [h5], h6, fun h7 h8 => ?_⟩
    obtain ⟨t, rfl⟩ : ∃ s, t = s + 1 := ⟨t - 1, by omega⟩
    rcases (h.step t (by omega)).two _ ho.2.2.1 ho.2.2.2.1 with ⟨g2, g3, g4⟩ | ⟨k', g2, g3, g4, g5, g6⟩
    · have h9 := (h.step t (by omega)).low _ hm (by rw [← g3]; exact h4)
      rw [h3] at h9
      have h10 := h6 h9.1
      have h11 : (at' (ls.getD (t + 1 + 1) []) v).w = (at' (ls.getD (t + 1) []) (all.getD k ⟨0, 0, 0⟩).j).w + (all.getD k ⟨0, 0, 0⟩).c := by rw [h5]
      have := h9.2
      omega
    · have h8 : (at' (ls.getD (t + 1) []) (all.getD k ⟨0, 0, 0⟩).j).last = -1 := h8
      rw [g5] at h8
      simp at h8
end
end Go.Proofs.Ytkpacejikoengaa.M
