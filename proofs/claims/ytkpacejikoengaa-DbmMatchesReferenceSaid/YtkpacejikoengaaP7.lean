/- The reference: values lowered in place. Plain laws, no program. -/
import Derived.Test.YtkpacejikoengaaP6
namespace Go.Proofs.Ytkpacejikoengaa.M
set_option linter.unusedVariables false
def xf (xs : List Int) (v : Int) : Int := xs.getD v.toNat 0
theorem xf_get {xs : List Int} {v : Int} (h : v.toNat < xs.length) : xf xs v = xs[v.toNat] := by
  unfold xf; rw [List.getD_eq_getElem?_getD, List.getElem?_eq_getElem h]; rfl
theorem xf_set {xs : List Int} {u v a : Int} (hv : 0 ≤ v) (hu : 0 ≤ u) (h : u.toNat < xs.length) : xf (xs.set u.toNat a) v = if v = u then a else xf xs v := by
  unfold xf
  simp only [List.getD_eq_getElem?_getD, List.getElem?_set]
  by_cases e : v = u
  · subst e; rw [if_pos rfl, if_pos h, if_pos rfl]; rfl
  · rw [if_neg (by omega), if_neg e]
theorem xf_neg {xs : List Int} {v : Int} (hv : v < 0) : xf xs v = xf xs 0 := by unfold xf; rw [show v.toNat = 0 by omega]; rfl
/-- all positions name all bounds -/
theorem all_ts (l : List Bd) : (∀ v ∈ (List.range l.length).map (fun k : Nat => (k : Int)), 0 ≤ v ∧ v < l.length) ∧ ∀ b ∈ l, ∃ v ∈ (List.range l.length).map (fun k : Nat => (k : Int)), (bd l v.toNat).i = b.i ∧ (bd l v.toNat).j = b.j ∧ (bd l v.toNat).c ≤ b.c := by
  refine ⟨fun v hv => ?_, fun b hb => ?_⟩
  · obtain ⟨k, h1, rfl⟩ := List.mem_map.1 hv
    have := List.mem_range.1 h1
    omega
  · obtain ⟨k, h1, rfl⟩ := List.getElem_of_mem hb
    refine ⟨(k : Int), List.mem_map.2 ⟨k, List.mem_range.2 h1, rfl⟩, ?_⟩
    have : bd l ((k : Nat) : Int).toNat = l[k] := getD_get h1
    rw [this]; exact ⟨rfl, rfl, Int.le_refl _⟩
theorem lev_ex {l : List Bd} {n : Nat} (hok : ∀ b ∈ l, OkB n b) (fr : Int) : ∃ ls, Levels l n (fun v => decide (fr < 0) || decide (v = fr)) ls :=
  ⟨_, (Pre.ex hok (all_ts l).1 (all_ts l).2 (n + 1)).levels⟩
theorem bdl {l : List Bd} {k : Nat} (h : k < l.length) : bd l k = l[k] := getD_get h

/-! ### Solution -/
/-- at the start of a round -/
structure OR (l : List Bd) (n : Nat) (U : Int → Wk) (xs : List Int) (T : Nat) : Prop where
  len : xs.length = n + 1
  le : ∀ v : Int, 0 ≤ v → v ≤ n → xf xs v ≤ (U v).w
  ge : ∀ s, Sol l s → (∀ v : Int, 0 ≤ v → v ≤ n → s v ≤ 0) → ∀ v : Int, 0 ≤ v → v ≤ n → s v ≤ xf xs v
  sm : ∀ v, -(1125899906842624 * (T : Int)) ≤ xf xs v ∧ xf xs v ≤ 0
/-- within a round -/
structure SR (l : List Bd) (n : Nat) (U : Int → Wk) (x0 xs : List Int) (ch : Bool) (p T : Nat) : Prop extends OR l n U xs T where
  low : ∀ q (hq : q < l.length), q < p → xf xs l[q].i ≤ (U l[q].j).w + l[q].c
  un : ch = false → ∀ q (hq : q < l.length), q < p → xf xs l[q].i ≤ xf xs l[q].j + l[q].c
  same : (∀ b ∈ l, xf x0 b.i ≤ xf x0 b.j + b.c) → ch = false ∧ xs = x0
section
variable {l : List Bd} {n : Nat} {U : Int → Wk} {x0 xs : List Int} {ch : Bool} {p T : Nat}
theorem SR.start (h : OR l n U xs T) : SR l n U xs xs false 0 T := ⟨h, fun q _ hq => absurd hq (Nat.not_lt_zero q), fun _ q _ hq => absurd hq (Nat.not_lt_zero q), fun _ => ⟨rfl, rfl⟩⟩
theorem OR.more (h : OR l n U xs T) {T' : Nat} (ht : T ≤ T') : OR l n U xs T' := ⟨h.len, h.le, h.ge, fun v => ⟨by have := (h.sm v).1; omega, (h.sm v).2⟩⟩
theorem SR.relax (h : SR l n U x0 xs ch p T) (hok : ∀ b ∈ l, OkB n b) (hp : p < l.length) (hc : xf xs l[p].j + l[p].c < xf xs l[p].i) :
    SR l n U x0 (xs.set l[p].i.toNat (xf xs l[p].j + l[p].c)) true (p + 1) (T + 1) := by
  have ho := hok _ (List.getElem_mem hp)
  have hlen := h.len
  have hu : l[p].i.toNat < xs.length := by have := ho.1; have := ho.2.1; omega
  have es : ∀ v, 0 ≤ v → xf (xs.set l[p].i.toNat (xf xs l[p].j + l[p].c)) v = if v = l[p].i then xf xs l[p].j + l[p].c else xf xs v := fun v hv => xf_set hv ho.1 hu
  have hle := h.le
  refine ⟨⟨by simpa using hlen, fun v h0 h1 => ?_, fun s hs hz v h0 h1 => ?_, fun v => ?_⟩, fun q hq hqp => ?_, fun e => (by cases e), fun hs => ?_⟩
  · rw [es v h0]
    split
    · rename_i e; subst e; have := hle _ h0 h1; omega
    · exact hle v h0 h1
  · rw [es v h0]
    split
    · rename_i e
      subst e
      have h2 := hs _ (List.getElem_mem hp)
      have h3 := h.ge s hs hz l[p].j ho.2.2.1 ho.2.2.2.1
      omega
    · exact h.ge s hs hz v h0 h1
  · have key : ∀ v, 0 ≤ v → -(1125899906842624 * ((T + 1 : Nat) : Int)) ≤ xf (xs.set l[p].i.toNat (xf xs l[p].j + l[p].c)) v ∧ xf (xs.set l[p].i.toNat (xf xs l[p].j + l[p].c)) v ≤ 0 := fun v hv => by
      rw [es v hv]
      split
      · have h1 := h.sm l[p].j
        have h2 := h.sm l[p].i
        have h3 := ho.2.2.2.2.1
        exact ⟨by have := h1.1; omega, by have := h2.2; omega⟩
      · have h1 := h.sm v
        exact ⟨by have := h1.1; omega, h1.2⟩
    by_cases hv : 0 ≤ v
    · exact key v hv
    · rw [xf_neg (by omega)]; exact key 0 (by omega)
  · have hoq := hok _ (List.getElem_mem hq)
    rw [es _ hoq.1]
    have hj := hle l[p].j ho.2.2.1 ho.2.2.2.1
    split
    · rename_i e
      by_cases e2 : q = p
      · subst e2; omega
      · have := h.low q hq (by omega)
        rw [e] at this; omega
    · rename_i e
      by_cases e2 : q = p
      · subst e2; exact absurd rfl e
      · exact h.low q hq (by omega)
  · obtain ⟨_, h2⟩ := h.same hs
    subst h2
    have := hs _ (List.getElem_mem hp)
    omega
theorem SR.skip (h : SR l n U x0 xs ch p T) (hok : ∀ b ∈ l, OkB n b) (hp : p < l.length) (hc : ¬ xf xs l[p].j + l[p].c < xf xs l[p].i) : SR l n U x0 xs ch (p + 1) (T + 1) := by
  have ho := hok _ (List.getElem_mem hp)
  refine ⟨h.toOR.more (by omega), fun q hq hqp => ?_, fun e q hq hqp => ?_, h.same⟩
  · by_cases e2 : q = p
    · subst e2
      have := h.le l[q].j ho.2.2.1 ho.2.2.2.1
      omega
    · exact h.low q hq (by omega)
  · by_cases e2 : q = p
    · subst e2; omega
    · exact h.un e q hq (by omega)
/-- a round lowers to the next level -/
theorem SR.next {ls : List (List Wk)} {r : Nat} (h : SR l n (W ls r) x0 xs ch l.length T) (hst : Step l n (ls.getD r []) (ls.getD (r + 1) [])) : OR l n (W ls (r + 1)) xs T :=
  ⟨h.len, fun v h0 h1 => by
    rcases hst.two v h0 h1 with ⟨_, _, h2⟩ | ⟨k, h2, h3, _, h4, _⟩
    · show _ ≤ (at' _ v).w; rw [h2]; exact h.le v h0 h1
    · have := h.low k h2 h2
      rw [← getD_get (d := ⟨0, 0, 0⟩) h2, h3] at this
      show _ ≤ (at' _ v).w; rw [h4]; exact this, h.ge, h.sm⟩
theorem SR.yes (h : SR l n U x0 xs false l.length T) : Sat l := ⟨xf xs, fun b hb => by
  obtain ⟨q, hq, rfl⟩ := List.getElem_of_mem hb
  have := h.un rfl q hq hq
  omega⟩
theorem SR.no {ls : List (List Wk)} (hL : Levels l n (fun _ => true) ls) (hok : ∀ b ∈ l, OkB n b) (h0 : OR l n (W ls (n + 1)) x0 T) {T' : Nat} (h : SR l n U x0 xs true l.length T') : ¬ Sat l := fun hs => by
  have hst : ∀ v : Int, 0 ≤ v → v ≤ n → (W ls (n + 1) v).last = -1 := fun v g0 g1 => hL.still hok hs g0 g1
  have hsol := hL.sat hok hst
  have hz : ∀ v : Int, 0 ≤ v → v ≤ n → (W ls (n + 1) v).w ≤ 0 := fun v g0 g1 => by
    have h1 := hL.zero v g0 g1
    have h2 := hL.known g0 g1 (t := 0) (u := n + 1) (by omega) (by omega) (by show (at' (ls.getD 0 []) v).known = true; rw [h1])
    have h3 := h2.2
    have h4 : (W ls 0 v).w = 0 := by show (at' (ls.getD 0 []) v).w = 0; rw [h1]
    omega
  have heq : ∀ v : Int, 0 ≤ v → v ≤ n → xf x0 v = (W ls (n + 1) v).w := fun v g0 g1 => by
    have h1 := h0.le v g0 g1
    have h2 := h0.ge _ hsol hz v g0 g1
    omega
  have := h.same fun b hb => by
    have ho := hok b hb
    have h3 : (W ls (n + 1) b.i).w - (W ls (n + 1) b.j).w ≤ b.c := hsol b hb
    rw [heq _ ho.1 ho.2.1, heq _ ho.2.2.1 ho.2.2.2.1]
    omega
  cases this.1
theorem OR.start {ls : List (List Wk)} (hL : Levels l n (fun _ => true) ls) : OR l n (W ls 0) (List.replicate (n + 1) 0) 0 := by
  have hx : ∀ v, xf (List.replicate (n + 1) 0) v = 0 := fun v => by
    unfold xf; rw [List.getD_eq_getElem?_getD, List.getElem?_replicate]; split <;> rfl
  refine ⟨by simp, fun v h0 h1 => ?_, fun s hs hz v h0 h1 => ?_, fun v => ?_⟩
  · rw [hx]
    have := hL.zero v h0 h1
    show 0 ≤ (at' (ls.getD 0 []) v).w
    rw [this]; exact Int.le_refl _
  · rw [hx]; exact hz v h0 h1
  · rw [hx]; omega
end

/-! ### Greatest -/
def kf (ks : List Bool) (v : Int) : Bool := ks.getD v.toNat false
theorem kf_get {xs : List Bool} {v : Int} (h : v.toNat < xs.length) : kf xs v = xs[v.toNat] := by
  unfold kf; rw [List.getD_eq_getElem?_getD, List.getElem?_eq_getElem h]; rfl
theorem kf_set {xs : List Bool} {u v : Int} {a : Bool} (hv : 0 ≤ v) (hu : 0 ≤ u) (h : u.toNat < xs.length) : kf (xs.set u.toNat a) v = if v = u then a else kf xs v := by
  unfold kf
  simp only [List.getD_eq_getElem?_getD, List.getElem?_set]
  by_cases e : v = u
  · subst e; rw [if_pos rfl, if_pos h, if_pos rfl]; rfl
  · rw [if_neg (by omega), if_neg e]
structure GR (l : List Bd) (n : Nat) (j : Int) (U : Int → Wk) (ks : List Bool) (xs : List Int) (p T : Nat) : Prop where
  len : xs.length = n + 1
  klen : ks.length = n + 1
  le : ∀ v : Int, 0 ≤ v → v ≤ n → (U v).known = true → kf ks v = true ∧ xf xs v ≤ (U v).w
  low : ∀ q (hq : q < l.length), q < p → (U l[q].j).known = true → kf ks l[q].i = true ∧ xf xs l[q].i ≤ (U l[q].j).w + l[q].c
  up : ∀ s, Sol l s → ∀ v : Int, 0 ≤ v → v ≤ n → kf ks v = true → s v - s j ≤ xf xs v
  sm : ∀ v, -(1125899906842624 * (T : Int)) ≤ xf xs v ∧ xf xs v ≤ 1125899906842624 * (T : Int)
section
variable {l : List Bd} {n : Nat} {j : Int} {U : Int → Wk} {ks : List Bool} {xs : List Int} {p T : Nat}
theorem GR.relax (h : GR l n j U ks xs p T) (hok : ∀ b ∈ l, OkB n b) (hp : p < l.length) (hk : kf ks l[p].j = true) (hc : kf ks l[p].i = true → xf xs l[p].j + l[p].c < xf xs l[p].i) :
    GR l n j U (ks.set l[p].i.toNat true) (xs.set l[p].i.toNat (xf xs l[p].j + l[p].c)) (p + 1) (T + 1) := by
  have ho := hok _ (List.getElem_mem hp)
  have hlen := h.len
  have hklen := h.klen
  have hu : l[p].i.toNat < xs.length := by have := ho.1; have := ho.2.1; omega
  have es : ∀ v, 0 ≤ v → xf (xs.set l[p].i.toNat (xf xs l[p].j + l[p].c)) v = if v = l[p].i then xf xs l[p].j + l[p].c else xf xs v := fun v hv => xf_set hv ho.1 hu
  have ek : ∀ v, 0 ≤ v → kf (ks.set l[p].i.toNat true) v = if v = l[p].i then true else kf ks v := fun v hv => kf_set hv ho.1 (by omega)
  refine ⟨by simpa using hlen, by simpa using hklen, fun v h0 h1 hkn => ?_, fun q hq hqp hkn => ?_, fun s hs v h0 h1 hkv => ?_, fun v => ?_⟩
  · rw [es v h0, ek v h0]
    have := h.le v h0 h1 hkn
    split
    · rename_i e; subst e; have := hc this.1; exact ⟨rfl, by omega⟩
    · exact this
  · have hoq := hok _ (List.getElem_mem hq)
    rw [es _ hoq.1, ek _ hoq.1]
    split
    · rename_i e
      refine ⟨rfl, ?_⟩
      by_cases e2 : q = p
      · subst e2
        have := h.le _ ho.2.2.1 ho.2.2.2.1 hkn
        omega
      · have h3 := h.low q hq (by omega) hkn
        rw [e] at h3
        have := hc h3.1
        omega
    · rename_i e
      by_cases e2 : q = p
      · subst e2; exact absurd rfl e
      · exact h.low q hq (by omega) hkn
  · rw [ek v h0] at hkv
    rw [es v h0]
    split
    · rename_i e
      subst e
      have h2 := hs _ (List.getElem_mem hp)
      have h3 := h.up s hs l[p].j ho.2.2.1 ho.2.2.2.1 hk
      omega
    · rename_i e
      rw [if_neg e] at hkv
      exact h.up s hs v h0 h1 hkv
  · have key : ∀ v, 0 ≤ v → -(1125899906842624 * ((T + 1 : Nat) : Int)) ≤ xf (xs.set l[p].i.toNat (xf xs l[p].j + l[p].c)) v ∧ xf (xs.set l[p].i.toNat (xf xs l[p].j + l[p].c)) v ≤ 1125899906842624 * ((T + 1 : Nat) : Int) := fun v hv => by
      rw [es v hv]
      split
      · have h1 := h.sm l[p].j
        have h3 := ho.2.2.2.2.1
        have h4 := ho.2.2.2.2.2
        exact ⟨by have := h1.1; omega, by have := h1.2; omega⟩
      · have h1 := h.sm v
        exact ⟨by have := h1.1; omega, by have := h1.2; omega⟩
    by_cases hv : 0 ≤ v
    · exact key v hv
    · rw [xf_neg (by omega)]; exact key 0 (by omega)
theorem GR.skip (h : GR l n j U ks xs p T) (hok : ∀ b ∈ l, OkB n b) (hp : p < l.length) (hc : kf ks l[p].j = true → kf ks l[p].i = true ∧ xf xs l[p].i ≤ xf xs l[p].j + l[p].c) : GR l n j U ks xs (p + 1) (T + 1) := by
  have ho := hok _ (List.getElem_mem hp)
  refine ⟨h.len, h.klen, h.le, fun q hq hqp hkn => ?_, h.up, fun v => ⟨by have := (h.sm v).1; omega, by have := (h.sm v).2; omega⟩⟩
  by_cases e2 : q = p
  · subst e2
    have h1 := h.le l[q].j ho.2.2.1 ho.2.2.2.1 hkn
    have h2 := hc h1.1
    exact ⟨h2.1, by omega⟩
  · exact h.low q hq (by omega) hkn
theorem GR.next {ls : List (List Wk)} {r : Nat} (h : GR l n j (W ls r) ks xs l.length T) (hst : Step l n (ls.getD r []) (ls.getD (r + 1) [])) : GR l n j (W ls (r + 1)) ks xs 0 T :=
  ⟨h.len, h.klen, fun v h0 h1 hkn => by
    have hkn : (at' (ls.getD (r + 1) []) v).known = true := hkn
    rcases hst.two v h0 h1 with ⟨_, h3, h2⟩ | ⟨k, h2, h3, h5, h4, _⟩
    · show _ ∧ _ ≤ (at' _ v).w; rw [h2]; exact h.le v h0 h1 (by rw [h3] at hkn; exact hkn)
    · have := h.low k h2 h2 (by rw [← getD_get (d := ⟨0, 0, 0⟩) h2]; exact h5)
      rw [← getD_get (d := ⟨0, 0, 0⟩) h2, h3] at this
      show _ ∧ _ ≤ (at' _ v).w; rw [h4]; exact this, fun q _ hq => absurd hq (Nat.not_lt_zero q), h.up, h.sm⟩
theorem GR.more (h : GR l n j U ks xs p T) {U' : Int → Wk} (hU : ∀ v : Int, 0 ≤ v → v ≤ n → (U' v).known = true → (U v).known = true ∧ (U v).w ≤ (U' v).w) : GR l n j U' ks xs 0 T :=
  ⟨h.len, h.klen, fun v h0 h1 hk => by
    obtain ⟨h2, h3⟩ := hU v h0 h1 hk
    have := h.le v h0 h1 h2
    exact ⟨this.1, by omega⟩, fun q _ hq => absurd hq (Nat.not_lt_zero q), h.up, h.sm⟩
theorem GR.start {ls : List (List Wk)} (hj0 : 0 ≤ j) (hj1 : j ≤ n) (hL : Levels l n (fun v => decide (v = j)) ls) : GR l n j (W ls 0) ((List.replicate (n + 1) false).set j.toNat true) (List.replicate (n + 1) 0) 0 0 := by
  have hx : ∀ v, xf (List.replicate (n + 1) 0) v = 0 := fun v => by
    unfold xf; rw [List.getD_eq_getElem?_getD, List.getElem?_replicate]; split <;> rfl
  have hk : ∀ v : Int, 0 ≤ v → kf ((List.replicate (n + 1) false).set j.toNat true) v = decide (v = j) := fun v hv => by
    rw [kf_set hv hj0 (by simp; omega)]
    by_cases e : v = j
    · rw [if_pos e]; simp [e]
    · rw [if_neg e]; unfold kf; rw [List.getD_eq_getElem?_getD, List.getElem?_replicate]; split <;> simp [e]
  refine ⟨by simp, by simp, fun v h0 h1 hkn => ?_, fun q _ hq => absurd hq (Nat.not_lt_zero q), fun s hs v h0 h1 hkv => ?_, fun v => by rw [hx]; omega⟩
  · have h2 := hL.zero v h0 h1
    have hkn : (at' (ls.getD 0 []) v).known = true := hkn
    rw [h2] at hkn
    rw [hx, hk v h0]
    exact ⟨hkn, by show 0 ≤ (at' (ls.getD 0 []) v).w; rw [h2]; exact Int.le_refl _⟩
  · rw [hk v h0] at hkv
    have := of_decide_eq_true hkv
    subst this
    rw [hx]; omega
/-- after the rounds the values are the greatest -/
theorem GR.done {ls : List (List Wk)} {i : Int} (h : GR l n j (W ls (n + 1)) ks xs p T) (hs : Sat l) (hok : ∀ b ∈ l, OkB n b) (hj0 : 0 ≤ j) (hj1 : j ≤ n) (h0 : 0 ≤ i) (h1 : i ≤ n) (hL : Levels l n (fun v => decide (v = j)) ls) :
    BR l i j (if kf ks i = true then xf xs i else 0) (kf ks i) := by
  have hb := hL.br hs hj0 hj1 hok h0 h1
  have hle := h.le i h0 h1
  cases hk : (W ls (n + 1) i).known with
  | true =>
    rw [hk, if_pos rfl] at hb
    obtain ⟨h2, h3⟩ := hle hk
    rw [h2, if_pos rfl]
    have : xf xs i = (W ls (n + 1) i).w := by
      rcases hb with ⟨_, ⟨x, h5, h6⟩, _⟩ | ⟨h5, _⟩
      · have := h.up x h5 i h0 h1 h2; omega
      · cases h5
    rw [this]; exact hb
  | false =>
    rw [hk, if_neg (by simp)] at hb
    cases hkf : kf ks i with
    | false => rw [if_neg (by simp)]; exact hb
    | true =>
      rcases hb with ⟨h5, _⟩ | ⟨_, _, h5⟩
      · cases h5
      · obtain ⟨x, h6, h7⟩ := h5 (xf xs i)
        have := h.up x h6 i h0 h1 hkf
        omega
end
end Go.Proofs.Ytkpacejikoengaa.M
