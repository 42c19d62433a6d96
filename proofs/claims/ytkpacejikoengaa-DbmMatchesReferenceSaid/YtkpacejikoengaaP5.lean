/- The levels as one value. Plain laws, no program. -/
import Derived.Test.YtkpacejikoengaaP4
namespace Go.Proofs.Ytkpacejikoengaa.M
set_option linter.unusedVariables false
/-- the positions, in ascending order, that a table of positions names -/
structure TightEx (r : Int → Int → Option Nat) (ts : List Int) : Prop where
  of : ∀ v ∈ ts, ∃ i j, ∃ k : Nat, r i j = some k ∧ v = k
  mem : ∀ i j (k : Nat), r i j = some k → (k : Int) ∈ ts
  up : ts.Pairwise (· < ·)
theorem up_ext : ∀ {a b : List Int}, a.Pairwise (· < ·) → b.Pairwise (· < ·) → (∀ x, x ∈ a ↔ x ∈ b) → a = b
  | [], [], _, _, _ => rfl
  | [], y :: b, _, _, h => by have := (h y).2 (by simp); simp at this
  | x :: a, [], _, _, h => by have := (h x).1 (by simp); simp at this
  | x :: a, y :: b, ha, hb, h => by
    rw [List.pairwise_cons] at ha hb
    have h1 : x = y := by
      have h2 := (h x).1 (by simp)
      have h3 := (h y).2 (by simp)
      rcases List.mem_cons.1 h2 with h2 | h2
      · exact h2
      · rcases List.mem_cons.1 h3 with h3 | h3
        · exact h3.symm
        · have := ha.1 y h3; have := hb.1 x h2; omega
    subst h1
    rw [up_ext ha.2 hb.2 fun z => ⟨fun hz => by
      rcases List.mem_cons.1 ((h z).1 (by simp [hz])) with h4 | h4
      · subst h4; have := ha.1 z hz; omega
      · exact h4, fun hz => by
      rcases List.mem_cons.1 ((h z).2 (by simp [hz])) with h4 | h4
      · subst h4; have := hb.1 z hz; omega
      · exact h4⟩]
theorem TightEx.uniq {r : Int → Int → Option Nat} {a b : List Int} (ha : TightEx r a) (hb : TightEx r b) : a = b := up_ext ha.up hb.up fun x => ⟨fun h => by
  obtain ⟨i, j, k, h1, rfl⟩ := ha.of x h; exact hb.mem i j k h1, fun h => by
  obtain ⟨i, j, k, h1, rfl⟩ := hb.of x h; exact ha.mem i j k h1⟩
theorem TightEx.ex {r : Int → Int → Option Nat} {m : Nat} (hr : ∀ i j k, r i j = some k → k < m) : ∃ ts, TightEx r ts := by
  classical
  refine ⟨((List.range m).filter fun k => decide (∃ i j, r i j = some k)).map fun k : Nat => (k : Int), ⟨fun v hv => ?_, fun i j k h => ?_, ?_⟩⟩
  · obtain ⟨k, h1, rfl⟩ := List.mem_map.1 hv
    obtain ⟨i, j, h2⟩ := of_decide_eq_true (List.mem_filter.1 h1).2
    exact ⟨i, j, k, h2, rfl⟩
  · exact List.mem_map.2 ⟨k, List.mem_filter.2 ⟨List.mem_range.2 (hr i j k h), decide_eq_true ⟨i, j, h⟩⟩, rfl⟩
  · rw [List.pairwise_map]
    exact (List.pairwise_lt_range.filter _).imp fun h => by omega
/-- the levels -/
def walksF (all : List Bd) (ts : List Int) (l0 : List Wk) : Nat → List (List Wk)
  | 0 => [l0]
  | t + 1 => walksF all ts l0 t ++ [nextF all ts ((walksF all ts l0 t).getD t [])]
abbrev stW (fr : Int) (v : Int) : Wk := ⟨decide (fr < 0) || decide (v = fr), 0, -1⟩
def firstF (n : Nat) (fr : Int) : List Wk := (List.range (n + 1)).map fun v : Nat => stW fr (v : Int)
theorem first_eq {n : Nat} {fr : Int} {l : List Wk} (hl : l.length = n + 1) (h : ∀ v : Nat, v < n + 1 → l.getD v ⟨false, 0, -1⟩ = stW fr v) : l = firstF n fr := by
  refine List.ext_getElem (by simp [firstF, hl]) fun v h1 h2 => ?_
  have := h v (by omega)
  rw [List.getD_eq_getElem?_getD, List.getElem?_eq_getElem h1] at this
  simpa [firstF] using this
theorem Pre.ex {all : List Bd} {n : Nat} {ts : List Int} {fr : Int} (hok : ∀ b ∈ all, OkB n b) (h0 : ∀ v ∈ ts, 0 ≤ v ∧ v < all.length) (h1 : ∀ b ∈ all, ∃ v ∈ ts, (bd all v.toNat).i = b.i ∧ (bd all v.toNat).j = b.j ∧ (bd all v.toNat).c ≤ b.c) :
    ∀ t, Pre all n (fun v => decide (fr < 0) || decide (v = fr)) (walksF all ts (firstF n fr) t) t
  | 0 => Pre.start (by simp [firstF]) fun v hv => by simp [firstF, List.getD_eq_getElem?_getD, hv]
  | t + 1 => by
    have ih := Pre.ex (fr := fr) hok h0 h1 t
    obtain ⟨l, h⟩ := PS.ex hok (ih.lens (Nat.le_refl _)) h0 (ih.small t (Nat.le_refl _)) ts.length (Nat.le_refl _)
    have h2 := h.next
    subst h2
    exact ih.snoc (h.done h1) h.small
end Go.Proofs.Ytkpacejikoengaa.M
