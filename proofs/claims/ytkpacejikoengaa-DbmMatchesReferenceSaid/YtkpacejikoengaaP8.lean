/- Chains. Plain laws, no program. -/
import Derived.Test.YtkpacejikoengaaP7
namespace Go.Proofs.Ytkpacejikoengaa.M
set_option linter.unusedVariables false
def chB : Nat → List Int → List Bd
  | _, [] => []
  | s, c :: cs => ⟨(s : Nat), (s + 1 : Nat), c⟩ :: chB (s + 1) cs
theorem chB_len : ∀ (cs : List Int) (s : Nat), (chB s cs).length = cs.length
  | [], _ => rfl
  | c :: cs, s => by simp [chB, chB_len cs]
theorem chB_snoc (c : Int) : ∀ (cs : List Int) (s : Nat), chB s (cs ++ [c]) = chB s cs ++ [⟨(s + cs.length : Nat), (s + cs.length + 1 : Nat), c⟩]
  | [], s => rfl
  | a :: cs, s => by
    simp only [List.cons_append, chB, chB_snoc c cs, List.length_cons]
    rw [show s + 1 + cs.length = s + (cs.length + 1) by omega]
theorem chB_get : ∀ (cs : List Int) (s k : Nat) (h : k < cs.length), (chB s cs)[k]'(by rw [chB_len]; exact h) = ⟨(s + k : Nat), (s + k + 1 : Nat), cs[k]⟩
  | [], s, k, h => by simp at h
  | c :: cs, s, 0, h => rfl
  | c :: cs, s, k + 1, h => by
    have := chB_get cs (s + 1) k (by simpa using h)
    simp only [chB, List.getElem_cons_succ]
    rw [this, show s + 1 + k = s + (k + 1) by omega]
theorem chB_sum {x : Int → Int} : ∀ (cs : List Int) (s : Nat), Sol (chB s cs) x → x (s : Nat) - x (s + cs.length : Nat) ≤ cs.sum
  | [], s, _ => by simp
  | c :: cs, s, h => by
    have h1 := h ⟨(s : Nat), (s + 1 : Nat), c⟩ (by simp [chB])
    have h2 := chB_sum cs (s + 1) fun b hb => h b (by simp [chB, hb])
    simp only [List.sum_cons, List.length_cons]
    rw [show s + 1 + cs.length = s + (cs.length + 1) by omega] at h2
    have h1 : x (s : Nat) - x (s + 1 : Nat) ≤ c := h1
    omega
def chX (cs : List Int) (v : Int) : Int := -(cs.take v.toNat).sum
theorem chB_sol (cs : List Int) : Sol (chB 0 cs) (chX cs) := fun b hb => by
  obtain ⟨k, hk, rfl⟩ := List.getElem_of_mem hb
  rw [chB_len] at hk
  rw [chB_get cs 0 k hk]
  show chX cs ((0 + k : Nat) : Int) - chX cs ((0 + k + 1 : Nat) : Int) ≤ cs[k]
  unfold chX
  rw [show ((0 + k : Nat) : Int).toNat = k by omega, show ((0 + k + 1 : Nat) : Int).toNat = k + 1 by omega, List.take_add_one, List.getElem?_eq_getElem hk, M.sum_append]
  simp; omega
theorem chB_br (cs : List Int) : BR (chB 0 cs) 0 (cs.length : Nat) cs.sum true := by
  refine .inl ⟨rfl, ⟨_, chB_sol cs, ?_⟩, fun x hx => ?_⟩
  · unfold chX; simp
  · have := chB_sum cs 0 hx; simpa using this
theorem chB_unsat (cs : List Int) : ¬ Sat (chB 0 cs ++ [⟨(cs.length : Nat), 0, -cs.sum - 1⟩]) := by
  rintro ⟨x, hx⟩
  have h1 := chB_sum cs 0 (hx.sub fun b hb => by simp [hb])
  have h2 := hx ⟨(cs.length : Nat), 0, -cs.sum - 1⟩ (by simp)
  have h2 : x (cs.length : Nat) - x 0 ≤ -cs.sum - 1 := h2
  simp only [Nat.zero_add] at h1
  have h1 : x 0 - x (cs.length : Nat) ≤ cs.sum := h1
  omega
/-- a cycle of bounds each of which leads to the next is all of them -/
theorem ring_len {all : List Bd} {n : Nat} (hl : all.length = n + 1) (hi : ∀ k, k < n + 1 → (all.getD k ⟨0, 0, 0⟩).i = (k : Nat) ∧ (all.getD k ⟨0, 0, 0⟩).j = ((k + 1) % (n + 1) : Nat)) {cs : List Nat} (h : NegCyc all cs) : cs.length = n + 1 := by
  have hpos : 0 < cs.length := by have := h.ne; cases cs with | nil => exact absurd rfl this | cons => simp
  have hlt : ∀ t (ht : t < cs.length), cs[t] < n + 1 := fun t ht => by have := h.lt cs[t] (List.getElem_mem ht); omega
  have hstep : ∀ t (ht : t < cs.length), cs[(t + 1) % cs.length]'(Nat.mod_lt _ hpos) = (cs[t] + 1) % (n + 1) := fun t ht => by
    have := h.next t ht
    rw [(hi _ (hlt t ht)).2, (hi _ (hlt _ (Nat.mod_lt _ hpos))).1] at this
    omega
  have hall : ∀ t (ht : t < cs.length), cs[t] = (cs[0] + t) % (n + 1) := fun t => by
    induction t with
    | zero => intro ht; rw [Nat.add_zero, Nat.mod_eq_of_lt (hlt 0 ht)]
    | succ t ih =>
      intro ht
      have h1 := hstep t (by omega)
      have h2 : (t + 1) % cs.length = t + 1 := Nat.mod_eq_of_lt ht
      simp only [h2] at h1
      rw [h1, ih (by omega), Nat.mod_add_mod, Nat.add_assoc]
  have hlast : cs[0] = (cs[0] + cs.length) % (n + 1) := by
    have h1 := hstep (cs.length - 1) (by omega)
    have h2 : (cs.length - 1 + 1) % cs.length = 0 := by rw [show cs.length - 1 + 1 = cs.length by omega, Nat.mod_self]
    simp only [h2] at h1
    have h3 := hall (cs.length - 1) (by omega)
    have h4 : (cs[cs.length - 1] + 1) % (n + 1) = (cs[0] + cs.length) % (n + 1) := by
      rw [h3, Nat.mod_add_mod, show cs[0] + (cs.length - 1) + 1 = cs[0] + cs.length by omega]
    exact h1.trans h4
  have hge : n + 1 ≤ cs.length := by
    have h0 := hlt 0 hpos
    by_cases e : cs.length < n + 1
    · by_cases e2 : cs[0] + cs.length < n + 1
      · rw [Nat.mod_eq_of_lt e2] at hlast; omega
      · rw [Nat.mod_eq_sub_mod (by omega), Nat.mod_eq_of_lt (by omega)] at hlast; omega
    · omega
  have hnd : cs.Nodup := by
    have := h.nodup
    exact (List.pairwise_map.1 this).imp fun hne e => hne (by rw [e])
  have hle : cs.length ≤ (List.range (n + 1)).length := len_sub cs (List.range (n + 1)) hnd fun k hk => List.mem_range.2 (by have := h.lt k hk; omega)
  simp at hle
  omega
theorem chB_ring (cs : List Int) (c : Int) : ∀ k, k < cs.length + 1 → ((chB 0 cs ++ [(⟨(cs.length : Nat), 0, c⟩ : Bd)]).getD k ⟨0, 0, 0⟩).i = (k : Nat) ∧ ((chB 0 cs ++ [(⟨(cs.length : Nat), 0, c⟩ : Bd)]).getD k ⟨0, 0, 0⟩).j = ((k + 1) % (cs.length + 1) : Nat) := fun k hk => by
  rw [getD_snoc, chB_len]
  by_cases e : k < cs.length
  · rw [if_pos e, getD_get (by rw [chB_len]; exact e), chB_get cs 0 k e, Nat.mod_eq_of_lt (by omega)]
    simp
  · have : k = cs.length := by omega
    subst this
    rw [if_neg e, if_pos rfl]
    simp
end Go.Proofs.Ytkpacejikoengaa.M
