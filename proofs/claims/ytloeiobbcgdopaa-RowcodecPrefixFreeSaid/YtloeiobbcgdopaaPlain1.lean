/- Plain laws on encodings: no program in sight. -/
import Derived.Test.YtloeiobbcgdopaaAdd
import Derived.Test.YtloeiobbcgdopaaShelf
namespace Go.Proofs.Ytloeiobbcgdopaa.Pl
open Go.Proofs.Ytloeiobbcgdopaa.Add

theorem hasPrefix_iff (A B : List UInt8) : Lib.hasPrefix A B = true ↔ B <+: A := by
  unfold Lib.hasPrefix
  simp

theorem esc_ne (c : UInt8) : (0 : UInt8) ∉ esc c := by
  unfold esc
  split
  · rename_i h
    have h2 : c.toNat ≤ 1 := by rw [UInt8.le_iff_toNat_le] at h; simpa using h
    intro hm
    simp at hm
    have := congrArg UInt8.toNat hm
    simp [UInt8.toNat_add] at this
    omega
  · rename_i h
    intro hm
    simp at hm
    subst hm
    exact h (by decide)
theorem flat_ne (l : List UInt8) : (0 : UInt8) ∉ l.flatMap esc := by
  intro h
  obtain ⟨c, _, hc⟩ := List.mem_flatMap.1 h
  exact esc_ne c hc

theorem stop_eq : ∀ (x y r : List UInt8), (0 : UInt8) ∉ x → (0 : UInt8) ∉ y → x ++ [0] ++ r = y ++ [0] → x = y ∧ r = []
  | [], [], r, _, _, h => by simpa using h
  | [], b :: y, r, _, hy, h => by simp at h; exact absurd (by rw [h.1]; simp) hy
  | a :: x, [], r, hx, _, h => by simp at h
  | a :: x, b :: y, r, hx, hy, h => by
    simp only [List.cons_append, List.cons.injEq] at h
    have := stop_eq x y r (fun m => hx (List.mem_cons_of_mem _ m)) (fun m => hy (List.mem_cons_of_mem _ m)) h.2
    exact ⟨by rw [h.1, this.1], this.2⟩
theorem stop_le (x y r s : List UInt8) (hx : (0 : UInt8) ∉ x) (hy : (0 : UInt8) ∉ y) (h : x ++ 0 :: r = y ++ 0 :: s) : x = y ∧ r = s := by
  induction x generalizing y with
  | nil =>
    cases y with
    | nil => simpa using h
    | cons b y => simp at h; exact absurd (by rw [h.1]; simp) hy
  | cons a x ih =>
    cases y with
    | nil => simp at h; exact absurd (by rw [h.1]; simp) hx
    | cons b y =>
      simp only [List.cons_append, List.cons.injEq] at h
      have := ih y (fun m => hx (List.mem_cons_of_mem _ m)) (fun m => hy (List.mem_cons_of_mem _ m)) h.2
      exact ⟨by rw [h.1, this.1], this.2⟩

theorem num_length (n : Int) : (Num.num n).length = 8 := rfl

theorem enc_pre (k n : Int) (t : List UInt8) (k' n' : Int) (t' : List UInt8) (h : enc k n t <+: enc k' n' t') : enc k n t = enc k' n' t' := by
  obtain ⟨r, h⟩ := h
  have fin : r = [] → enc k n t = enc k' n' t' := fun e => by rw [← h, e, List.append_nil]
  refine fin ?_
  unfold enc at h
  by_cases k1 : k = 1
  · by_cases j1 : k' = 1
    · rw [if_pos k1, if_pos j1] at h
      have := congrArg List.length h
      simp [num_length] at this
      exact this
    · by_cases j2 : k' = 2
      · rw [if_pos k1, if_neg j1, if_pos j2] at h; simp at h
      · rw [if_pos k1, if_neg j1, if_neg j2] at h; simp at h
  · by_cases k2 : k = 2
    · by_cases j1 : k' = 1
      · rw [if_neg k1, if_pos k2, if_pos j1] at h; simp at h
      · by_cases j2 : k' = 2
        · rw [if_neg k1, if_pos k2, if_neg j1, if_pos j2] at h
          simp only [List.cons_append, List.cons.injEq, true_and] at h
          exact (stop_eq _ _ r (flat_ne t) (flat_ne t') h).2
        · rw [if_neg k1, if_pos k2, if_neg j1, if_neg j2] at h; simp at h
    · by_cases j1 : k' = 1
      · rw [if_neg k1, if_neg k2, if_pos j1] at h; simp at h
      · by_cases j2 : k' = 2
        · rw [if_neg k1, if_neg k2, if_neg j1, if_pos j2] at h; simp at h
        · rw [if_neg k1, if_neg k2, if_neg j1, if_neg j2] at h; simpa using h

theorem apart (k n : Int) (t : List UInt8) (k' n' : Int) (t' : List UInt8) : enc k n t = enc k' n' t' ∨ (¬ enc k n t = enc k' n' t' ∧ Lib.hasPrefix (enc k n t) (enc k' n' t') = false ∧ Lib.hasPrefix (enc k' n' t') (enc k n t) = false) := by
  by_cases h : enc k n t = enc k' n' t'
  · exact .inl h
  · refine .inr ⟨h, ?_, ?_⟩
    · cases hp : Lib.hasPrefix (enc k n t) (enc k' n' t') with
      | false => rfl
      | true => exact absurd (enc_pre _ _ _ _ _ _ ((hasPrefix_iff _ _).1 hp)).symm h
    · cases hp : Lib.hasPrefix (enc k' n' t') (enc k n t) with
      | false => rfl
      | true => exact absurd (enc_pre _ _ _ _ _ _ ((hasPrefix_iff _ _).1 hp)) h
end Go.Proofs.Ytloeiobbcgdopaa.Pl
