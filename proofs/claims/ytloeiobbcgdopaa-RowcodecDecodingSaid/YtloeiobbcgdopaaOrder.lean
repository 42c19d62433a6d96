/- RowcodecOrder: the encodings of rows of valid values have the order of the rows. The plain law; the walk. -/
import Derived.Test.YtloeiobbcgdopaaRef4
import Derived.Test.YtloeiobbcgdopaaNumbers
namespace Go.Proofs.Ytloeiobbcgdopaa.Or
open Go.RowKit L Fr Rw R4

theorem cmpB_cons (a : UInt8) (x y : List UInt8) : cmpB (a :: x) (a :: y) = cmpB x y := by
  have h : ¬ a < a := by rw [UInt8.lt_iff_toNat_lt]; omega
  simp [cmpB, h]
theorem cmpB_lt {a b : UInt8} (h : a.toNat < b.toNat) (x y : List UInt8) : cmpB (a :: x) (b :: y) = -1 := by
  simp [cmpB, UInt8.lt_iff_toNat_lt, h]
theorem cmpB_gt {a b : UInt8} (h : b.toNat < a.toNat) (x y : List UInt8) : cmpB (a :: x) (b :: y) = 1 := by
  have h' : ¬ a.toNat < b.toNat := by omega
  simp [cmpB, UInt8.lt_iff_toNat_lt, h, h']
theorem cmpB_same (l r : List UInt8) : ∀ (a b : List UInt8), a.length = b.length → cmpB (a ++ l) (b ++ r) = if Nu.val a = Nu.val b then cmpB l r else cmpI (Nu.val a : Int) (Nu.val b : Int)
  | [], [], _ => by simp [Nu.val]
  | x :: a, y :: b, h => by
    have hl : a.length = b.length := by simpa using h
    have ih := cmpB_same l r a b hl
    have h1 := Nu.val_lt a
    have h2 := Nu.val_lt b
    rw [Nu.val_cons, Nu.val_cons, ← hl]
    rw [← hl] at h2
    generalize 256 ^ a.length = p at *
    rw [List.cons_append, List.cons_append]
    rcases Nat.lt_trichotomy x.toNat y.toNat with hlt | heq | hgt
    · have e2 : x.toNat * p + Nu.val a < y.toNat * p + Nu.val b := by
        have : (x.toNat + 1) * p ≤ y.toNat * p := Nat.mul_le_mul_right _ hlt
        rw [Nat.add_mul] at this; omega
      rw [cmpB_lt hlt, if_neg (by omega), cmpI, if_pos (by omega)]
    · have e := UInt8.toNat_inj.1 heq
      subst e
      rw [cmpB_cons, ih]
      by_cases hv : Nu.val a = Nu.val b
      · rw [if_pos hv, if_pos (by omega)]
      · rw [if_neg hv, if_neg (by omega)]
        unfold cmpI
        by_cases h3 : Nu.val a < Nu.val b
        · rw [if_pos (by omega), if_pos (by omega)]
        · rw [if_neg (by omega), if_pos (by omega), if_neg (by omega), if_pos (by omega)]
    · have e3 : y.toNat * p + Nu.val b < x.toNat * p + Nu.val a := by
        have : (y.toNat + 1) * p ≤ x.toNat * p := Nat.mul_le_mul_right _ hgt
        rw [Nat.add_mul] at this; omega
      rw [cmpB_gt hgt, if_neg (by omega), cmpI, if_neg (by omega), if_pos (by omega)]
theorem cmpB_text (l r : List UInt8) : ∀ (a b : List UInt8), (0 : UInt8) ∉ a → (0 : UInt8) ∉ b → cmpB (a ++ 0 :: l) (b ++ 0 :: r) = if cmpB a b = 0 then cmpB l r else cmpB a b
  | [], [], _, _ => by simp [cmpB]
  | [], y :: b, _, hb => by
    have hy : (0 : UInt8).toNat < y.toNat := by
      have : y.toNat ≠ 0 := fun e => hb (by rw [show y = 0 from UInt8.toNat_inj.1 e]; simp)
      simp; omega
    rw [List.nil_append, List.cons_append, cmpB_lt hy]; simp [cmpB]
  | x :: a, [], ha, _ => by
    have hx : (0 : UInt8).toNat < x.toNat := by
      have : x.toNat ≠ 0 := fun e => ha (by rw [show x = 0 from UInt8.toNat_inj.1 e]; simp)
      simp; omega
    rw [List.nil_append, List.cons_append, cmpB_gt hx]; simp [cmpB]
  | x :: a, y :: b, ha, hb => by
    have ih := cmpB_text l r a b (fun h => ha (List.mem_cons_of_mem _ h)) (fun h => hb (List.mem_cons_of_mem _ h))
    rw [List.cons_append, List.cons_append]
    rcases Nat.lt_trichotomy x.toNat y.toNat with hlt | heq | hgt
    · rw [cmpB_lt hlt, cmpB_lt hlt]; simp
    · have e := UInt8.toNat_inj.1 heq
      subst e
      rw [cmpB_cons, cmpB_cons, ih]
    · rw [cmpB_gt hgt, cmpB_gt hgt]; simp

theorem okC_esc {c : UInt8} (h : okC c = true) : Add.esc c = [c] ∧ c ≠ 0 := by
  have := (okC_iff c).1 h
  refine ⟨?_, fun e => by subst e; simp at this⟩
  unfold Add.esc
  rw [if_neg]
  rw [UInt8.le_iff_toNat_le]; simp; omega
theorem print_esc : ∀ {t : List UInt8}, printable t = true → t.flatMap Add.esc = t ∧ (0 : UInt8) ∉ t
  | [], _ => by simp
  | c :: t, h => by
    have h' : okC c = true ∧ printable t = true := by simpa [printable] using h
    obtain ⟨h1, h2⟩ := okC_esc h'.1
    obtain ⟨h3, h4⟩ := print_esc h'.2
    refine ⟨by rw [List.flatMap_cons, h1, h3]; rfl, ?_⟩
    intro hm
    rcases List.mem_cons.1 hm with e | e
    · exact h2 e.symm
    · exact h4 e
/-- the three kinds of valid values -/
theorem valid_cases {x : Val} (h : validV x = true) : (x.k = 0 ∧ x.n = 0 ∧ x.t.data.toList = []) ∨ (x.k = 1 ∧ x.t.data.toList = []) ∨ (x.k = 2 ∧ x.n = 0 ∧ printable x.t.data.toList = true ∧ x.t.size ≤ 16) := by
  unfold validV at h
  split at h
  · rename_i h0
    simp at h
    exact .inl ⟨h0, h.1, by simpa using h.2⟩
  · split at h
    · rename_i h1
      exact .inr (.inl ⟨h1, by simpa using h⟩)
    · split at h
      · rename_i h2
        simp only [Bool.and_eq_true, decide_eq_true_iff] at h
        exact .inr (.inr ⟨h2, h.1.1, h.1.2, h.2⟩)
      · cases h

theorem cmpI_zero (a b : Int) : cmpI a b = 0 ↔ a = b := by
  unfold cmpI
  by_cases h : a < b
  · simp [h]; omega
  · by_cases h2 : b < a
    · simp [h, h2]; omega
    · simp [h, h2]; omega

/-- one value: its encoding decides as the value does, or leaves it to what follows -/
theorem one (x y : Val) (hx : validV x = true) (hy : validV y = true) (ox : In64 x.n) (oy : In64 y.n) (l r : List UInt8) :
    cmpB (Add.enc x.k x.n x.t.data.toList ++ l) (Add.enc y.k y.n y.t.data.toList ++ r) = if cmpV x y = 0 then cmpB l r else cmpV x y := by
  have dif : x.k ≠ y.k → cmpV x y = cmpI x.k y.k := fun h => by simp [cmpV, h]
  rcases valid_cases hx with ⟨h1, h2, h3⟩ | ⟨h1, h3⟩ | ⟨h1, h2, h3, _⟩ <;> rcases valid_cases hy with ⟨g1, g2, g3⟩ | ⟨g1, g3⟩ | ⟨g1, g2, g3, _⟩
  · rw [show cmpV x y = 0 by simp [cmpV, h1, g1, h2, g2, h3, g3, cmpB], h1, g1]
    simp only [Add.enc]
    simp [cmpB_cons]
  · rw [dif (by omega), h1, g1]; simp [Add.enc, cmpB, cmpI]
  · rw [dif (by omega), h1, g1]; simp [Add.enc, cmpB, cmpI]
  · rw [dif (by omega), h1, g1]; simp [Add.enc, cmpB, cmpI]
  · have hv : cmpV x y = if x.n ≠ y.n then cmpI x.n y.n else 0 := by simp [cmpV, h1, g1, h3, g3, cmpB]
    rw [hv, h1, g1]
    simp only [Add.enc, if_true, List.cons_append]
    rw [cmpB_cons, cmpB_same l r (Num.num x.n) (Num.num y.n) rfl]
    unfold Num.num
    rw [Nu.val_numL _ (Nu.numU_lt _ ox.1 ox.2), Nu.val_numL _ (Nu.numU_lt _ oy.1 oy.2)]
    obtain ⟨ox1, ox2⟩ := ox
    obtain ⟨oy1, oy2⟩ := oy
    by_cases he : x.n = y.n
    · rw [he]; simp
    · have hu : Num.numU x.n ≠ Num.numU y.n := by unfold Num.numU; omega
      have hc : cmpI (Num.numU x.n : Int) (Num.numU y.n : Int) = cmpI x.n y.n := by
        unfold cmpI Num.numU
        by_cases h : x.n < y.n
        · rw [if_pos h, if_pos (by omega)]
        · rw [if_neg h, if_neg (by omega), if_pos (by omega), if_pos (by omega)]
      rw [if_neg hu, hc, if_pos he, if_neg (fun e => he ((cmpI_zero _ _).1 e))]
  · rw [dif (by omega), h1, g1]; simp [Add.enc, cmpB, cmpI]
  · rw [dif (by omega), h1, g1]; simp [Add.enc, cmpB, cmpI]
  · rw [dif (by omega), h1, g1]; simp [Add.enc, cmpB, cmpI]
  · have hv : cmpV x y = cmpB x.t.data.toList y.t.data.toList := by simp [cmpV, h1, g1, h2, g2]
    obtain ⟨e1, n1⟩ := print_esc h3
    obtain ⟨e2, n2⟩ := print_esc g3
    rw [hv, h1, g1]
    simp only [Add.enc, if_true, e1, e2]
    rw [if_neg (by decide), if_neg (by decide)]
    simp only [List.cons_append, List.append_assoc, List.nil_append]
    rw [cmpB_cons]
    exact cmpB_text l r _ _ n1 n2

theorem law : ∀ (xs ys : List Val), allValid xs = true → allValid ys = true → (∀ x ∈ xs, x.ok) → (∀ y ∈ ys, y.ok) → cmpB (encs xs) (encs ys) = cmpR xs ys
  | [], [], _, _, _, _ => rfl
  | [], y :: ys, _, _, _, _ => by
    have : encs (y :: ys) ≠ [] := by
      simp only [encs, List.flatMap_cons, Add.enc]
      split
      · simp
      · split <;> simp
    cases h : encs (y :: ys) with
    | nil => exact absurd h this
    | cons a l => rfl
  | x :: xs, [], _, _, _, _ => by
    have : encs (x :: xs) ≠ [] := by
      simp only [encs, List.flatMap_cons, Add.enc]
      split
      · simp
      · split <;> simp
    cases h : encs (x :: xs) with
    | nil => exact absurd h this
    | cons a l => rfl
  | x :: xs, y :: ys, hx, hy, ox, oy => by
    have hx' : validV x = true ∧ allValid xs = true := by simpa [allValid] using hx
    have hy' : validV y = true ∧ allValid ys = true := by simpa [allValid] using hy
    have ih := law xs ys hx'.2 hy'.2 (fun z hz => ox z (by simp [hz])) (fun z hz => oy z (by simp [hz]))
    have h1 := one x y hx'.1 hy'.1 (ox x (by simp)).2.1 (oy y (by simp)).2.1 (encs xs) (encs ys)
    have e1 : encs (x :: xs) = Add.enc x.k x.n x.t.data.toList ++ encs xs := rfl
    have e2 : encs (y :: ys) = Add.enc y.k y.n y.t.data.toList ++ encs ys := rfl
    rw [e1, e2, h1, ih]
    simp only [cmpR]
    by_cases h0 : cmpV x y = 0 <;> simp [h0]

abbrev BoolIs (f : Nat) (u : Value) (xs : List Val) (b : Bool) : Prop := ∀ W, RowRd W u xs → Calls Try.prog f #[u] W fun e w' => e = .returned (.bool b) ∧ Below W.heap.size W w'
abbrev EncIs (u : Value) (xs : List Val) (A : List UInt8) : Prop := ∀ W, RowRd W u xs → Calls Try.prog 18 #[u] W fun e w' => ∃ v', e = .returned v' ∧ RdB w' v' A ∧ Below W.heap.size W w'
theorem RdB.below' {w w' : World} {v : Value} {l : List UInt8} (h : RdB w v l) (hb : Below w.heap.size w w') : RdB w' v l := Rd.below h hb

set_option maxHeartbeats 4000000 in
theorem walkGood (u v : Value) (xs ys : List Val) (w : World) (A B : List UInt8) (c : Int) (h16 : BoolIs 16 u xs true) (h16' : BoolIs 16 v ys true) (h20 : BoolIs 20 u xs true) (h20' : BoolIs 20 v ys true) (hA : EncIs u xs A) (hB : EncIs v ys B)
    (h21 : ∀ W a b, RdB W a A → RdB W b B → Calls Try.prog 21 #[a, b] W fun e w' => e = .returned (.int .i64 c) ∧ Below W.heap.size W w')
    (h22 : ∀ W, RowRd W u xs → RowRd W v ys → Calls Try.prog 22 #[u, v] W fun e w' => e = .returned (.int .i64 c) ∧ Below W.heap.size W w')
    (hr : RowRd w u xs) (hr' : RowRd w v ys) :
    Calls Try.prog 6 #[u, v] w fun e w' => e = .returned (.bool true) ∧ Below w.heap.size w w' := by
  have H16 := Lib.hid h16
  have H16' := Lib.hid h16'
  have H20 := Lib.hid h20
  have H20' := Lib.hid h20'
  have HA := Lib.hid hA
  have HB := Lib.hid hB
  have H21 := Lib.hid h21
  have H22 := Lib.hid h22
  clear h16 h16' h20 h20' hA hB h21 h22
  go_enter Try.func6, Try.ntmps6
  go_wp2_with fail
  refine (Aw.awake_any _).mono ?_; rintro e w1 ⟨rfl, hb1⟩
  have a1 := hr.below hb1; have c1 := hr'.below hb1
  clear hr hr'
  go_wp2_with fail
  refine (H16.out _ a1).mono ?_; rintro e w2 ⟨rfl, hb2⟩
  have a2 := a1.below hb2; have c2 := c1.below hb2
  clear a1 c1
  go_wp2_with fail
  refine (H16'.out _ c2).mono ?_; rintro e w3 ⟨rfl, hb3⟩
  have a3 := a2.below hb3; have c3 := c2.below hb3
  clear a2 c2
  go_wp2_with fail
  refine (H20.out _ a3).mono ?_; rintro e w4 ⟨rfl, hb4⟩
  have a4 := a3.below hb4; have c4 := c3.below hb4
  clear a3 c3
  go_wp2_with fail
  refine (H20'.out _ c4).mono ?_; rintro e w5 ⟨rfl, hb5⟩
  have a5 := a4.below hb5; have c5 := c4.below hb5
  clear a4 c4
  go_wp2_with fail
  refine (HA.out _ a5).mono ?_; rintro e w6 ⟨v6, rfl, hr6, hb6⟩
  have a6 := a5.below hb6; have c6 := c5.below hb6
  clear a5 c5
  go_wp2_with fail
  refine (HB.out _ c6).mono ?_; rintro e w7 ⟨v7, rfl, hr7, hb7⟩
  have a7 := a6.below hb7; have c7 := c6.below hb7
  have d7 := RdB.below' hr6 hb7
  clear a6 c6 hr6
  go_wp2_with fail
  refine (H21.out _ _ _ d7 hr7).mono ?_; rintro e w8 ⟨rfl, hb8⟩
  have a8 := a7.below hb8; have c8 := c7.below hb8
  clear a7 c7 d7 hr7
  go_wp2_with fail
  refine (H22.out _ a8 c8).mono ?_; rintro e w9 ⟨rfl, hb9⟩
  clear a8 c8
  go_wp2_with fail
  go_ret
  refine ⟨rfl, ?_⟩
  (repeat (first | assumption | exact Below.refl _ _ | with_reducible refine Below.drew ?_ | with_reducible refine below_alloc ?_ _ | with_reducible refine below_step ?_ (by assumption)))

set_option maxHeartbeats 4000000 in
theorem walkNot (u v : Value) (xs ys : List Val) (w : World) (s s' q q' : Bool) (hno : (s && s' && q && q') = false) (h16 : BoolIs 16 u xs s) (h16' : BoolIs 16 v ys s') (h20 : s = true → BoolIs 20 u xs q) (h20' : s' = true → BoolIs 20 v ys q')
    (hr : RowRd w u xs) (hr' : RowRd w v ys) :
    Calls Try.prog 6 #[u, v] w fun e w' => e = .returned (.bool true) ∧ Below w.heap.size w w' := by
  have H16 := Lib.hid h16
  have H16' := Lib.hid h16'
  have H20 := Lib.hid h20
  have H20' := Lib.hid h20'
  clear h16 h16' h20 h20'
  go_enter Try.func6, Try.ntmps6
  go_wp2_with fail
  refine (Aw.awake_any _).mono ?_; rintro e w1 ⟨rfl, hb1⟩
  have a1 := hr.below hb1; have c1 := hr'.below hb1
  clear hr hr'
  go_wp2_with fail
  refine (H16.out _ a1).mono ?_; rintro e w2 ⟨rfl, hb2⟩
  have a2 := a1.below hb2; have c2 := c1.below hb2
  clear a1 c1
  cases s
  · go_wp2_with (go_at_call 11; refine (Aw.awake_any _).mono ?_; rintro e w9 ⟨rfl, hb9⟩)
    go_ret
    refine ⟨rfl, ?_⟩
    (repeat (first | assumption | exact Below.refl _ _ | with_reducible refine Below.drew ?_ | with_reducible refine below_alloc ?_ _ | with_reducible refine below_step ?_ (by assumption)))
  go_wp2_with fail
  refine (H16'.out _ c2).mono ?_; rintro e w3 ⟨rfl, hb3⟩
  have a3 := a2.below hb3; have c3 := c2.below hb3
  clear a2 c2
  cases s'
  · go_wp2_with (go_at_call 11; refine (Aw.awake_any _).mono ?_; rintro e w9 ⟨rfl, hb9⟩)
    go_ret
    refine ⟨rfl, ?_⟩
    (repeat (first | assumption | exact Below.refl _ _ | with_reducible refine Below.drew ?_ | with_reducible refine below_alloc ?_ _ | with_reducible refine below_step ?_ (by assumption)))
  go_wp2_with fail
  refine (H20.out (by simp) _ a3).mono ?_; rintro e w4 ⟨rfl, hb4⟩
  have a4 := a3.below hb4; have c4 := c3.below hb4
  clear a3 c3
  cases q
  · go_wp2_with (go_at_call 11; refine (Aw.awake_any _).mono ?_; rintro e w9 ⟨rfl, hb9⟩)
    go_ret
    refine ⟨rfl, ?_⟩
    (repeat (first | assumption | exact Below.refl _ _ | with_reducible refine Below.drew ?_ | with_reducible refine below_alloc ?_ _ | with_reducible refine below_step ?_ (by assumption)))
  go_wp2_with fail
  refine (H20'.out (by simp) _ c4).mono ?_; rintro e w5 ⟨rfl, hb5⟩
  cases q'
  · go_wp2_with (go_at_call 11; refine (Aw.awake_any _).mono ?_; rintro e w9 ⟨rfl, hb9⟩)
    go_ret
    refine ⟨rfl, ?_⟩
    (repeat (first | assumption | exact Below.refl _ _ | with_reducible refine Below.drew ?_ | with_reducible refine below_alloc ?_ _ | with_reducible refine below_step ?_ (by assumption)))
  · cases hno

theorem walk (u : Value) (xs : List Val) (v : Value) (ys : List Val) (h : xs.length ≤ 140737488351232 ∧ ∀ x ∈ xs, x.ok) (h' : ys.length ≤ 140737488351232 ∧ ∀ x ∈ ys, x.ok) (w : World) (hr : RowRd w u xs) (hr' : RowRd w v ys) :
    Calls Try.prog 6 #[u, v] w fun e w' => e = .returned (.bool true) ∧ Below w.heap.size w w' := by
  have h16 : BoolIs 16 u xs (decide (tot xs ≤ 600)) := fun W hr => small_any u xs W hr h.1 h.2
  have h16' : BoolIs 16 v ys (decide (tot ys ≤ 600)) := fun W hr => small_any v ys W hr h'.1 h'.2
  have h20 : decide (tot xs ≤ 600) = true → BoolIs 20 u xs (allValid xs) := fun hd W hr => validAll_any u xs W hr (by have := of_decide_eq_true hd; omega)
  have h20' : decide (tot ys ≤ 600) = true → BoolIs 20 v ys (allValid ys) := fun hd W hr => validAll_any v ys W hr (by have := of_decide_eq_true hd; omega)
  by_cases hgood : tot xs ≤ 600 ∧ tot ys ≤ 600 ∧ allValid xs = true ∧ allValid ys = true
  · obtain ⟨g1, g2, g3, g4⟩ := hgood
    have k20 := h20 (decide_eq_true g1)
    have k20' := h20' (decide_eq_true g2)
    rw [decide_eq_true g1] at h16
    rw [decide_eq_true g2] at h16'
    rw [g3] at k20
    rw [g4] at k20'
    have e1 := encs_len xs
    have e2 := encs_len ys
    refine walkGood u v xs ys w (encs xs) (encs ys) (cmpR xs ys) h16 h16' k20 k20' (fun W hr => encodeRow_any u xs W hr h.2 (by omega)) (fun W hr => encodeRow_any v ys W hr h'.2 (by omega)) (fun W a b ha hb => ?_) (fun W ha hb => rows_any u v xs ys W ha hb (by omega) (by omega)) hr hr'
    rw [← law xs ys g3 g4 h.2 h'.2]
    exact compare_any a b _ _ W ha hb (by omega) (by omega)
  · refine walkNot u v xs ys w _ _ _ _ ?_ h16 h16' h20 h20' hr hr'
    rw [Bool.eq_false_iff]
    intro hc
    simp only [Bool.and_eq_true, decide_eq_true_iff] at hc
    exact hgood ⟨hc.1.1.1, hc.1.1.2, hc.1.2, hc.2⟩
end Go.Proofs.Ytloeiobbcgdopaa.Or
