/- RowcodecRoundTrip: decoding an encoded row gives the row back. -/
import Derived.Test.YtloeiobbcgdopaaDecRow
namespace Go.Proofs.Ytloeiobbcgdopaa.Rt
open Go.RowKit L Fr Rw R4 Dc

theorem cmpI_self (a : Int) : cmpI a a = 0 := by simp [cmpI]
theorem cmpB_self : ∀ l : List UInt8, cmpB l l = 0
  | [] => rfl
  | c :: l => by
    have h : ¬ c < c := by rw [UInt8.lt_iff_toNat_lt]; omega
    simp [cmpB, h, cmpB_self l]
theorem cmpV_self (x : Val) : cmpV x x = 0 := by simp [cmpV, cmpB_self]
theorem cmpR_self : ∀ xs : List Val, cmpR xs xs = 0
  | [] => rfl
  | x :: xs => by simp [cmpR, cmpV_self, cmpR_self xs]
abbrev Gets (A : List UInt8) (xs : List Val) : Prop := ∀ W a, RdB W a A → Calls Try.prog 28 #[a] W fun e w' => ∃ v', e = .returned (.tuple #[v', .int .i64 0]) ∧ RowRd w' v' xs ∧ Below W.heap.size W w'
set_option maxHeartbeats 2000000 in
theorem walkGood (u : Value) (xs : List Val) (A : List UInt8) (w : World) (h16 : Or.BoolIs 16 u xs true) (h20 : Or.BoolIs 20 u xs true) (h18 : Or.EncIs u xs A) (h28 : Gets A xs)
    (h22 : ∀ W p, RowRd W p xs → RowRd W u xs → Calls Try.prog 22 #[p, u] W fun e w' => e = .returned (.int .i64 0) ∧ Below W.heap.size W w') (hr : RowRd w u xs) :
    Calls Try.prog 10 #[u] w fun e w' => e = .returned (.bool true) ∧ Below w.heap.size w w' := by
  have H16 := Lib.hid h16
  have H20 := Lib.hid h20
  have H18 := Lib.hid h18
  have H28 := Lib.hid h28
  have H22 := Lib.hid h22
  clear h16 h20 h18 h28 h22
  go_enter Try.func10, Try.ntmps10
  go_wp2_with (first
    | (go_at_call 11; refine (Aw.awake_any _).mono ?_; rintro e w1 ⟨rfl, hb1⟩; have a1 := hr.below hb1)
    | (go_at_call 16; refine (H16.out _ a1).mono ?_; rintro e w2 ⟨rfl, hb2⟩; have a2 := a1.below hb2)
    | (go_at_call 20; refine (H20.out _ a2).mono ?_; rintro e w3 ⟨rfl, hb3⟩; have a3 := a2.below hb3)
    | (go_at_call 18; refine (H18.out _ a3).mono ?_; rintro e w4 ⟨v4, rfl, hr4, hb4⟩; have a4 := a3.below hb4)
    | (go_at_call 28; refine (H28.out _ _ hr4).mono ?_; rintro e w5 ⟨v5, rfl, hr5, hb5⟩; have a5 := a4.below hb5)
    | (go_at_call 22; refine (H22.out _ _ hr5 a5).mono ?_; rintro e w6 ⟨rfl, hb6⟩))
  go_ret
  refine ⟨rfl, ?_⟩
  (repeat (first | assumption | exact Below.refl _ _ | with_reducible refine Below.drew ?_ | with_reducible refine below_alloc ?_ _ | with_reducible refine below_step ?_ (by assumption)))
set_option maxHeartbeats 2000000 in
theorem walkNot (u : Value) (xs : List Val) (w : World) (s q : Bool) (hno : (s && q) = false) (h16 : Or.BoolIs 16 u xs s) (h20 : s = true → Or.BoolIs 20 u xs q) (hr : RowRd w u xs) :
    Calls Try.prog 10 #[u] w fun e w' => e = .returned (.bool true) ∧ Below w.heap.size w w' := by
  have H16 := Lib.hid h16
  have H20 := Lib.hid h20
  clear h16 h20
  go_enter Try.func10, Try.ntmps10
  go_wp2_with fail
  refine (Aw.awake_any _).mono ?_; rintro e w1 ⟨rfl, hb1⟩
  have a1 := hr.below hb1
  go_wp2_with fail
  refine (H16.out _ a1).mono ?_; rintro e w2 ⟨rfl, hb2⟩
  have a2 := a1.below hb2
  cases s
  · go_wp2_with (go_at_call 11; refine (Aw.awake_any _).mono ?_; rintro e w9 ⟨rfl, hb9⟩)
    go_ret
    refine ⟨rfl, ?_⟩
    (repeat (first | assumption | exact Below.refl _ _ | with_reducible refine Below.drew ?_ | with_reducible refine below_alloc ?_ _ | with_reducible refine below_step ?_ (by assumption)))
  go_wp2_with fail
  refine (H20.out (by simp) _ a2).mono ?_; rintro e w4 ⟨rfl, hb4⟩
  cases q
  · go_wp2_with (go_at_call 11; refine (Aw.awake_any _).mono ?_; rintro e w9 ⟨rfl, hb9⟩)
    go_ret
    refine ⟨rfl, ?_⟩
    (repeat (first | assumption | exact Below.refl _ _ | with_reducible refine Below.drew ?_ | with_reducible refine below_alloc ?_ _ | with_reducible refine below_step ?_ (by assumption)))
  · cases hno

theorem walk (u : Value) (xs : List Val) (h : xs.length ≤ 140737488351232 ∧ ∀ x ∈ xs, x.ok) (w : World) (hr : RowRd w u xs) :
    Calls Try.prog 10 #[u] w fun e w' => e = .returned (.bool true) ∧ Below w.heap.size w w' := by
  have h16 : Or.BoolIs 16 u xs (decide (tot xs ≤ 600)) := fun W hr => small_any u xs W hr h.1 h.2
  have h20 : decide (tot xs ≤ 600) = true → Or.BoolIs 20 u xs (allValid xs) := fun hd W hr => validAll_any u xs W hr (by have := of_decide_eq_true hd; omega)
  by_cases hgood : tot xs ≤ 600 ∧ allValid xs = true
  · obtain ⟨g1, g3⟩ := hgood
    have k20 := h20 (decide_eq_true g1)
    rw [decide_eq_true g1] at h16
    rw [g3] at k20
    have e1 := encs_len xs
    refine walkGood u xs (encs xs) w h16 k20 (fun W hr => encodeRow_any u xs W hr h.2 (by omega)) (fun W a ha => ?_) (fun W p hp hu => ?_) hr
    · refine (Dw.decodeRow_any a _ W ha (by omega)).mono ?_
      rintro e w' ⟨v', c, rfl, hd, hb⟩
      rcases hd with ⟨h1, _⟩ | ⟨ys, h1, h2, rfl⟩
      · rw [decode_encs xs g3 h.2] at h1; cases h1
      · rw [decode_encs xs g3 h.2] at h1
        injection h1 with h1
        subst h1
        exact ⟨v', rfl, h2, hb⟩
    · have := rows_any p u xs xs W hp hu (by omega) (by omega)
      rwa [cmpR_self] at this
  · refine walkNot u xs w _ _ ?_ h16 h20 hr
    rw [Bool.eq_false_iff]
    intro hc
    simp only [Bool.and_eq_true, decide_eq_true_iff] at hc
    exact hgood hc
end Go.Proofs.Ytloeiobbcgdopaa.Rt
