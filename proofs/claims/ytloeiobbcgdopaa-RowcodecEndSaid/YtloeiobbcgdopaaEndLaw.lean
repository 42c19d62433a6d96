/- RowcodecEnd: the strings from a prefix to before its End are those that begin with it. The plain law and the walk. -/
import Derived.Test.YtloeiobbcgdopaaAwake
import Derived.Test.YtloeiobbcgdopaaShelf
import Derived.Test.YtloeiobbcgdopaaFrame
namespace Go.Proofs.Ytloeiobbcgdopaa.Le
open Go.RowKit L En

theorem less_nil_right (s : List UInt8) : Op.bytesLess s [] = false := by cases s <;> rfl
theorem less_common : ∀ (r s t : List UInt8), Op.bytesLess (r ++ s) (r ++ t) = Op.bytesLess s t
  | [], _, _ => rfl
  | c :: r, s, t => by simp [Op.bytesLess, less_common r s t]

theorem ff_pre (m : Nat) : ∀ s : List UInt8, Lib.hasPrefix s (List.replicate m 255) = !Op.bytesLess s (List.replicate m 255) := by
  induction m with
  | zero => intro s; simp [Lib.hasPrefix, less_nil_right]
  | succ m ih =>
    intro s
    cases s with
    | nil => simp [List.replicate_succ, Lib.hasPrefix, Op.bytesLess]
    | cons c s =>
      have h := ih s
      simp only [List.replicate_succ, Lib.hasPrefix, List.isPrefixOf, Op.bytesLess] at h ⊢
      by_cases hc : c = 255
      · subst hc
        rw [h]; simp
      · have h1 : c < 255 := by
          rw [UInt8.lt_iff_toNat_lt]
          have := c.toNat_lt
          have h2 : c.toNat ≠ 255 := fun e => hc (UInt8.toNat_inj.1 e)
          simp; omega
        simp [h1, Ne.symm hc]

theorem one_pre (x : UInt8) (hx : x ≠ 255) (m : Nat) (s : List UInt8) :
    Lib.hasPrefix s (x :: List.replicate m 255) = (!Op.bytesLess s (x :: List.replicate m 255) && Op.bytesLess s [x + 1]) := by
  cases s with
  | nil => simp [Lib.hasPrefix, Op.bytesLess]
  | cons y u =>
    have h := ff_pre m u
    have hx1 : (x + 1).toNat = x.toNat + 1 := by
      have := x.toNat_lt
      have h2 : x.toNat ≠ 255 := fun e => hx (UInt8.toNat_inj.1 e)
      rw [UInt8.toNat_add]; simp; omega
    simp only [Lib.hasPrefix, List.isPrefixOf, Op.bytesLess, less_nil_right] at h ⊢
    rcases Nat.lt_trichotomy y.toNat x.toNat with hlt | heq | hgt
    · have h1 : y < x := UInt8.lt_iff_toNat_lt.2 hlt
      have h2 : (x == y) = false := by rw [beq_eq_false_iff_ne]; intro e; subst e; omega
      simp [h1, h2]
    · have e := UInt8.toNat_inj.1 heq
      subst e
      have h3 : y < y + 1 := by rw [UInt8.lt_iff_toNat_lt]; omega
      have h4 : ¬ y < y := by rw [UInt8.lt_iff_toNat_lt]; omega
      simp [h3, h4, h]
    · have h1 : ¬ y < x := by rw [UInt8.lt_iff_toNat_lt]; omega
      have h2 : (x == y) = false := by rw [beq_eq_false_iff_ne]; intro e; subst e; omega
      have h3 : ¬ y < x + 1 := by rw [UInt8.lt_iff_toNat_lt]; omega
      simp [h1, h2, h3]

theorem pre_common : ∀ (r t : List UInt8) (e : List UInt8), (∀ s, Lib.hasPrefix s t = (!Op.bytesLess s t && Op.bytesLess s e)) → e ≠ [] → t ≠ [] →
    ∀ s, Lib.hasPrefix s (r ++ t) = (!Op.bytesLess s (r ++ t) && Op.bytesLess s (r ++ e))
  | [], _, _, h, _, _, s => h s
  | c :: r, t, e, h, he, ht, s => by
    cases s with
    | nil => simp [Lib.hasPrefix, Op.bytesLess]
    | cons y u =>
      have ih := pre_common r t e h he ht u
      simp only [Lib.hasPrefix, List.isPrefixOf, Op.bytesLess, List.cons_append] at ih ⊢
      rcases Nat.lt_trichotomy y.toNat c.toNat with hlt | heq | hgt
      · have h1 : y < c := UInt8.lt_iff_toNat_lt.2 hlt
        have h2 : (c == y) = false := by rw [beq_eq_false_iff_ne]; intro e; subst e; omega
        simp [h1, h2]
      · have e := UInt8.toNat_inj.1 heq
        subst e
        have h4 : ¬ y < y := by rw [UInt8.lt_iff_toNat_lt]; omega
        simp [h4, ih]
      · have h1 : ¬ y < c := by rw [UInt8.lt_iff_toNat_lt]; omega
        have h2 : (c == y) = false := by rw [beq_eq_false_iff_ne]; intro e; subst e; omega
        have h3 : (y == c) = false := by rw [beq_eq_false_iff_ne]; intro e; subst e; omega
        simp [h1, h2, h3]

theorem split_rev : ∀ l : List UInt8, ∃ q m, l.reverse = q ++ List.replicate m 255 ∧ (q = [] ∨ ∃ r x, q = r ++ [x] ∧ x ≠ 255)
  | [] => ⟨[], 0, rfl, .inl rfl⟩
  | x :: l => by
    rw [List.reverse_cons]
    by_cases hx : x = 255
    · obtain ⟨q, m, hl, hq⟩ := split_rev l
      exact ⟨q, m + 1, by rw [hl, hx, List.replicate_succ']; simp, hq⟩
    · exact ⟨l.reverse ++ [x], 0, by simp, .inr ⟨l.reverse, x, rfl, hx⟩⟩
theorem split_ff (l : List UInt8) : ∃ q m, l = q ++ List.replicate m 255 ∧ (q = [] ∨ ∃ r x, q = r ++ [x] ∧ x ≠ 255) := by
  have := split_rev l.reverse
  rwa [List.reverse_reverse] at this

/-- P5.1 of End -/
theorem law (p s : List UInt8) : Lib.hasPrefix s p = (!Op.bytesLess s p && (!endOk p || Op.bytesLess s (endS p))) := by
  obtain ⟨q, m, rfl, hq⟩ := split_ff p
  have hcut : Cut (q ++ List.replicate m 255) q := ⟨m, rfl⟩
  rcases hq with rfl | ⟨r, x, rfl, hx⟩
  · have hst := hcut.nil rfl
    rw [endOk, hst]
    simpa using ff_pre m s
  · have hst : strip (r ++ [x] ++ List.replicate m 255) = r ++ [x] := hcut.stop (by simp) (by simpa using hx)
    have hok : endOk (r ++ [x] ++ List.replicate m 255) = true := by rw [endOk, hst]; simp
    have hS : endS (r ++ [x] ++ List.replicate m 255) = r ++ [x + 1] := by rw [endS, hst, if_neg (by simp), up]; simp
    rw [hok, hS]
    have := pre_common r (x :: List.replicate m 255) [x + 1] (one_pre x hx m) (by simp) (by simp) s
    simpa using this

def EndIs (k : Nat) (p : ByteArray) (E : List UInt8) (ok : Bool) : Prop := ∀ W : World, Calls Try.prog k #[.string p] W fun e w' => e = .returned (.tuple #[.string ⟨E.toArray⟩, .bool ok]) ∧ Below W.heap.size W w'
theorem hp_any (s p : ByteArray) (b : Bool) (h : Lib.hasPrefix s.data.toList p.data.toList = b) (w : World) : Calls Try.prog 13 #[.string s, .string p] w fun e w' => e = .returned (.bool b) ∧ w = w' :=
  (Try.strings_HasPrefix s p w).mono fun e w' ⟨h1, h2⟩ => ⟨by rw [h1, h], h2.symm⟩

set_option maxHeartbeats 1000000 in
theorem walkShort (p s : ByteArray) (w : World) (E : List UInt8) (b1 ok b2 : Bool) (hp : p.size ≤ 100) (hs : s.size ≤ 100) (h14 : EndIs 14 p E ok) (h15 : EndIs 15 p E ok)
    (h1 : Op.bytesLess s.toList p.toList = b1) (h2 : Op.bytesLess s.toList E = b2) (hb : Lib.hasPrefix s.data.toList p.data.toList = (!b1 && (!ok || b2))) :
    Calls Try.prog 4 #[.string p, .string s] w fun e w' => e = .returned (.bool true) ∧ Below w.heap.size w w' := by
  have hE : (⟨E.toArray⟩ : ByteArray).toList = E := by rw [ByteArray.toList_eq]
  have hB := Lib.hid hb
  clear hb
  cases b1 <;> cases ok <;> cases b2
  all_goals
    have h13 := hp_any s p _ hB.out
    simp only [Bool.not_true, Bool.not_false, Bool.and_true, Bool.and_false, Bool.or_true, Bool.or_false, Bool.or_self, Bool.and_self] at h13
    have H13 := Lib.hid h13
    clear h13
    go_enter Try.func4, Try.ntmps4
    go_wp2_with (first
      | (go_at_call 11; refine (Aw.awake_any _).mono ?_; rintro e w1 ⟨rfl, hb1⟩)
      | (go_at_call 14; refine (h14 _).mono ?_; rintro e w2 ⟨rfl, hb2⟩)
      | (go_at_call 15; refine (h15 _).mono ?_; rintro e w3 ⟨rfl, hb3⟩)
      | (go_at_call 13; refine (H13.out _).mono ?_; rintro e w4 ⟨rfl, rfl⟩))
    go_ret
    exact ⟨rfl, below_step (below_step hb1 hb2) hb3⟩
set_option maxHeartbeats 1000000 in
theorem walkLong (p s : ByteArray) (w : World) (hp : p.size ≤ 9223372036854775807) (hs : s.size ≤ 9223372036854775807) (h : 100 < p.size ∨ 100 < s.size) :
    Calls Try.prog 4 #[.string p, .string s] w fun e w' => e = .returned (.bool true) ∧ Below w.heap.size w w' := by
  by_cases h1 : 100 < p.size
  · go_enter Try.func4, Try.ntmps4
    go_wp2_with (go_at_call 11; refine (Aw.awake_any _).mono ?_; rintro e w1 ⟨rfl, hb1⟩)
    go_ret
    refine ⟨rfl, ?_⟩
    (repeat (first | assumption | exact Below.refl _ _ | with_reducible refine Below.drew ?_ | with_reducible refine below_alloc ?_ _ | with_reducible refine below_step ?_ (by assumption)))
  · have h2 : 100 < s.size := by omega
    go_enter Try.func4, Try.ntmps4
    go_wp2_with (go_at_call 11; refine (Aw.awake_any _).mono ?_; rintro e w1 ⟨rfl, hb1⟩)
    go_ret
    refine ⟨rfl, ?_⟩
    (repeat (first | assumption | exact Below.refl _ _ | with_reducible refine Below.drew ?_ | with_reducible refine below_alloc ?_ _ | with_reducible refine below_step ?_ (by assumption)))
theorem walk (p s : ByteArray) (hp : p.size ≤ maxLen) (hs : s.size ≤ maxLen) (w : World) : Calls Try.prog 4 #[.string p, .string s] w fun e w' => e = .returned (.bool true) ∧ Below w.heap.size w w' := by
  unfold maxLen at hp hs
  by_cases h : 100 < p.size ∨ 100 < s.size
  · exact walkLong p s w hp hs h
  · refine walkShort p s w _ _ _ _ (by omega) (by omega) (fun W => end_any p W (by omega)) (fun W => refEnd_any p W (by omega)) rfl rfl ?_
    rw [ByteArray.toList_eq, ByteArray.toList_eq]
    exact law _ _
end Go.Proofs.Ytloeiobbcgdopaa.Le
