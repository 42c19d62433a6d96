/- RowcodecNumbers: Number and ParseNumber are inverse, and Number keeps the order. -/
import Derived.Test.YtloeiobbcgdopaaRef5
import Derived.Deep.RegionWith
import Derived.Deep.DeepCutAuto
namespace Go.Proofs.Ytloeiobbcgdopaa.Nu
open Go.RowKit L

/-- the number that bytes are in base 256 -/
def val (l : List UInt8) : Nat := l.foldl (fun u c => u * 256 + c.toNat) 0
theorem val_snoc (l : List UInt8) (c : UInt8) : val (l ++ [c]) = val l * 256 + c.toNat := by simp [val]
theorem val_lt (l : List UInt8) : val l < 256 ^ l.length := by
  suffices h : ∀ r : List UInt8, val r.reverse < 256 ^ r.length by
    have := h l.reverse; simpa using this
  intro r
  induction r with
  | nil => simp [val]
  | cons c r ih =>
    rw [List.reverse_cons, val_snoc, List.length_cons, Nat.pow_succ]
    have := c.toNat_lt
    omega

theorem or_byte (m : Nat) (c : UInt8) (hm : m < 72057594037927936) : bits BinOp.or IntKind.u64 ((m : Int) * 256) (c.toNat : Int) = ((m * 256 + c.toNat : Nat) : Int) := by
  have := c.toNat_lt
  rw [show ((m : Int) * 256) = ((m * 256 : Nat) : Int) by simp, u64_or_nat _ _ (by omega) (by omega), nat_join 8 _ _ (by omega) (by omega)]
/-- the integer that eight bytes encode -/
def unnum (l : List UInt8) : Int := (val l : Int) - 9223372036854775808
theorem unxor (u : Nat) (hu : u < 18446744073709551616) : wrap64 (bits BinOp.xor IntKind.u64 (u : Int) 9223372036854775808) = (u : Int) - 9223372036854775808 := by
  rw [show (9223372036854775808 : Int) = ((9223372036854775808 : Nat) : Int) from rfl, u64_xor_nat _ _ hu (by decide), show (9223372036854775808 : Nat) = 2 ^ 63 from rfl]
  unfold wrap64
  by_cases h : u < 2 ^ 63
  · rw [Num.xor_top u h]; omega
  · obtain ⟨r, rfl⟩ : ∃ r, u = 2 ^ 63 + r := ⟨u - 2 ^ 63, by omega⟩
    rw [Num.xor_top' r (by omega)]; omega
theorem ret_ii {a b c d : Int} (h : a = b) (h' : c = d) : Ending.returned (.tuple #[.int .i64 a, .int .i64 c]) = .returned (.tuple #[.int .i64 b, .int .i64 d]) := by rw [h, h']

set_option maxHeartbeats 1000000 in
theorem parse_any (s : ByteArray) (w : World) (hs : s.size = 8) :
    Calls Try.prog 24 #[.string s] w fun e w' => e = .returned (.tuple #[.int .i64 (unnum s.data.toList), .int .i64 0]) ∧ w = w' := by
  have h8 : ((s.size : Int) != 8) = false := by simp [hs]
  have hl8 : s.data.toList.length = 8 := by rw [Array.length_toList]; exact hs
  have HS := Lib.hid hs
  have HL := Lib.hid hl8
  have hle : 8 ≤ s.size := by omega
  clear hs hl8
  go_enter Try.func24, Try.ntmps24
  go_wp2
  go_loop [4, 9] (fun u i => ∃ k : Nat, k ≤ 8 ∧ i = .int .i64 k ∧ u = .int .u64 (val (s.data.toList.take k))) (fun _ i => 8 - (intOf i).toNat)
  case atStart => exact ⟨0, by omega, rfl, rfl⟩
  case round =>
    obtain ⟨k, hk, rfl, rfl⟩ := hrel
    obtain ⟨m, hm⟩ : ∃ m, m = val (s.data.toList.take k) := ⟨_, rfl⟩
    have hmb := val_lt (s.data.toList.take k)
    rw [← hm] at hmb ⊢
    have HM := Lib.hid hm
    clear hm
    by_cases hlt : k < 8
    · have hlt' : k < s.size := by omega
      have hl : k < s.data.toList.length := by rw [HL.out]; exact hlt
      have hmb' : m < 72057594037927936 := Nat.lt_of_lt_of_le hmb (Nat.pow_le_pow_right (n := 256) (by omega) (by have := List.length_take_le k s.data.toList; omega : (s.data.toList.take k).length ≤ 7))
      obtain ⟨c, hc⟩ : ∃ c, c = s[k] := ⟨_, rfl⟩
      have hct : (s[k].toNat : Int) = (c.toNat : Int) := by rw [hc]
      have HC : Hid (c = s.data.toList[k]) := hc.trans (by simp; rfl)
      clear hc hmb
      have hor := or_byte m c hmb'
      have hb1 : (m : Int) ≤ 72057594037927935 := by omega
      have hb2 : (c.toNat : Int) ≤ 255 := by have := c.toNat_lt; omega
      clear hmb'
      go_wp2
      refine ⟨⟨k + 1, by omega, by go_num, ?_⟩, by simp [intOf]; omega⟩
      rw [List.take_succ_eq_append_getElem hl, val_snoc, ← HC.out, ← HM.out]
      simp
    · have hkk : k = 8 := by omega
      subst hkk
      have htk : s.data.toList.take 8 = s.data.toList := List.take_of_length_le (Nat.le_of_eq HL.out)
      have hm64 : m < 18446744073709551616 := by rw [htk, HL.out] at hmb; exact hmb
      have hx := unxor m hm64
      have HX := Lib.hid hx
      clear hmb hm64 hx
      go_wp2
      go_ret2
      exact ⟨ret_ii (by rw [HX.out, unnum, HM.out, htk]) rfl, rfl⟩

theorem parse_bad (s : ByteArray) (w : World) (hs : ¬ s.size = 8) :
    Calls Try.prog 24 #[.string s] w fun e w' => e = .returned (.tuple #[.int .i64 0, .int .i64 2]) ∧ w = w' := by
  have h8 : ((s.size : Int) != 8) = true := by simp; omega
  go_enter Try.func24, Try.ntmps24
  go_wp2
  go_ret2
  exact ⟨rfl, rfl⟩

theorem val_from (l : List UInt8) : ∀ a : Nat, l.foldl (fun u c => u * 256 + c.toNat) a = a * 256 ^ l.length + val l := by
  induction l with
  | nil => intro a; simp [val]
  | cons c l ih =>
    intro a
    have h := ih (0 * 256 + c.toNat)
    unfold val
    rw [List.foldl_cons, List.foldl_cons, ih, h, List.length_cons, Nat.pow_succ, Nat.add_mul, Nat.mul_assoc, Nat.mul_comm 256]
    simp; omega
theorem val_cons (c : UInt8) (l : List UInt8) : val (c :: l) = c.toNat * 256 ^ l.length + val l := by
  have := val_from l (0 * 256 + c.toNat)
  unfold val at *
  rw [List.foldl_cons, this]; simp
theorem less_val : ∀ (l r : List UInt8), l.length = r.length → Op.bytesLess l r = decide (val l < val r)
  | [], [], _ => by simp [Op.bytesLess]
  | a :: l, b :: r, h => by
    have hl : l.length = r.length := by simpa using h
    have ih := less_val l r hl
    have h1 := val_lt l
    have h2 := val_lt r
    rw [val_cons, val_cons, ← hl]
    rw [← hl] at h2
    simp only [Op.bytesLess, ih]
    generalize 256 ^ l.length = p at *
    rcases Nat.lt_trichotomy a.toNat b.toNat with hlt | heq | hgt
    · have e1 : a < b := UInt8.lt_iff_toNat_lt.2 hlt
      have e2 : a.toNat * p + val l < b.toNat * p + val r := by
        have : (a.toNat + 1) * p ≤ b.toNat * p := Nat.mul_le_mul_right _ hlt
        rw [Nat.add_mul] at this; omega
      simp [e1, e2]
    · have e := UInt8.toNat_inj.1 heq
      subst e
      have h4 : ¬ a < a := by rw [UInt8.lt_iff_toNat_lt]; omega
      simp [h4]
    · have e1 : ¬ a < b := by rw [UInt8.lt_iff_toNat_lt]; omega
      have e2 : (a == b) = false := by rw [beq_eq_false_iff_ne]; intro e; subst e; omega
      have e3 : ¬ a.toNat * p + val l < b.toNat * p + val r := by
        have : (b.toNat + 1) * p ≤ a.toNat * p := Nat.mul_le_mul_right _ hgt
        rw [Nat.add_mul] at this; omega
      simp [e1, e2, e3]

theorem val_numL (u : Nat) (h : u < 18446744073709551616) : val (Num.numL u) = u := by
  simp only [val, Num.numL, List.foldl_cons, List.foldl_nil, UInt8.toNat_ofNat']
  omega
theorem numU_lt (n : Int) (h1 : -9223372036854775808 ≤ n) (h2 : n ≤ 9223372036854775807) : Num.numU n < 18446744073709551616 := by unfold Num.numU; omega
theorem unnum_num (n : Int) (h1 : -9223372036854775808 ≤ n) (h2 : n ≤ 9223372036854775807) : unnum (Num.num n) = n := by
  unfold unnum Num.num
  rw [val_numL _ (numU_lt n h1 h2)]
  unfold Num.numU; omega
theorem num_less (a b : Int) (h1 : -9223372036854775808 ≤ a) (h2 : a ≤ 9223372036854775807) (h3 : -9223372036854775808 ≤ b) (h4 : b ≤ 9223372036854775807) : Op.bytesLess (Num.num a) (Num.num b) = decide (a < b) := by
  rw [less_val (Num.num a) (Num.num b) rfl]
  unfold Num.num
  rw [val_numL _ (numU_lt a h1 h2), val_numL _ (numU_lt b h3 h4)]
  unfold Num.numU
  congr 1
  rw [eq_iff_iff]; omega
theorem numL_val (l : List UInt8) (h : l.length = 8) : Num.numL (val l) = l := by
  match l, h with
  | [c0, c1, c2, c3, c4, c5, c6, c7], _ =>
    have h0 := c0.toNat_lt
    have h1 := c1.toNat_lt
    have h2 := c2.toNat_lt
    have h3 := c3.toNat_lt
    have h4 := c4.toNat_lt
    have h5 := c5.toNat_lt
    have h6 := c6.toNat_lt
    have h7 := c7.toNat_lt
    simp only [val, Num.numL, List.foldl_cons, List.foldl_nil, List.cons.injEq, and_true]
    refine ⟨?_, ?_, ?_, ?_, ?_, ?_, ?_, ?_⟩ <;> (rw [← UInt8.toNat_inj, UInt8.toNat_ofNat']; omega)
theorem num_unnum (l : List UInt8) (h : l.length = 8) : Num.num (unnum l) = l := by
  have hv := val_lt l
  rw [h] at hv
  unfold Num.num unnum Num.numU
  rw [show ((val l : Int) - 9223372036854775808 + 9223372036854775808).toNat = val l by omega, numL_val l h]
theorem unnum_in (l : List UInt8) (h : l.length = 8) : -9223372036854775808 ≤ unnum l ∧ unnum l ≤ 9223372036854775807 := by
  have hv := val_lt l
  rw [h] at hv
  unfold unnum; omega

theorem bs (l : List UInt8) : (⟨l.toArray⟩ : ByteArray).toList = l := by rw [ByteArray.toList_eq]
abbrev NumIs (f : Nat) (a : Int) (A : List UInt8) : Prop := ∀ W, Calls Try.prog f #[.int .i64 a] W fun e w' => e = .returned (.string ⟨A.toArray⟩) ∧ Below W.heap.size W w'
abbrev ParIs (s : ByteArray) (n e : Int) : Prop := ∀ W, Calls Try.prog 24 #[.string s] W fun e' w' => e' = .returned (.tuple #[.int .i64 n, .int .i64 e]) ∧ W = w'

set_option maxHeartbeats 2000000 in
theorem walkGood (a b m : Int) (s : ByteArray) (w : World) (A B : List UInt8) (hA : NumIs 23 a A) (hB : NumIs 23 b B) (hA' : NumIs 25 a A) (hP : ParIs ⟨A.toArray⟩ a 0) (hS : ParIs s m 0) (hM : NumIs 25 m s.data.toList)
    (hs : s.size = 8) (q : Bool) (hq : decide (a < b) = q) (hl : Op.bytesLess A B = q) :
    Calls Try.prog 7 #[.int .i64 a, .int .i64 b, .string s] w fun e w' => e = .returned (.bool true) ∧ Below w.heap.size w w' := by
  have h8 : ((s.size : Int) != 8) = false := by simp [hs]
  have hle : s.size ≤ 100 := by omega
  clear hs
  have hA1 := bs A
  have hB1 := bs B
  have hss : (⟨s.data.toList.toArray⟩ : ByteArray) = s := by cases s; simp
  have HA := Lib.hid hA
  have HB := Lib.hid hB
  have HA' := Lib.hid hA'
  have HP := Lib.hid hP
  have HS := Lib.hid hS
  have HM := Lib.hid hM
  clear hA hB hA' hP hS hM
  cases q
  all_goals
    go_enter Try.func7, Try.ntmps7
    go_wp2_with (go_at_call 11; refine (Aw.awake_any _).mono ?_; rintro e w1 ⟨rfl, hb1⟩)
    go_wp2_with (first
      | (go_at_call 23; ((with_reducible refine (HA.out _).mono ?_); rintro e w2 ⟨rfl, hb2⟩))
      | (go_at_call 23; ((with_reducible refine (HB.out _).mono ?_); rintro e w3 ⟨rfl, hb3⟩))
      | (go_at_call 24; ((with_reducible refine (HP.out _).mono ?_); rintro e w4 ⟨rfl, rfl⟩))
      | (go_at_call 24; ((with_reducible refine (HS.out _).mono ?_); rintro e w5 ⟨rfl, rfl⟩))
      | (go_at_call 25; ((with_reducible refine (HA'.out _).mono ?_); rintro e w6 ⟨rfl, hb6⟩))
      | (go_at_call 25; ((with_reducible refine (HM.out _).mono ?_); rintro e w7 ⟨rfl, hb7⟩)))
    go_ret
    refine ⟨rfl, ?_⟩
    (repeat (first | assumption | exact Below.refl _ _ | with_reducible refine Below.drew ?_ | with_reducible refine below_alloc ?_ _ | with_reducible refine below_step ?_ (by assumption)))

set_option maxHeartbeats 2000000 in
theorem walkBad (a b : Int) (s : ByteArray) (w : World) (A B : List UInt8) (hA : NumIs 23 a A) (hB : NumIs 23 b B) (hA' : NumIs 25 a A) (hP : ParIs ⟨A.toArray⟩ a 0) (hS : ParIs s 0 2)
    (hs : ¬ s.size = 8) (hle : s.size ≤ 100) (q : Bool) (hq : decide (a < b) = q) (hl : Op.bytesLess A B = q) :
    Calls Try.prog 7 #[.int .i64 a, .int .i64 b, .string s] w fun e w' => e = .returned (.bool true) ∧ Below w.heap.size w w' := by
  have h8 : ((s.size : Int) != 8) = true := by simp; omega
  clear hs
  have hA1 := bs A
  have hB1 := bs B
  have HA := Lib.hid hA
  have HB := Lib.hid hB
  have HA' := Lib.hid hA'
  have HP := Lib.hid hP
  have HS := Lib.hid hS
  clear hA hB hA' hP hS
  cases q
  all_goals
    go_enter Try.func7, Try.ntmps7
    go_wp2_with (go_at_call 11; refine (Aw.awake_any _).mono ?_; rintro e w1 ⟨rfl, hb1⟩)
    go_wp2_with (first
      | (go_at_call 23; ((with_reducible refine (HA.out _).mono ?_); rintro e w2 ⟨rfl, hb2⟩))
      | (go_at_call 23; ((with_reducible refine (HB.out _).mono ?_); rintro e w3 ⟨rfl, hb3⟩))
      | (go_at_call 24; ((with_reducible refine (HP.out _).mono ?_); rintro e w4 ⟨rfl, rfl⟩))
      | (go_at_call 24; ((with_reducible refine (HS.out _).mono ?_); rintro e w5 ⟨rfl, rfl⟩))
      | (go_at_call 25; ((with_reducible refine (HA'.out _).mono ?_); rintro e w6 ⟨rfl, hb6⟩)))
    go_ret
    refine ⟨rfl, ?_⟩
    (repeat (first | assumption | exact Below.refl _ _ | with_reducible refine Below.drew ?_ | with_reducible refine below_alloc ?_ _ | with_reducible refine below_step ?_ (by assumption)))
set_option maxHeartbeats 1000000 in
theorem walkLong (a b : Int) (s : ByteArray) (w : World) (hs : 100 < s.size) (hm : s.size ≤ 9223372036854775807) :
    Calls Try.prog 7 #[.int .i64 a, .int .i64 b, .string s] w fun e w' => e = .returned (.bool true) ∧ Below w.heap.size w w' := by
  go_enter Try.func7, Try.ntmps7
  go_wp2_with (go_at_call 11; refine (Aw.awake_any _).mono ?_; rintro e w1 ⟨rfl, hb1⟩)
  go_ret
  refine ⟨rfl, ?_⟩
  (repeat (first | assumption | exact Below.refl _ _ | with_reducible refine Below.drew ?_ | with_reducible refine below_alloc ?_ _ | with_reducible refine below_step ?_ (by assumption)))

theorem walk (a b : Int) (s : ByteArray) (ha : Fr.In64 a) (hb : Fr.In64 b) (hs : s.size ≤ maxLen) (w : World) :
    Calls Try.prog 7 #[.int .i64 a, .int .i64 b, .string s] w fun e w' => e = .returned (.bool true) ∧ Below w.heap.size w w' := by
  unfold maxLen at hs
  have hP : ParIs ⟨(Num.num a).toArray⟩ a 0 := fun W => (parse_any ⟨(Num.num a).toArray⟩ W rfl).mono fun e w' h => ⟨h.1.trans (ret_ii (unnum_num a ha.1 ha.2) rfl), h.2⟩
  have hA : NumIs 23 a (Num.num a) := fun W => Num.number_any a W ha.1 ha.2
  have hB : NumIs 23 b (Num.num b) := fun W => Num.number_any b W hb.1 hb.2
  have hA' : NumIs 25 a (Num.num a) := fun W => R5.refNumber_any a W ha.1 ha.2
  have hl := num_less a b ha.1 ha.2 hb.1 hb.2
  by_cases h100 : 100 < s.size
  · exact walkLong a b s w h100 hs
  · by_cases h8 : s.size = 8
    · have hl8 : s.data.toList.length = 8 := by rw [Array.length_toList]; exact h8
      have hin := unnum_in _ hl8
      refine walkGood a b (unnum s.data.toList) s w _ _ hA hB hA' hP (fun W => parse_any s W h8) (fun W => ?_) h8 _ rfl hl
      have := R5.refNumber_any (unnum s.data.toList) W hin.1 hin.2
      rw [num_unnum _ hl8] at this
      exact this
    · exact walkBad a b s w _ _ hA hB hA' hP (fun W => parse_bad s W h8) h8 (by omega) _ rfl hl
end Go.Proofs.Ytloeiobbcgdopaa.Nu
