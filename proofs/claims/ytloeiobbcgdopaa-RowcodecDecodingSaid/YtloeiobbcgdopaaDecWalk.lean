/- Decoding rows: the walks of first, printable, Valid, DecodeRow. -/
import Derived.Test.YtloeiobbcgdopaaDec
namespace Go.Proofs.Ytloeiobbcgdopaa.Dw
open Go.RowKit L Fr Rw R4 Dc

set_option maxHeartbeats 2000000 in
theorem printable_any (s : ByteArray) (w : World) (hs : s.size ≤ 1000000) :
    Calls Try.prog 41 #[.string s] w fun e w' => e = .returned (.bool (printable s.data.toList && decide (s.size ≤ 16))) ∧ w = w' := by
  have hl : s.data.toList.length = s.size := by rw [Array.length_toList]; rfl
  have HL := Lib.hid hl
  clear hl
  go_enter Try.func41, Try.ntmps41
  go_wp2
  go_loop [6] (fun i => ∃ k : Nat, i = .int .i64 k ∧ k ≤ s.size ∧ printable (s.data.toList.take k) = true) (fun i => s.size - (intOf i).toNat)
  case atStart => exact ⟨0, rfl, Nat.zero_le _, rfl⟩
  case round =>
    obtain ⟨k, rfl, hk, ha⟩ := hrel
    have HA := Lib.hid ha
    clear ha
    by_cases h1 : k < s.size
    · have h1' : k < s.data.toList.length := by rw [HL.out]; exact h1
      obtain ⟨x, hx⟩ : ∃ x, x = s[k] := ⟨_, rfl⟩
      have hxt : (s[k].toNat : Int) = (x.toNat : Int) := by rw [hx]
      have HX : Hid (x = s.data.toList[k]) := hx.trans (by simp; rfl)
      clear hx
      by_cases ho : okC x = true
      · have hb := (okC_iff x).1 ho
        have HO := Lib.hid ho
        obtain ⟨hb1, hb2⟩ := hb
        clear ho
        go_wp2
        exact ⟨⟨k + 1, by go_num, by omega, all_snoc h1' HA.out (by rw [← HX.out]; exact HO.out)⟩, by simp [intOf]; omega⟩
      · have hb : ¬ (32 ≤ (x.toNat : Int) ∧ (x.toNat : Int) ≤ 126) := fun h => ho ((okC_iff x).2 h)
        have HO : Hid (okC x = false) := by unfold Hid; simpa using ho
        clear ho
        have hfin := Lib.hid (all_at h1' (by rw [← HX.out]; exact HO.out))
        by_cases h2 : (x.toNat : Int) < 32
        · clear hb
          go_wp2
          go_ret
          exact ⟨ret_bool (by rw [hfin.out]; rfl), rfl⟩
        · have h3 : 126 < (x.toNat : Int) := by omega
          clear hb
          go_wp2
          go_ret
          exact ⟨ret_bool (by rw [hfin.out]; rfl), rfl⟩
    · go_wp2
      go_ret
      refine ⟨ret_bool ?_, rfl⟩
      have := HA.out
      rw [List.take_of_length_le (by rw [HL.out]; omega)] at this
      rw [this, Bool.true_and]
      simp; omega

set_option maxHeartbeats 2000000 in
theorem valid_any (x : Val) (w : World) (ht : x.t.size ≤ 1000000) : Calls Try.prog 37 #[x.v] w fun e w' => e = .returned (.bool (validV x)) ∧ Below w.heap.size w w' := by
  obtain ⟨k, n, t⟩ := x
  unfold Val.v
  by_cases k0 : k = 0
  · have hv := Lib.hid (show validV ⟨k, n, t⟩ = (decide (n = 0) && t.data.toList.isEmpty) by simp [validV, k0])
    subst k0
    by_cases hn : n = 0
    · subst hn
      by_cases hz : t.toList = []
      · have hz' : t.data.toList = [] := by rw [← ByteArray.toList_eq]; exact hz
        have HZ := Lib.hid hz'
        clear hz'
        go_enter Try.func37, Try.ntmps37
        go_wp2
        go_ret
        exact ⟨ret_bool (by rw [hv.out, HZ.out]; rfl), below_new _ _⟩
      · have hz' : ¬ t.data.toList = [] := by rw [← ByteArray.toList_eq]; exact hz
        have HZ := Lib.hid hz'
        clear hz'
        go_enter Try.func37, Try.ntmps37
        go_wp2
        go_ret
        exact ⟨ret_bool (by rw [hv.out]; have := HZ.out; simp; simpa using this), below_new _ _⟩
    · have HN := Lib.hid hn
      go_enter Try.func37, Try.ntmps37
      go_wp2
      go_ret
      exact ⟨ret_bool (by rw [hv.out, decide_eq_false HN.out]; simp), below_new _ _⟩
  · have b0 : (k == 0) = false := by simp [k0]
    by_cases k1 : k = 1
    · have hv := Lib.hid (show validV ⟨k, n, t⟩ = t.data.toList.isEmpty by simp [validV, k1])
      have b1 : (k == 1) = true := by simp [k1]
      clear k0 k1
      go_enter Try.func37, Try.ntmps37
      go_wp2
      go_ret
      exact ⟨ret_bool (by rw [hv.out, isEmpty_bs]), below_new _ _⟩
    · have b1 : (k == 1) = false := by simp [k1]
      by_cases k2 : k = 2
      · have hv := Lib.hid (show validV ⟨k, n, t⟩ = (decide (n = 0) && (printable t.data.toList && decide (t.size ≤ 16))) by simp [validV, k2, Bool.and_assoc])
        have b2 : (k == 2) = true := by simp [k2]
        clear k0 k1 k2
        by_cases hn : n = 0
        · have bn : (n == 0) = true := by simp [hn]
          have HN := Lib.hid hn
          clear hn
          go_enter Try.func37, Try.ntmps37
          go_wp2_with (go_at_call 41; refine (printable_any t _ ht).mono ?_; rintro e w1 ⟨rfl, rfl⟩)
          go_ret
          exact ⟨ret_bool (by rw [hv.out, HN.out]; simp), below_new _ _⟩
        · have bn : (n == 0) = false := by simp [hn]
          have HN := Lib.hid hn
          clear hn
          go_enter Try.func37, Try.ntmps37
          go_wp2
          go_ret
          exact ⟨ret_bool (by rw [hv.out, decide_eq_false HN.out]; simp), below_new _ _⟩
      · have hv := Lib.hid (show validV ⟨k, n, t⟩ = false by simp [validV, k0, k1, k2])
        have b2 : (k == 2) = false := by simp [k2]
        clear k0 k1 k2
        go_enter Try.func37, Try.ntmps37
        go_wp2
        go_ret
        exact ⟨ret_bool hv.out.symm, below_new _ _⟩
def nul : Val := ⟨0, 0, ⟨#[]⟩⟩
/-- what the program's first returns -/
def firstL : List UInt8 → Val × Nat
  | [] => (nul, 0)
  | c :: r =>
    if c = 1 then (nul, 1)
    else if c = 2 then (if 8 ≤ r.length then (⟨1, Nu.unnum (r.take 8), ⟨#[]⟩⟩, 9) else (nul, 0))
    else if c = 3 then (if 0 ≤ Lib.indexByte r 0 ∧ Lib.indexByte (r.take (Lib.indexByte r 0).toNat) 1 < 0 then (⟨2, 0, ⟨(r.take (Lib.indexByte r 0).toNat).toArray⟩⟩, (Lib.indexByte r 0).toNat + 2) else (nul, 0))
    else (nul, 0)

theorem ret_vn {x y : Val} {a b : Int} (h : x = y) (h' : a = b) : Ending.returned (.tuple #[x.v, .int .i64 a]) = .returned (.tuple #[y.v, .int .i64 b]) := by rw [h, h']
theorem head_of (s : ByteArray) (h0 : 0 < s.size) : s.data.toList = s[0] :: s.data.toList.drop 1 := by
  have hl : s.data.toList.length = s.size := by rw [Array.length_toList]; rfl
  have h : 0 < s.data.toList.length := by omega
  have h2 : s.data.toList[0] = s[0] := by simp; rfl
  have h3 := List.drop_eq_getElem_cons h
  rw [h2, List.drop_zero] at h3
  exact h3
theorem tail_len (s : ByteArray) : (s.data.toList.drop 1).length = s.size - 1 := by
  rw [List.length_drop, Array.length_toList]; rfl
theorem ext_tail (s : ByteArray) : (s.extract 1 s.size).data.toList = s.data.toList.drop 1 := by
  have hl : s.data.toList.length = s.size := by rw [Array.length_toList]; rfl
  rw [ByteArray.data_extract, Array.toList_extract, List.extract_eq_take_drop]
  exact List.take_of_length_le (by rw [List.length_drop]; omega)
theorem ext_mid (s : ByteArray) (n : Nat) : (s.extract 1 (n + 1)).data.toList = (s.data.toList.drop 1).take n := by
  rw [ByteArray.data_extract, Array.toList_extract, List.extract_eq_take_drop]
  simp
theorem ext_mid' (s : ByteArray) (n : Nat) : s.extract 1 (n + 1) = ⟨((s.data.toList.drop 1).take n).toArray⟩ := by
  apply ByteArray.ext
  apply Array.ext'
  rw [ext_mid]

set_option maxHeartbeats 2000000 in
theorem first_one (s : ByteArray) (w : World) (h0 : 0 < s.size) (hs : s.size ≤ 1000000) (h1 : s[0] = 1) : Calls Try.prog 36 #[.string s] w fun e w' => e = .returned (.tuple #[nul.v, .int .i64 1]) ∧ Below w.heap.size w w' := by
  have hc : (s[0].toNat : Int) = 1 := by rw [h1]; rfl
  clear h1
  go_enter Try.func36, Try.ntmps36
  go_wp2
  go_returns
  exact ⟨rfl, below_new _ _⟩
set_option maxHeartbeats 2000000 in
theorem first_two_no (s : ByteArray) (w : World) (h0 : 0 < s.size) (h1 : s[0] = 2) (h9 : s.size < 9) : Calls Try.prog 36 #[.string s] w fun e w' => e = .returned (.tuple #[nul.v, .int .i64 0]) ∧ Below w.heap.size w w' := by
  have hc : (s[0].toNat : Int) = 2 := by rw [h1]; rfl
  clear h1
  go_enter Try.func36, Try.ntmps36
  go_wp2
  go_returns
  exact ⟨rfl, below_new _ _⟩
set_option maxHeartbeats 2000000 in
theorem first_other (s : ByteArray) (w : World) (h0 : 0 < s.size) (hs : s.size ≤ 1000000) (h1 : ¬ s[0] = 1) (h2 : ¬ s[0] = 2) (h3 : ¬ s[0] = 3) : Calls Try.prog 36 #[.string s] w fun e w' => e = .returned (.tuple #[nul.v, .int .i64 0]) ∧ Below w.heap.size w w' := by
  have b1 : ((s[0].toNat : Int) == 1) = false := by rw [beq_eq_false_iff_ne]; intro e; exact h1 (UInt8.toNat_inj.1 (by simp; omega))
  have b2 : ((s[0].toNat : Int) == 2) = false := by rw [beq_eq_false_iff_ne]; intro e; exact h2 (UInt8.toNat_inj.1 (by simp; omega))
  have b3 : ((s[0].toNat : Int) == 3) = false := by rw [beq_eq_false_iff_ne]; intro e; exact h3 (UInt8.toNat_inj.1 (by simp; omega))
  clear h1 h2 h3
  go_enter Try.func36, Try.ntmps36
  go_wp2
  go_returns
  exact ⟨rfl, below_new _ _⟩

end Go.Proofs.Ytloeiobbcgdopaa.Dw
