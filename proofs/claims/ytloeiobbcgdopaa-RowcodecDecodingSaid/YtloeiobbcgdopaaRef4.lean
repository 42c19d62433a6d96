/- The reference of layer 4 (ints, Texts, Compare, Rows, Printable, Valid), the reference's Compare of byte strings, valid. -/
import Derived.Test.YtloeiobbcgdopaaRef5
import Derived.BigQuiet
import Derived.Deep.QuietTactic
import Derived.Deep.DeepCutAuto
import Derived.Deep.RegionWith
namespace Go.Proofs.Ytloeiobbcgdopaa.R4
open Go.RowKit L Fr Rw

def cmpI (a b : Int) : Int := if a < b then -1 else if b < a then 1 else 0
def cmpB : List UInt8 → List UInt8 → Int
  | [], [] => 0
  | [], _ :: _ => -1
  | _ :: _, [] => 1
  | a :: x, b :: y => if a < b then -1 else if b < a then 1 else cmpB x y
def cmpV (x y : Val) : Int := if x.k ≠ y.k then cmpI x.k y.k else if x.n ≠ y.n then cmpI x.n y.n else cmpB x.t.data.toList y.t.data.toList
def cmpR : List Val → List Val → Int
  | [], [] => 0
  | [], _ :: _ => -1
  | _ :: _, [] => 1
  | a :: x, b :: y => if cmpV a b ≠ 0 then cmpV a b else cmpR x y

theorem ret_i {a b : Int} (h : a = b) : Ending.returned (.int .i64 a) = .returned (.int .i64 b) := by rw [h]

theorem ints_any (a b : Int) (w : World) : Calls Try.prog 35 #[.int .i64 a, .int .i64 b] w fun e w' => e = .returned (.int .i64 (cmpI a b)) ∧ w = w' := by
  rcases Int.lt_trichotomy a b with h | h | h
  · go_enter Try.func35, Try.ntmps35
    go_wp2
    go_ret
    exact ⟨ret_i (by simp [cmpI, h]), rfl⟩
  · subst h
    go_enter Try.func35, Try.ntmps35
    go_wp2
    go_ret
    exact ⟨ret_i (by simp [cmpI]), rfl⟩
  · have h' : ¬ a < b := by omega
    go_enter Try.func35, Try.ntmps35
    go_wp2
    go_ret
    exact ⟨ret_i (by simp [cmpI, h, h']), rfl⟩

theorem ints_q (a b : Int) (w : World) : Calls Try.prog 35 #[.int .i64 a, .int .i64 b] w fun e w' => e = .returned (.int .i64 (cmpI a b)) ∧ w' = w :=
  (ints_any a b w).mono fun _ _ h => ⟨h.1, h.2.symm⟩
/-- the first k bytes are alike: the rest decides -/
theorem cmpB_drop : ∀ (k : Nat) (a b : List UInt8), a.take k = b.take k → k ≤ a.length → k ≤ b.length → cmpB a b = cmpB (a.drop k) (b.drop k)
  | 0, _, _, _, _, _ => rfl
  | k + 1, x :: a, y :: b, h, h1, h2 => by
    simp only [List.take_succ_cons, List.cons.injEq] at h
    obtain ⟨rfl, h⟩ := h
    have hx : ¬ x < x := by rw [UInt8.lt_iff_toNat_lt]; omega
    simp only [cmpB, hx, if_false, List.drop_succ_cons]
    exact cmpB_drop k a b h (by simpa using h1) (by simpa using h2)
theorem cmpB_at (k : Nat) (a b : List UInt8) (h : a.take k = b.take k) (h1 : k < a.length) (h2 : k < b.length) (hne : a[k].toNat ≠ b[k].toNat) : cmpB a b = cmpI (a[k].toNat : Int) (b[k].toNat : Int) := by
  rw [cmpB_drop k a b h (by omega) (by omega), List.drop_eq_getElem_cons h1, List.drop_eq_getElem_cons h2]
  simp only [cmpB, cmpI, UInt8.lt_iff_toNat_lt]
  split
  · rw [if_pos (by omega)]
  · split
    · rw [if_neg (by omega), if_pos (by omega)]
    · omega
theorem cmpB_end (k : Nat) (a b : List UInt8) (h : a.take k = b.take k) (h1 : k ≤ a.length) (h2 : k ≤ b.length) (he : k = a.length ∨ k = b.length) : cmpB a b = cmpI (a.length : Int) (b.length : Int) := by
  rw [cmpB_drop k a b h h1 h2]
  have hl : (a.drop k).length = a.length - k := List.length_drop
  have hr : (b.drop k).length = b.length - k := List.length_drop
  cases hda : a.drop k with
  | nil =>
    rw [hda] at hl
    cases hdb : b.drop k with
    | nil => rw [hdb] at hr; simp at hl hr; simp only [cmpB, cmpI]; rw [if_neg (by omega), if_neg (by omega)]
    | cons y b' => rw [hdb] at hr; simp at hl hr; simp only [cmpB, cmpI]; rw [if_pos (by omega)]
  | cons x a' =>
    rw [hda] at hl
    cases hdb : b.drop k with
    | nil => rw [hdb] at hr; simp at hl hr; simp only [cmpB, cmpI]; rw [if_neg (by omega), if_pos (by omega)]
    | cons y b' => rw [hdb] at hr; simp at hl hr; omega
theorem take_eq_succ (k : Nat) (a b : List UInt8) (h : a.take k = b.take k) (h1 : k < a.length) (h2 : k < b.length) (he : a[k].toNat = b[k].toNat) : a.take (k + 1) = b.take (k + 1) := by
  rw [List.take_succ_eq_append_getElem h1, List.take_succ_eq_append_getElem h2, h, UInt8.toNat_inj.1 he]

theorem Below.drewN {B : Nat} {a w : World} (h : Below B a w) (n : Nat) : Below B a (w.drewN n) := ⟨h.os, h.tape, h.output, h.size, h.block⟩

set_option maxHeartbeats 2000000 in
theorem texts_any (a b : ByteArray) (w : World) (ha : a.size ≤ 1000000) (_hb : b.size ≤ 1000000) :
    Calls Try.prog 39 #[.string a, .string b] w fun e w' => e = .returned (.int .i64 (cmpB a.data.toList b.data.toList)) ∧ Below w.heap.size w w' := by
  have hal : a.data.toList.length = a.size := by rw [Array.length_toList]; rfl
  have hbl : b.data.toList.length = b.size := by rw [Array.length_toList]; rfl
  have HA := Lib.hid hal
  have HB := Lib.hid hbl
  clear hal hbl
  go_enter Try.func39, Try.ntmps39
  go_wp2
  go_loopw [5] (fun i wr => ∃ k : Nat, i = .int .i64 k ∧ k ≤ a.size ∧ k ≤ b.size ∧ a.data.toList.take k = b.data.toList.take k ∧ Below w.heap.size w wr) (fun i _ => a.size - (intOf i).toNat)
  case atStart => exact ⟨0, rfl, Nat.zero_le _, Nat.zero_le _, rfl, Below.refl _ _⟩
  case round =>
    obtain ⟨k, rfl, hka, hkb, htk, hbel⟩ := hrel
    have HT := Lib.hid htk
    clear htk
    by_cases h1 : k < a.size
    · by_cases h2 : k < b.size
      · have h1' : k < a.data.toList.length := by rw [HA.out]; exact h1
        have h2' : k < b.data.toList.length := by rw [HB.out]; exact h2
        obtain ⟨x, hx⟩ : ∃ x, x = a[k] := ⟨_, rfl⟩
        obtain ⟨y, hy⟩ : ∃ y, y = b[k] := ⟨_, rfl⟩
        have hxt : (a[k].toNat : Int) = (x.toNat : Int) := by rw [hx]
        have hyt : (b[k].toNat : Int) = (y.toNat : Int) := by rw [hy]
        have HX : Hid (x = a.data.toList[k]) := hx.trans (by simp; rfl)
        have HY : Hid (y = b.data.toList[k]) := hy.trans (by simp; rfl)
        clear hx hy
        have hx2 : (x.toNat : Int) ≤ 255 := by have := x.toNat_lt; omega
        have hy2 : (y.toNat : Int) ≤ 255 := by have := y.toNat_lt; omega
        by_cases hne : x.toNat = y.toNat
        · have hbe : ((x.toNat : Int) != (y.toNat : Int)) = false := by simp [hne]
          have HN := Lib.hid hne
          clear hne
          go_wp2_with fail
          go_quiet (fail)
          go_wp2
          exact ⟨⟨k + 1, by go_num, by omega, by omega, take_eq_succ k _ _ HT.out h1' h2' (by rw [← HX.out, ← HY.out]; exact HN.out), Below.drewN hbel _⟩, by simp [intOf]; omega⟩
        · have hbe : ((x.toNat : Int) != (y.toNat : Int)) = true := by simp; omega
          have HN := Lib.hid hne
          clear hne
          go_wp2_with fail
          go_quiet (fail)
          go_wp2_with fail
          have hb2 := Below.drewN hbel nq
          clear hbel
          generalize wr.drewN nq = W2 at *
          go_quiet ((go_at_call 35; exact Calls.quiet_of_same (ints_q _ _ _)))
          go_wp2
          go_ret
          refine ⟨ret_i ?_, Below.drewN hb2 _⟩
          have := cmpB_at k _ _ HT.out h1' h2' (by rw [← HX.out, ← HY.out]; exact HN.out)
          rw [this, ← HX.out, ← HY.out]
      · go_wp2_with (go_at_call 35; refine (ints_any _ _ _).mono ?_; rintro e w1 ⟨rfl, rfl⟩)
        go_ret
        refine ⟨ret_i ?_, hbel⟩
        rw [cmpB_end k _ _ HT.out (by rw [HA.out]; exact hka) (by rw [HB.out]; exact hkb) (by right; rw [HB.out]; omega), HA.out, HB.out]
    · go_wp2_with (go_at_call 35; refine (ints_any _ _ _).mono ?_; rintro e w1 ⟨rfl, rfl⟩)
      go_ret
      refine ⟨ret_i ?_, hbel⟩
      rw [cmpB_end k _ _ HT.out (by rw [HA.out]; exact hka) (by rw [HB.out]; exact hkb) (by left; rw [HA.out]; omega), HA.out, HB.out]

set_option maxHeartbeats 2000000 in
theorem compare_any (a b : Value) (l r : List UInt8) (w : World) (ha : RdB w a l) (hb : RdB w b r) (hl : l.length ≤ 1000000) (_hr : r.length ≤ 1000000) :
    Calls Try.prog 21 #[a, b] w fun e w' => e = .returned (.int .i64 (cmpB l r)) ∧ Below w.heap.size w w' := by
  obtain ⟨A, c, rfl, hx⟩ := Fr.RdB.at_ ha
  obtain ⟨A', c', rfl, hy⟩ := Fr.RdB.at_ hb
  have HX := Lib.hid hx
  have HY := Lib.hid hy
  clear hx hy ha hb
  go_enter Try.func21, Try.ntmps21
  go_wp2
  go_loopw [5] (fun i wr => ∃ k : Nat, i = .int .i64 k ∧ k ≤ l.length ∧ k ≤ r.length ∧ l.take k = r.take k ∧ Below w.heap.size w wr) (fun i _ => l.length - (intOf i).toNat)
  case atStart => exact ⟨0, rfl, Nat.zero_le _, Nat.zero_le _, rfl, Below.refl _ _⟩
  case round =>
    obtain ⟨k, rfl, hka, hkb, htk, hbel⟩ := hrel
    have HT := Lib.hid htk
    clear htk
    by_cases h1 : k < l.length
    · by_cases h2 : k < r.length
      · obtain ⟨b, off, rfl, c0⟩ := HX.out k h1
        obtain ⟨b', off', rfl, d0⟩ := HY.out k h2
        rw [← hbel.cell (World.block_lt_of_cell? w _ c0)] at c0
        rw [← hbel.cell (World.block_lt_of_cell? w _ d0)] at d0
        obtain ⟨x, hx⟩ : ∃ x, x = l[k] := ⟨_, rfl⟩
        obtain ⟨y, hy⟩ : ∃ y, y = r[k] := ⟨_, rfl⟩
        rw [← hx] at c0
        rw [← hy] at d0
        have HX' := Lib.hid hx
        have HY' := Lib.hid hy
        clear hx hy
        have hx2 : (x.toNat : Int) ≤ 255 := by have := x.toNat_lt; omega
        have hy2 : (y.toNat : Int) ≤ 255 := by have := y.toNat_lt; omega
        have hk0 : (0 : Int) ≤ (k : Int) := by omega
        have hk1 : (k : Int) < (l.length : Int) := by omega
        have hk2 : (k : Int) < (r.length : Int) := by omega
        rcases Nat.lt_trichotomy x.toNat y.toNat with hlt | heq | hgt
        · have hd : ((x.toNat : Int) < (y.toNat : Int)) := by omega
          go_wp2_with fail
          go_quiet (fail)
          go_wp2
          go_ret
          refine ⟨ret_i ?_, Below.drewN hbel _⟩
          have := cmpB_at k _ _ HT.out h1 h2 (by rw [← HX'.out, ← HY'.out]; omega)
          rw [this, ← HX'.out, ← HY'.out, cmpI, if_pos hd]
        · have hd1 : ¬ ((x.toNat : Int) < (y.toNat : Int)) := by omega
          have hd2 : ¬ ((y.toNat : Int) < (x.toNat : Int)) := by omega
          have HE := Lib.hid heq
          clear heq
          go_wp2_with fail
          go_quiet (fail)
          go_wp2_with fail
          have hb2 := Below.drewN hbel nq
          clear hbel
          have c1 : (wr.drewN nq).cell? ⟨b, off + k, none⟩ = some (.int .u8 (x.toNat : Int)) := c0
          have d1 : (wr.drewN nq).cell? ⟨b', off' + k, none⟩ = some (.int .u8 (y.toNat : Int)) := d0
          clear c0 d0
          generalize wr.drewN nq = W2 at *
          go_quiet (fail)
          go_wp2
          exact ⟨⟨k + 1, by go_num, by omega, by omega, take_eq_succ k _ _ HT.out h1 h2 (by rw [← HX'.out, ← HY'.out]; exact HE.out), Below.drewN hb2 _⟩, by simp [intOf]; omega⟩
        · have hd1 : ¬ ((x.toNat : Int) < (y.toNat : Int)) := by omega
          have hd2 : ((y.toNat : Int) < (x.toNat : Int)) := by omega
          go_wp2_with fail
          go_quiet (fail)
          go_wp2_with fail
          have hb2 := Below.drewN hbel nq
          clear hbel
          have c1 : (wr.drewN nq).cell? ⟨b, off + k, none⟩ = some (.int .u8 (x.toNat : Int)) := c0
          have d1 : (wr.drewN nq).cell? ⟨b', off' + k, none⟩ = some (.int .u8 (y.toNat : Int)) := d0
          clear c0 d0
          generalize wr.drewN nq = W2 at *
          go_quiet (fail)
          go_wp2
          go_ret
          refine ⟨ret_i ?_, Below.drewN hb2 _⟩
          have := cmpB_at k _ _ HT.out h1 h2 (by rw [← HX'.out, ← HY'.out]; omega)
          rw [this, ← HX'.out, ← HY'.out, cmpI, if_neg (by omega), if_pos (by omega)]
      · have hkr : k = r.length := by omega
        have hlr : r.length < l.length := by omega
        have he := cmpB_end k _ _ HT.out hka hkb (by right; omega)
        have HE := Lib.hid he
        clear he
        go_wp2
        go_ret
        refine ⟨ret_i ?_, hbel⟩
        rw [HE.out, cmpI, if_neg (by omega), if_pos (by omega)]
    · have hkl : k = l.length := by omega
      have he := cmpB_end k _ _ HT.out hka hkb (by left; omega)
      have HE := Lib.hid he
      have HK := Lib.hid hkl
      clear he hkl
      by_cases hlr : l.length < r.length
      · go_wp2
        go_ret
        refine ⟨ret_i ?_, hbel⟩
        rw [HE.out, cmpI, if_pos (by omega)]
      · go_wp2
        go_ret
        refine ⟨ret_i ?_, hbel⟩
        have := HK.out
        rw [HE.out, cmpI, if_neg (by omega), if_neg (by omega)]

set_option maxHeartbeats 2000000 in
theorem compareV_any (x y : Val) (w : World) (hx : x.t.size ≤ 1000000) (hy : y.t.size ≤ 1000000) :
    Calls Try.prog 34 #[x.v, y.v] w fun e w' => e = .returned (.int .i64 (cmpV x y)) ∧ Below w.heap.size w w' := by
  obtain ⟨k, n, t⟩ := x
  obtain ⟨k', n', t'⟩ := y
  unfold Val.v
  by_cases hk : k = k'
  · by_cases hn : n = n'
    · have bk : (k != k') = false := by simp [hk]
      have bn : (n != n') = false := by simp [hn]
      have HR := Lib.hid (show cmpV ⟨k, n, t⟩ ⟨k', n', t'⟩ = cmpB t.data.toList t'.data.toList by simp [cmpV, hk, hn])
      clear hk hn
      go_enter Try.func34, Try.ntmps34
      go_wp2_with (go_at_call 39; refine (texts_any t t' _ hx hy).mono ?_; rintro e w1 ⟨rfl, hb1⟩)
      go_ret
      exact ⟨ret_i HR.out.symm, below_step (below_alloc (below_new _ _) _) hb1⟩
    · have bk : (k != k') = false := by simp [hk]
      have bn : (n != n') = true := by simp [hn]
      have HR := Lib.hid (show cmpV ⟨k, n, t⟩ ⟨k', n', t'⟩ = cmpI n n' by simp [cmpV, hk, hn])
      clear hk hn
      go_enter Try.func34, Try.ntmps34
      go_wp2_with (go_at_call 35; refine (ints_any _ _ _).mono ?_; rintro e w1 ⟨rfl, rfl⟩)
      go_ret
      exact ⟨ret_i HR.out.symm, below_alloc (below_new _ _) _⟩
  · have bk : (k != k') = true := by simp [hk]
    have HR := Lib.hid (show cmpV ⟨k, n, t⟩ ⟨k', n', t'⟩ = cmpI k k' by simp [cmpV, hk])
    clear hk
    go_enter Try.func34, Try.ntmps34
    go_wp2_with (go_at_call 35; refine (ints_any _ _ _).mono ?_; rintro e w1 ⟨rfl, rfl⟩)
    go_ret
    exact ⟨ret_i HR.out.symm, below_alloc (below_new _ _) _⟩

/-- the first k values compare alike: the rest decides -/
def Alike (k : Nat) (a b : List Val) : Prop := cmpR a b = cmpR (a.drop k) (b.drop k)
theorem Alike.zero (a b : List Val) : Alike 0 a b := rfl
theorem Alike.succ {k : Nat} {a b : List Val} (h : Alike k a b) (h1 : k < a.length) (h2 : k < b.length) (he : cmpV a[k] b[k] = 0) : Alike (k + 1) a b := by
  unfold Alike at *
  rw [h, List.drop_eq_getElem_cons h1, List.drop_eq_getElem_cons h2]
  simp [cmpR, he]
theorem Alike.at_ {k : Nat} {a b : List Val} (h : Alike k a b) (h1 : k < a.length) (h2 : k < b.length) (he : cmpV a[k] b[k] ≠ 0) : cmpR a b = cmpV a[k] b[k] := by
  unfold Alike at h
  rw [h, List.drop_eq_getElem_cons h1, List.drop_eq_getElem_cons h2]
  simp [cmpR, he]
theorem Alike.end_ {k : Nat} {a b : List Val} (h : Alike k a b) (h1 : k ≤ a.length) (h2 : k ≤ b.length) (he : k = a.length ∨ k = b.length) : cmpR a b = cmpI (a.length : Int) (b.length : Int) := by
  unfold Alike at h
  rw [h]
  have hl : (a.drop k).length = a.length - k := List.length_drop
  have hr : (b.drop k).length = b.length - k := List.length_drop
  cases hda : a.drop k with
  | nil =>
    rw [hda] at hl
    cases hdb : b.drop k with
    | nil => rw [hdb] at hr; simp at hl hr; simp only [cmpR, cmpI]; rw [if_neg (by omega), if_neg (by omega)]
    | cons y b' => rw [hdb] at hr; simp at hl hr; simp only [cmpR, cmpI]; rw [if_pos (by omega)]
  | cons x a' =>
    rw [hda] at hl
    cases hdb : b.drop k with
    | nil => rw [hdb] at hr; simp at hl hr; simp only [cmpR, cmpI]; rw [if_neg (by omega), if_pos (by omega)]
    | cons y b' => rw [hdb] at hr; simp at hl hr; omega

set_option maxRecDepth 100000 in
set_option maxHeartbeats 2000000 in
theorem rows_any (a b : Value) (xs ys : List Val) (w : World) (ha : RowRd w a xs) (hb : RowRd w b ys) (hx : tot xs ≤ 1000) (hy : tot ys ≤ 1000) :
    Calls Try.prog 22 #[a, b] w fun e w' => e = .returned (.int .i64 (cmpR xs ys)) ∧ Below w.heap.size w w' := by
  obtain ⟨A, c, rfl, hxa⟩ := ha.at_
  obtain ⟨A', c', rfl, hya⟩ := hb.at_
  have HX := Lib.hid hxa
  have HY := Lib.hid hya
  have hlx := len_tot xs
  have hly := len_tot ys
  clear hxa hya ha hb
  go_enter Try.func22, Try.ntmps22
  go_wp2
  go_loopw [5] (fun i wr => ∃ k : Nat, i = .int .i64 k ∧ k ≤ xs.length ∧ k ≤ ys.length ∧ Alike k xs ys ∧ Below w.heap.size w wr) (fun i _ => xs.length - (intOf i).toNat)
  case atStart => exact ⟨0, rfl, Nat.zero_le _, Nat.zero_le _, Alike.zero _ _, Below.refl _ _⟩
  case round =>
    obtain ⟨k, rfl, hka, hkb, hal, hbel⟩ := hrel
    have HA := Lib.hid hal
    clear hal
    by_cases h1 : k < xs.length
    · by_cases h2 : k < ys.length
      · obtain ⟨b, off, rfl, c0, c1, c2⟩ := HX.out k h1
        obtain ⟨b', off', rfl, d0, d1, d2⟩ := HY.out k h2
        have hb0 := World.block_lt_of_cell? w _ c0
        have hb1 := World.block_lt_of_cell? w _ d0
        rw [← hbel.cell hb0] at c0
        rw [← hbel.cell (p := ⟨b, off + k * 3 + 1, none⟩) hb0] at c1
        rw [← hbel.cell (p := ⟨b, off + k * 3 + 2, none⟩) hb0] at c2
        rw [← hbel.cell hb1] at d0
        rw [← hbel.cell (p := ⟨b', off' + k * 3 + 1, none⟩) hb1] at d1
        rw [← hbel.cell (p := ⟨b', off' + k * 3 + 2, none⟩) hb1] at d2
        have hsx := size_le xs _ (List.getElem_mem h1)
        have hsy := size_le ys _ (List.getElem_mem h2)
        obtain ⟨x, hxe⟩ : ∃ x, x = xs[k] := ⟨_, rfl⟩
        obtain ⟨y, hye⟩ : ∃ y, y = ys[k] := ⟨_, rfl⟩
        rw [← hxe] at c0 c1 c2 hsx
        rw [← hye] at d0 d1 d2 hsy
        have HXE := Lib.hid hxe
        have HYE := Lib.hid hye
        clear hxe hye
        have hk0 : (0 : Int) ≤ (k : Int) := by omega
        have hk1 : (k : Int) < (xs.length : Int) := by omega
        have hk2 : (k : Int) < (ys.length : Int) := by omega
        have hcv : ∀ W, Calls Try.prog 34 #[.agg #[.int .i64 x.k, .int .i64 x.n, .string x.t], .agg #[.int .i64 y.k, .int .i64 y.n, .string y.t]] W fun e w' => e = .returned (.int .i64 (cmpV x y)) ∧ Below W.heap.size W w' := fun W => compareV_any x y W (by omega) (by omega)
        have HCV := Lib.hid hcv
        clear hcv
        obtain ⟨r, hr⟩ : ∃ r, r = cmpV x y := ⟨_, rfl⟩
        rw [← hr] at HCV
        have HR := Lib.hid hr
        clear hr
        go_wp2_with fail
        go_cut [6] (fun v W => v = .int .i64 r ∧ Below w.heap.size w W)
        case first =>
          go_region_with (go_at_call 34; refine (HCV.out _).mono ?_; rintro e w1 ⟨rfl, hb1⟩)
          all_goals (go_wp2_with fail; go_meet; exact ⟨rfl, below_step (Below.drew hbel) hb1⟩)
        case rest =>
          obtain ⟨rfl, hb2⟩ := hcut
          clear c0 c1 c2 d0 d1 d2
          by_cases h0 : r = 0
          · have hb0 : (r != 0) = false := by simp [h0]
            have H0 := Lib.hid h0
            clear h0
            go_wp2
            go_roundw
            case rel => exact ⟨k + 1, by go_num, by omega, by omega, HA.out.succ h1 h2 (by rw [← HXE.out, ← HYE.out, ← HR.out]; exact H0.out), hb2⟩
            case measure => simp [intOf]; omega
          · have hb0 : (r != 0) = true := by simp [h0]
            have H0 := Lib.hid h0
            clear h0
            go_wp2
            go_ret
            refine ⟨ret_i ?_, hb2⟩
            rw [HA.out.at_ h1 h2 (by rw [← HXE.out, ← HYE.out, ← HR.out]; exact H0.out), ← HXE.out, ← HYE.out, HR.out]
      · go_wp2_with (go_at_call 35; refine (ints_any _ _ _).mono ?_; rintro e w1 ⟨rfl, rfl⟩)
        go_ret
        exact ⟨ret_i (HA.out.end_ hka hkb (by right; omega)).symm, hbel⟩
    · go_wp2_with (go_at_call 35; refine (ints_any _ _ _).mono ?_; rintro e w1 ⟨rfl, rfl⟩)
      go_ret
      exact ⟨ret_i (HA.out.end_ hka hkb (by left; omega)).symm, hbel⟩

def okC (c : UInt8) : Bool := 32 ≤ c && c ≤ 126
theorem okC_iff (c : UInt8) : okC c = true ↔ 32 ≤ (c.toNat : Int) ∧ (c.toNat : Int) ≤ 126 := by
  simp only [okC, Bool.and_eq_true, decide_eq_true_iff, UInt8.le_iff_toNat_le]
  simp; omega
def printable (l : List UInt8) : Bool := l.all okC
def validV (x : Val) : Bool :=
  if x.k = 0 then decide (x.n = 0) && x.t.data.toList.isEmpty else if x.k = 1 then x.t.data.toList.isEmpty else if x.k = 2 then decide (x.n = 0) && printable x.t.data.toList && decide (x.t.size ≤ 16) else false
theorem all_at {l : List UInt8} {k : Nat} (h : k < l.length) (hc : okC l[k] = false) : printable l = false := by
  unfold printable
  rw [List.all_eq_false]
  exact ⟨l[k], List.getElem_mem h, by simp [hc]⟩
theorem all_snoc {l : List UInt8} {k : Nat} (h : k < l.length) (ha : printable (l.take k) = true) (hc : okC l[k] = true) : printable (l.take (k + 1)) = true := by
  rw [List.take_succ_eq_append_getElem h]
  generalize l.take k = A at *
  simp [printable] at *
  exact ⟨ha, hc⟩

set_option maxHeartbeats 2000000 in
theorem printable_any (s : ByteArray) (w : World) (hs : s.size ≤ 1000000) :
    Calls Try.prog 38 #[.string s] w fun e w' => e = .returned (.bool (printable s.data.toList)) ∧ w = w' := by
  have hl : s.data.toList.length = s.size := by rw [Array.length_toList]; rfl
  have HL := Lib.hid hl
  clear hl
  go_enter Try.func38, Try.ntmps38
  go_wp2
  go_loop [3] (fun i => ∃ k : Nat, i = .int .i64 k ∧ k ≤ s.size ∧ printable (s.data.toList.take k) = true) (fun i => s.size - (intOf i).toNat)
  case atStart => exact ⟨0, rfl, Nat.zero_le _, rfl⟩
  case round =>
    obtain ⟨k, rfl, hk, ha⟩ := hrel
    have HA := Lib.hid ha
    clear ha
    by_cases h1 : k < s.size
    · have h1' : k < s.data.toList.length := by rw [HL.out]; exact h1
      obtain ⟨x, hx⟩ : ∃ x, x = s[k] := ⟨_, rfl⟩
      have hxt : (s[k].toNat : Int) = (x.toNat : Int) := by rw [hx]
      have HX : Hid (x = s.data.toList[k]) := hx.trans (by simp; rfl)
      clear hx
      by_cases ho : okC x = true
      · have hb := (okC_iff x).1 ho
        have HO := Lib.hid ho
        obtain ⟨hb1, hb2⟩ := hb
        clear ho
        go_wp2
        exact ⟨⟨k + 1, by go_num, by omega, all_snoc h1' HA.out (by rw [← HX.out]; exact HO.out)⟩, by simp [intOf]; omega⟩
      · have hb : ¬ (32 ≤ (x.toNat : Int) ∧ (x.toNat : Int) ≤ 126) := fun h => ho ((okC_iff x).2 h)
        have HO : Hid (okC x = false) := by unfold Hid; simpa using ho
        clear ho
        have hfin := Lib.hid (all_at h1' (by rw [← HX.out]; exact HO.out))
        by_cases h2 : (x.toNat : Int) < 32
        · clear hb
          go_wp2
          go_ret
          exact ⟨ret_bool hfin.out.symm, rfl⟩
        · have h3 : 126 < (x.toNat : Int) := by omega
          clear hb
          go_wp2
          go_ret
          exact ⟨ret_bool hfin.out.symm, rfl⟩
    · go_wp2
      go_ret
      refine ⟨ret_bool ?_, rfl⟩
      have := HA.out
      rw [List.take_of_length_le (by rw [HL.out]; omega)] at this
      exact this.symm

theorem isEmpty_bs (t : ByteArray) : t.toList.isEmpty = t.data.toList.isEmpty := by rw [ByteArray.toList_eq]
set_option maxHeartbeats 2000000 in
theorem valid_any (x : Val) (w : World) (ht : x.t.size ≤ 1000000) : Calls Try.prog 33 #[x.v] w fun e w' => e = .returned (.bool (validV x)) ∧ Below w.heap.size w w' := by
  obtain ⟨k, n, t⟩ := x
  unfold Val.v
  by_cases k0 : k = 0
  · have hv := Lib.hid (show validV ⟨k, n, t⟩ = (decide (n = 0) && t.data.toList.isEmpty) by simp [validV, k0])
    have b0 : (k == 0) = true := by simp [k0]
    clear k0
    by_cases hn : n = 0
    · have bn : (n == 0) = true := by simp [hn]
      have HN := Lib.hid hn
      clear hn
      go_enter Try.func33, Try.ntmps33
      go_wp2
      go_ret
      exact ⟨ret_bool (by rw [hv.out, HN.out, isEmpty_bs]; simp), below_new _ _⟩
    · have bn : (n == 0) = false := by simp [hn]
      have HN := Lib.hid hn
      clear hn
      go_enter Try.func33, Try.ntmps33
      go_wp2
      go_ret
      exact ⟨ret_bool (by rw [hv.out, decide_eq_false HN.out]; simp), below_new _ _⟩
  · have b0 : (k == 0) = false := by simp [k0]
    by_cases k1 : k = 1
    · have hv := Lib.hid (show validV ⟨k, n, t⟩ = t.data.toList.isEmpty by simp [validV, k1])
      have b1 : (k == 1) = true := by simp [k1]
      clear k0 k1
      go_enter Try.func33, Try.ntmps33
      go_wp2
      go_ret
      exact ⟨ret_bool (by rw [hv.out, isEmpty_bs]), below_new _ _⟩
    · have b1 : (k == 1) = false := by simp [k1]
      by_cases k2 : k = 2
      · have hv := Lib.hid (show validV ⟨k, n, t⟩ = (decide (n = 0) && printable t.data.toList && decide (t.size ≤ 16)) by simp [validV, k2])
        have b2 : (k == 2) = true := by simp [k2]
        clear k0 k1 k2
        by_cases hn : n = 0
        · have bn : (n == 0) = true := by simp [hn]
          have HN := Lib.hid hn
          clear hn
          obtain ⟨q, hq⟩ : ∃ q, q = printable t.data.toList := ⟨_, rfl⟩
          have hp : ∀ W, Calls Try.prog 38 #[.string t] W fun e w' => e = .returned (.bool q) ∧ W = w' := fun W => by rw [hq]; exact printable_any t W ht
          have HP := Lib.hid hp
          have HQ := Lib.hid hq
          clear hp hq
          cases q
          · go_enter Try.func33, Try.ntmps33
            go_wp2_with (go_at_call 38; refine (HP.out _).mono ?_; rintro e w1 ⟨rfl, rfl⟩)
            go_ret
            exact ⟨ret_bool (by rw [hv.out, ← HQ.out]; simp), below_new _ _⟩
          · go_enter Try.func33, Try.ntmps33
            go_wp2_with (go_at_call 38; refine (HP.out _).mono ?_; rintro e w1 ⟨rfl, rfl⟩)
            go_ret
            exact ⟨ret_bool (by rw [hv.out, ← HQ.out, HN.out]; simp; omega), below_new _ _⟩
        · have bn : (n == 0) = false := by simp [hn]
          have HN := Lib.hid hn
          clear hn
          go_enter Try.func33, Try.ntmps33
          go_wp2
          go_ret
          exact ⟨ret_bool (by rw [hv.out, decide_eq_false HN.out]; simp), below_new _ _⟩
      · have hv := Lib.hid (show validV ⟨k, n, t⟩ = false by simp [validV, k0, k1, k2])
        have b2 : (k == 2) = false := by simp [k2]
        clear k0 k1 k2
        go_enter Try.func33, Try.ntmps33
        go_wp2
        go_ret
        exact ⟨ret_bool hv.out.symm, below_new _ _⟩

def allValid (xs : List Val) : Bool := xs.all validV
theorem allV_at {l : List Val} {k : Nat} (h : k < l.length) (hc : validV l[k] = false) : allValid l = false := by
  unfold allValid
  rw [List.all_eq_false]
  exact ⟨l[k], List.getElem_mem h, by simp [hc]⟩
theorem allV_snoc {l : List Val} {k : Nat} (h : k < l.length) (ha : allValid (l.take k) = true) (hc : validV l[k] = true) : allValid (l.take (k + 1)) = true := by
  rw [List.take_succ_eq_append_getElem h]
  generalize l.take k = A at *
  simp [allValid] at *
  exact ⟨ha, hc⟩
set_option maxHeartbeats 2000000 in
theorem validAll_any (v : Value) (xs : List Val) (w : World) (hr : RowRd w v xs) (ht : tot xs ≤ 1000) :
    Calls Try.prog 20 #[v] w fun e w' => e = .returned (.bool (allValid xs)) ∧ Below w.heap.size w w' := by
  obtain ⟨A, c, rfl, hx⟩ := hr.at_
  have HX := Lib.hid hx
  have hlen := len_tot xs
  clear hx hr
  go_enter Try.func20, Try.ntmps20
  go_wp2
  go_loopw [7] (fun i wr => ∃ k : Nat, k ≤ xs.length ∧ i = .int .i64 k ∧ allValid (xs.take k) = true ∧ Below w.heap.size w wr) (fun i _ => xs.length - (intOf i).toNat)
  case atStart => exact ⟨0, Nat.zero_le _, rfl, rfl, Below.refl _ _⟩
  case round =>
    obtain ⟨k, hk, rfl, ha, hb⟩ := hrel
    have HA := Lib.hid ha
    clear ha
    by_cases hlt : k < xs.length
    · obtain ⟨b, off, rfl, c0, c1, c2⟩ := HX.out k hlt
      have hb0 := World.block_lt_of_cell? w _ c0
      rw [← hb.cell hb0] at c0
      rw [← hb.cell (p := ⟨b, off + k * 3 + 1, none⟩) hb0] at c1
      rw [← hb.cell (p := ⟨b, off + k * 3 + 2, none⟩) hb0] at c2
      have hsz := size_le xs _ (List.getElem_mem hlt)
      obtain ⟨x, hxe⟩ : ∃ x, x = xs[k] := ⟨_, rfl⟩
      rw [← hxe] at c0 c1 c2 hsz
      have HXE := Lib.hid hxe
      clear hxe
      obtain ⟨q, hq⟩ : ∃ q, q = validV x := ⟨_, rfl⟩
      have hp : ∀ W, Calls Try.prog 33 #[.agg #[.int .i64 x.k, .int .i64 x.n, .string x.t]] W fun e w' => e = .returned (.bool q) ∧ Below W.heap.size W w' := fun W => by rw [hq]; exact valid_any x W (by omega)
      have HP := Lib.hid hp
      have HQ := Lib.hid hq
      clear hp hq
      cases q
      · go_wp2_with (go_at_call 33; refine (HP.out _).mono ?_; rintro e w1 ⟨rfl, hb1⟩)
        go_ret
        exact ⟨ret_bool (allV_at hlt (by rw [← HXE.out]; exact HQ.out.symm)).symm, below_step (below_alloc hb _) hb1⟩
      · go_wp2_with (go_at_call 33; refine (HP.out _).mono ?_; rintro e w1 ⟨rfl, hb1⟩)
        go_roundw
        case rel => exact ⟨k + 1, by omega, by go_num, allV_snoc hlt HA.out (by rw [← HXE.out]; exact HQ.out.symm), below_step (below_alloc hb _) hb1⟩
        case measure => simp [intOf]; omega
    · have hkk : k = xs.length := by omega
      subst hkk
      go_wp2
      go_ret
      refine ⟨ret_bool ?_, hb⟩
      have := HA.out
      rw [List.take_length] at this
      exact this.symm
end Go.Proofs.Ytloeiobbcgdopaa.R4
