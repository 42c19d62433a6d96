/- Walks over rows: small, EncodeRow. -/
import Derived.Test.YtloeiobbcgdopaaAwake
import Derived.Test.YtloeiobbcgdopaaFrame
namespace Go.Proofs.Ytloeiobbcgdopaa.Rw
open Go.RowKit L Fr

def tot (xs : List Val) : Nat := (xs.map fun x => x.t.size + 1).sum
theorem tot_snoc (xs : List Val) (k : Nat) (h : k < xs.length) : tot (xs.take (k + 1)) = tot (xs.take k) + (xs[k].t.size + 1) := by
  rw [List.take_succ_eq_append_getElem h]
  generalize xs.take k = A
  simp [tot]
theorem tot_take (xs : List Val) (k : Nat) : tot (xs.take k) ≤ tot xs := by
  have h : tot xs = tot (xs.take k) + tot (xs.drop k) := by
    unfold tot
    rw [← List.sum_append, ← List.map_append, List.take_append_drop]
  omega
theorem len_tot (xs : List Val) : xs.length ≤ tot xs := by
  induction xs with
  | nil => simp [tot]
  | cons x xs ih => simp [tot] at *; omega
def encs (xs : List Val) : List UInt8 := xs.flatMap fun x => Add.enc x.k x.n x.t.data.toList
theorem encs_snoc (xs : List Val) (k : Nat) (h : k < xs.length) : encs (xs.take (k + 1)) = encs (xs.take k) ++ Add.enc xs[k].k xs[k].n xs[k].t.data.toList := by
  rw [List.take_succ_eq_append_getElem h]
  generalize xs.take k = A
  simp [encs]
theorem enc_len (k n : Int) (t : ByteArray) : (Add.enc k n t.data.toList).length ≤ 9 * (t.size + 1) := by
  have hs := Add.esc_size t.data.toList
  have ht : t.data.toList.length = t.size := by rw [Array.length_toList]; rfl
  rw [ht] at hs
  generalize t.data.toList = l at *
  generalize t.size = m at *
  clear ht
  unfold Add.enc
  split
  · simp only [List.length_cons, Num.num, Num.numL, List.length_nil]; omega
  · split
    · simp only [List.length_cons, List.length_append, List.length_nil]; omega
    · simp only [List.length_cons, List.length_nil]; omega
theorem encs_len (xs : List Val) : (encs xs).length ≤ 9 * tot xs := by
  induction xs with
  | nil => simp [encs, tot]
  | cons x xs ih =>
    have := enc_len x.k x.n x.t
    simp [encs, tot] at *; omega
theorem size_le (xs : List Val) (x : Val) (h : x ∈ xs) : x.t.size + 1 ≤ tot xs := by
  induction xs with
  | nil => simp at h
  | cons y xs ih =>
    rcases List.mem_cons.1 h with rfl | h
    · simp [tot]
    · have := ih h; simp [tot] at *; omega
theorem ret_bool {a b : Bool} (h : a = b) : Ending.returned (.bool a) = .returned (.bool b) := by rw [h]

set_option maxRecDepth 100000 in
set_option maxHeartbeats 1000000 in
theorem small_any (v : Value) (xs : List Val) (w : World) (hr : RowRd w v xs) (hl : xs.length ≤ 140737488351232) (hok : ∀ x ∈ xs, x.ok) :
    Calls Try.prog 16 #[v] w fun e w' => e = .returned (.bool (decide (tot xs ≤ 600))) ∧ Below w.heap.size w w' := by
  obtain ⟨A, c, rfl, hx⟩ := hr.at_
  have HX := Lib.hid hx
  clear hx hr
  go_enter Try.func16, Try.ntmps16
  go_wp2
  go_loopw [3, 8] (fun n i wr => ∃ k : Nat, k ≤ xs.length ∧ i = .int .i64 k ∧ n = .int .i64 (tot (xs.take k)) ∧ tot (xs.take k) ≤ 600 ∧ Below w.heap.size w wr) (fun _ i _ => xs.length - (intOf i).toNat)
  case atStart => exact ⟨0, Nat.zero_le _, rfl, rfl, Nat.zero_le _, Below.refl _ _⟩
  case round =>
    obtain ⟨k, hk, rfl, rfl, ht, hb⟩ := hrel
    by_cases hlt : k < xs.length
    · obtain ⟨b, off, rfl, c0, c1, c2⟩ := HX.out k hlt
      have hb0 := World.block_lt_of_cell? w _ c0
      rw [← hb.cell hb0] at c0
      rw [← hb.cell (p := ⟨b, off + k * 3 + 1, none⟩) hb0] at c1
      rw [← hb.cell (p := ⟨b, off + k * 3 + 2, none⟩) hb0] at c2
      have hsz := (hok _ (List.getElem_mem hlt)).2.2
      have HS := Lib.hid (tot_snoc xs k hlt)
      have HT := Lib.hid (tot_take xs (k + 1))
      obtain ⟨x, hxe⟩ : ∃ x, x = xs[k] := ⟨_, rfl⟩
      rw [← hxe] at c0 c1 c2 hsz HS
      clear hxe
      obtain ⟨m, hm⟩ : ∃ m, m = tot (xs.take k) := ⟨_, rfl⟩
      rw [← hm] at ht HS ⊢
      have HM := Lib.hid hm
      clear hm
      by_cases hbig : 600 < m + (x.t.size + 1)
      · go_wp2
        go_ret
        refine ⟨ret_bool ?_, below_alloc hb _⟩
        have h1 := HS.out; have h2 := HT.out
        rw [eq_comm, decide_eq_false_iff_not]; omega
      · go_wp2
        go_roundw
        case rel => exact ⟨k + 1, by omega, by go_num, by rw [HS.out]; go_num, by rw [HS.out]; omega, below_alloc hb _⟩
        case measure => simp [intOf]; omega
    · have hkk : k = xs.length := by omega
      subst hkk
      go_wp2
      go_ret
      refine ⟨ret_bool ?_, hb⟩
      rw [List.take_length] at ht
      rw [eq_comm, decide_eq_true_iff]; exact ht

set_option maxHeartbeats 1000000 in
theorem encodeRow_any (v : Value) (xs : List Val) (w : World) (hr : RowRd w v xs) (hok : ∀ x ∈ xs, x.ok) (ht : tot xs ≤ 1000) :
    Calls Try.prog 18 #[v] w fun e w' => ∃ v', e = .returned v' ∧ RdB w' v' (encs xs) ∧ Below w.heap.size w w' := by
  obtain ⟨A, c, rfl, hx⟩ := hr.at_
  have HX := Lib.hid hx
  have hlen := len_tot xs
  clear hx hr
  go_enter Try.func18, Try.ntmps18
  go_wp2
  go_loopw [3, 8] (fun u i wr => ∃ k : Nat, k ≤ xs.length ∧ i = .int .i64 k ∧ wr.ownsRow w.heap.size 5 1 u (encs (xs.take k)).length (Bs (encs (xs.take k))) ∧ Below w.heap.size w wr) (fun _ i _ => xs.length - (intOf i).toNat)
  case atStart => exact ⟨0, Nat.zero_le _, rfl, World.ownsRow_nil _ _ _ _, Below.refl _ _⟩
  case round =>
    obtain ⟨k, hk, rfl, hown, hb⟩ := hrel
    by_cases hlt : k < xs.length
    · obtain ⟨b, off, rfl, c0, c1, c2⟩ := HX.out k hlt
      have hb0 := World.block_lt_of_cell? w _ c0
      rw [← hb.cell hb0] at c0
      rw [← hb.cell (p := ⟨b, off + k * 3 + 1, none⟩) hb0] at c1
      rw [← hb.cell (p := ⟨b, off + k * 3 + 2, none⟩) hb0] at c2
      have hn := (hok _ (List.getElem_mem hlt)).2.1
      have hsz := size_le xs _ (List.getElem_mem hlt)
      have HS := Lib.hid (encs_snoc xs k hlt)
      have hlen1 : (encs (xs.take k)).length ≤ 9000 := by have := encs_len (xs.take k); have := tot_take xs k; omega
      have hbase := hb.size
      obtain ⟨x, hxe⟩ : ∃ x, x = xs[k] := ⟨_, rfl⟩
      rw [← hxe] at c0 c1 c2 hsz HS hn
      clear hxe
      have HO := Lib.hid hown
      have HB := Lib.hid hb
      clear hown hb
      go_wp2_with (go_at_call 30; refine (Add.add_any w.heap.size u3 (encs (xs.take k)) x.k x.n x.t _ (HO.out.alloc _) (by simp; omega) hn.1 hn.2 (by omega) (by omega)).mono ?_; rintro e w1 ⟨v1, rfl, hown1, hg1⟩)
      go_roundw
      case rel =>
        refine ⟨k + 1, by omega, by go_num, by rw [HS.out]; exact hown1, ?_⟩
        exact (below_alloc HB.out _).grown hg1 (by simp; omega) (fun g hg => (HO.out.lt g hg).1)
      case measure => simp [intOf]; omega
    · have hkk : k = xs.length := by omega
      subst hkk
      rw [List.take_length] at hown
      go_wp2
      go_ret
      exact ⟨_, rfl, Rd.of_own hown, hb⟩
end Go.Proofs.Ytloeiobbcgdopaa.Rw
