/- RowcodecEncoding: Encode and EncodeRow return the specified bytes. The reference's Row; the walk. -/
import Derived.Test.YtloeiobbcgdopaaRef5
import Derived.Deep.RegionWith
import Derived.Deep.DeepCutAuto
namespace Go.Proofs.Ytloeiobbcgdopaa.Ec
open Go.RowKit L Fr Rw

set_option maxHeartbeats 1000000 in
theorem refRow_any (v : Value) (xs : List Val) (w : World) (hr : RowRd w v xs) (hok : ∀ x ∈ xs, x.ok) (ht : tot xs ≤ 1000) :
    Calls Try.prog 19 #[v] w fun e w' => ∃ v', e = .returned v' ∧ RdB w' v' (encs xs) ∧ Below w.heap.size w w' := by
  obtain ⟨A, c, rfl, hx⟩ := hr.at_
  have HX := Lib.hid hx
  have hlen := len_tot xs
  clear hx hr
  go_enter Try.func19, Try.ntmps19
  go_wp2
  go_loopw [3, 4] (fun u i wr => ∃ k : Nat, k ≤ xs.length ∧ i = .int .i64 k ∧ wr.ownsRow w.heap.size 5 1 u (encs (xs.take k)).length (Bs (encs (xs.take k))) ∧ Below w.heap.size w wr) (fun _ i _ => xs.length - (intOf i).toNat)
  case atStart => exact ⟨0, Nat.zero_le _, rfl, World.ownsRow_nil _ _ _ _, Below.refl _ _⟩
  case round =>
    obtain ⟨k, hk, rfl, hown, hb⟩ := hrel
    by_cases hlt : k < xs.length
    · obtain ⟨b, off, rfl, c0, c1, c2⟩ := HX.out k hlt
      have hb0 := World.block_lt_of_cell? w _ c0
      rw [← hb.cell hb0] at c0
      rw [← hb.cell (p := ⟨b, off + k * 3 + 1, none⟩) hb0] at c1
      rw [← hb.cell (p := ⟨b, off + k * 3 + 2, none⟩) hb0] at c2
      have hn := (hok _ (List.getElem_mem hlt)).2.1
      have hsz := size_le xs _ (List.getElem_mem hlt)
      have HS := Lib.hid (encs_snoc xs k hlt)
      have hlen1 : (encs (xs.take k)).length ≤ 9000 := by have := encs_len (xs.take k); have := tot_take xs k; omega
      have hlen2 : (Add.enc xs[k].k xs[k].n xs[k].t.data.toList).length ≤ 9000 := by have := enc_len xs[k].k xs[k].n xs[k].t; omega
      have hbase := hb.size
      obtain ⟨x, hxe⟩ : ∃ x, x = xs[k] := ⟨_, rfl⟩
      rw [← hxe] at c0 c1 c2 hsz HS hn hlen2
      clear hxe
      have HO := Lib.hid hown
      have HB := Lib.hid hb
      clear hown hb
      go_wp2_with (first
        | (go_at_call 17; refine (R5.value_any x.k x.n x.t _ hn.1 hn.2 (by omega)).mono ?_; rintro e w1 ⟨v1, rfl, hr1, hb1⟩)
        | (refine wpList_app _ rfl (.tmp 11) (.tmp 16) 25 rfl w.heap.size 5 1 1 Add.sl25 u3 _ _ rfl (own_below HO.out hb1) v1 _ _ rfl hr1 (Bs_one _) (by omega) (by omega) (by have := hb1.size; omega) ?_; intro v2 w2 hown2 hg2 hat2))
      go_roundw
      case rel =>
        refine ⟨k + 1, by omega, by go_num, own_cast hown2 (by rw [HS.out]; simp) (by rw [HS.out]; simp [Bs]), ?_⟩
        exact (below_step HB.out hb1).grown hg2 (by have := hb1.size; omega) (fun g hg => (HO.out.lt g hg).1)
      case measure => simp [intOf]; omega
    · have hkk : k = xs.length := by omega
      subst hkk
      rw [List.take_length] at hown
      go_wp2
      go_ret
      exact ⟨_, rfl, Rd.of_own hown, hb⟩

/-- 'called so, it returns a []byte that reads l' -/
def Gives (f : Nat) (args : Array Value) (l : List UInt8) (W : World) : Prop := Calls Try.prog f args W fun e w' => ∃ v', e = .returned v' ∧ RdB w' v' l ∧ Below W.heap.size W w'
theorem conv {w : World} {v : Value} {l : List UInt8} (h : RdB w v l) : (convert 25 9 v).run Try.prog w = .ok (.string ⟨l.toArray⟩) w := run_conv_bs (P := Try.prog) w 25 9 5 v l Try.underlying25 Try.underlying5 Try.underlying9 h

theorem box_cell (w : World) (c : Array Value) (t : TypeId) (i : Nat) (v : Value) (h : c[i]? = some v) : (w.alloc (.cells c t)).cell? ⟨w.heap.size, i, none⟩ = some v := by
  rw [World.cell?_alloc_new]; exact h
set_option maxHeartbeats 4000000 in
theorem walkShort (k n : Int) (t : ByteArray) (u : Value) (xs : List Val) (w : World) (A B : List UInt8) (hs : t.size ≤ 300) (hsm : ∀ W, RowRd W u xs → Calls Try.prog 16 #[u] W fun e w' => e = .returned (.bool true) ∧ Below W.heap.size W w')
    (hr : RowRd w u xs) (h12 : ∀ W, Gives 12 #[.agg #[.int .i64 k, .int .i64 n, .string t]] A W) (h17 : ∀ W, Gives 17 #[.agg #[.int .i64 k, .int .i64 n, .string t]] A W)
    (h18 : ∀ W, RowRd W u xs → Gives 18 #[u] B W) (h19 : ∀ W, RowRd W u xs → Gives 19 #[u] B W) :
    Calls Try.prog 5 #[.agg #[.int .i64 k, .int .i64 n, .string t], u] w fun e w' => e = .returned (.bool true) ∧ Below w.heap.size w w' := by
  have H16 := Lib.hid hsm
  have H12 := Lib.hid h12
  have H17 := Lib.hid h17
  have H18 := Lib.hid h18
  have H19 := Lib.hid h19
  clear hsm h12 h17 h18 h19
  go_enter Try.func5, Try.ntmps5
  go_wp2_with (first
    | (go_at_call 11; refine (Aw.awake_any _).mono ?_; rintro e w1 ⟨rfl, hb1⟩; have c0 := Keep.of_below hb1 _ _ (box_cell w _ 23 0 _ rfl); have c1 := Keep.of_below hb1 _ _ (box_cell w _ 23 1 _ rfl); have c2 := Keep.of_below hb1 _ _ (box_cell w _ 23 2 _ rfl))
    | (go_at_call 16; refine (H16.out _ ((hr.below (below_new _ _)).below hb1)).mono ?_; rintro e w2 ⟨rfl, hb2⟩; have d0 := Keep.of_below hb2 _ _ c0; have d1 := Keep.of_below hb2 _ _ c1; have d2 := Keep.of_below hb2 _ _ c2))
  have HB : Below w.heap.size w w2 := below_step (below_step (below_new _ _) hb1) hb2
  have HR : RowRd w2.drew u xs := hr.below HB.drew
  clear c0 c1 c2 hb1 hb2
  go_cut [4] (fun b W => b = .bool true ∧ Below w.heap.size w W)
  case first =>
    go_region_with (first
      | (go_at_call 12; refine (H12.out _).mono ?_; rintro e w3 ⟨v3, rfl, hr3, hb3⟩; have e3 := conv hr3; have f0 := Keep.of_below hb3 _ _ d0; have f1 := Keep.of_below hb3 _ _ d1; have f2 := Keep.of_below hb3 _ _ d2)
      | (go_at_call 17; refine (H17.out _).mono ?_; rintro e w4 ⟨v4, rfl, hr4, hb4⟩; have e4 := conv hr4; have e34 := conv (Rd.below hr3 hb4); have R4 := (HR.below hb3).below hb4)
      | (go_at_call 18; refine (H18.out _ R4).mono ?_; rintro e w5 ⟨v5, rfl, hr5, hb5⟩; have e5 := conv hr5; have R5 := R4.below hb5)
      | (go_at_call 19; refine (H19.out _ R5).mono ?_; rintro e w6 ⟨v6, rfl, hr6, hb6⟩; have e6 := conv hr6; have e56 := conv (Rd.below hr5 hb6)))
    all_goals (go_wp2_with fail; go_meet; exact ⟨rfl, below_step (below_step (below_step (below_step HB.drew hb3) hb4) hb5) hb6⟩)
  case rest =>
    obtain ⟨rfl, HB3⟩ := hcut
    go_wp2
    go_ret
    exact ⟨rfl, HB3⟩

def SmallIs (u : Value) (xs : List Val) (b : Bool) : Prop := ∀ W, RowRd W u xs → Calls Try.prog 16 #[u] W fun e w' => e = .returned (.bool b) ∧ Below W.heap.size W w'
set_option maxHeartbeats 1000000 in
theorem walkNot (k n : Int) (t : ByteArray) (u : Value) (xs : List Val) (w : World) (hsm : SmallIs u xs false) (hr : RowRd w u xs) :
    Calls Try.prog 5 #[.agg #[.int .i64 k, .int .i64 n, .string t], u] w fun e w' => e = .returned (.bool true) ∧ Below w.heap.size w w' := by
  have H16 := Lib.hid hsm
  clear hsm
  go_enter Try.func5, Try.ntmps5
  go_wp2_with (first
    | (go_at_call 11; refine (Aw.awake_any _).mono ?_; rintro e w1 ⟨rfl, hb1⟩)
    | (go_at_call 16; refine (H16.out _ ((hr.below (below_new _ _)).below hb1)).mono ?_; rintro e w2 ⟨rfl, hb2⟩))
  go_ret
  refine ⟨rfl, ?_⟩
  (repeat (first | assumption | exact Below.refl _ _ | with_reducible refine Below.drew ?_ | with_reducible refine below_alloc ?_ _ | with_reducible refine below_step ?_ (by assumption)))
set_option maxHeartbeats 1000000 in
theorem walkLong (k n : Int) (t : ByteArray) (u : Value) (xs : List Val) (w : World) (hsm : SmallIs u xs true) (hr : RowRd w u xs) (ht : 300 < t.size) (ht' : t.size ≤ 9223372036854775807) :
    Calls Try.prog 5 #[.agg #[.int .i64 k, .int .i64 n, .string t], u] w fun e w' => e = .returned (.bool true) ∧ Below w.heap.size w w' := by
  have H16 := Lib.hid hsm
  clear hsm
  go_enter Try.func5, Try.ntmps5
  go_wp2_with (first
    | (go_at_call 11; refine (Aw.awake_any _).mono ?_; rintro e w1 ⟨rfl, hb1⟩; try have c2 := Keep.of_below hb1 _ _ (box_cell w _ 23 2 _ rfl))
    | (go_at_call 16; refine (H16.out _ ((hr.below (below_new _ _)).below hb1)).mono ?_; rintro e w2 ⟨rfl, hb2⟩; have d2 := Keep.of_below hb2 _ _ c2))
  go_ret
  refine ⟨rfl, ?_⟩
  (repeat (first | assumption | exact Below.refl _ _ | with_reducible refine Below.drew ?_ | with_reducible refine below_alloc ?_ _ | with_reducible refine below_step ?_ (by assumption)))

theorem small_is (u : Value) (xs : List Val) (hl : xs.length ≤ 140737488351232) (hok : ∀ x ∈ xs, x.ok) : SmallIs u xs (decide (tot xs ≤ 600)) := fun W hr => small_any u xs W hr hl hok

theorem walk (x : Val) (u : Value) (xs : List Val) (hx : x.ok) (h : xs.length ≤ 140737488351232 ∧ ∀ x ∈ xs, x.ok) (w : World) (hr : RowRd w u xs) :
    Calls Try.prog 5 #[x.v, u] w fun e w' => e = .returned (.bool true) ∧ Below w.heap.size w w' := by
  have hsm := small_is u xs h.1 h.2
  obtain ⟨_, hn, ht⟩ := hx
  by_cases hs : tot xs ≤ 600
  · rw [decide_eq_true hs] at hsm
    by_cases hl : x.t.size ≤ 300
    · exact walkShort x.k x.n x.t u xs w _ _ hl hsm hr (fun W => Add.encode_any x.k x.n x.t W hn.1 hn.2 (by omega)) (fun W => R5.value_any x.k x.n x.t W hn.1 hn.2 (by omega))
        (fun W h' => encodeRow_any u xs W h' h.2 (by omega)) (fun W h' => refRow_any u xs W h' h.2 (by omega))
    · exact walkLong x.k x.n x.t u xs w hsm hr (by omega) (by omega)
  · rw [decide_eq_false hs] at hsm
    exact walkNot x.k x.n x.t u xs w hsm hr
end Go.Proofs.Ytloeiobbcgdopaa.Ec
