/- RowcodecKey: Key returns the concatenated encodings of the columns. -/
import Derived.Test.YtloeiobbcgdopaaRef5
import Derived.Deep.RegionWith
import Derived.Deep.DeepCutAuto
namespace Go.Proofs.Ytloeiobbcgdopaa.Ke
open Go.RowKit L Fr Rw

/-- the value of a column, NULL where the row has none -/
def col (xs : List Val) (c : Int) : Val := if 0 ≤ c then xs.getD c.toNat ⟨0, 0, ⟨#[]⟩⟩ else ⟨0, 0, ⟨#[]⟩⟩
def enc1 (x : Val) : List UInt8 := Add.enc x.k x.n x.t.data.toList
def keyOf (xs : List Val) (cs : List Int) : List UInt8 := cs.flatMap fun c => enc1 (col xs c)
theorem key_snoc (xs : List Val) (cs : List Int) (k : Nat) (h : k < cs.length) : keyOf xs (cs.take (k + 1)) = keyOf xs (cs.take k) ++ enc1 (col xs cs[k]) := by
  rw [List.take_succ_eq_append_getElem h]
  generalize cs.take k = A
  simp [keyOf]
theorem col_ok (xs : List Val) (c : Int) (hok : ∀ x ∈ xs, x.ok) (ht : tot xs ≤ 600) : In64 (col xs c).n ∧ (col xs c).t.size ≤ 600 := by
  have h0 : In64 (⟨0, 0, ⟨#[]⟩⟩ : Val).n ∧ (⟨0, 0, ⟨#[]⟩⟩ : Val).t.size ≤ 600 := ⟨⟨by decide, by decide⟩, by decide⟩
  unfold col
  split
  · rw [List.getD_eq_getElem?_getD]
    cases h : xs[c.toNat]? with
    | none => simpa using h0
    | some x =>
      have hm := List.mem_of_getElem? h
      have := size_le xs x hm
      exact ⟨(hok x hm).2.1, by simp; omega⟩
  · exact h0
theorem enc1_len (x : Val) (h : x.t.size ≤ 600) : (enc1 x).length ≤ 6000 := by have := enc_len x.k x.n x.t; unfold enc1; omega
theorem key_len (xs : List Val) (hok : ∀ x ∈ xs, x.ok) (ht : tot xs ≤ 600) : ∀ cs : List Int, (keyOf xs cs).length ≤ 6000 * cs.length
  | [] => by simp [keyOf]
  | c :: cs => by
    have ih := key_len xs hok ht cs
    have := enc1_len _ (col_ok xs c hok ht).2
    simp only [keyOf, List.flatMap_cons, List.length_append, List.length_cons] at *
    omega
/-- the bytes of the value at a column, whether the row has it -/
def Has (xs : List Val) (c : Int) : Prop := 0 ≤ c ∧ c < xs.length

set_option maxRecDepth 100000 in
set_option maxHeartbeats 2000000 in
theorem key_any (v u : Value) (xs : List Val) (cs : List Int) (w : World) (hr : RowRd w v xs) (hi : RdI w u cs) (hok : ∀ x ∈ xs, x.ok) (hic : ∀ c ∈ cs, In64 c) (ht : tot xs ≤ 600) (hn : cs.length ≤ 20) :
    Calls Try.prog 26 #[v, u] w fun e w' => e = .returned (.string ⟨(keyOf xs cs).toArray⟩) ∧ Below w.heap.size w w' := by
  obtain ⟨A, c, rfl, hx⟩ := hr.at_
  obtain ⟨A', c', rfl, hy⟩ := hi.at_
  have HX := Lib.hid hx
  have HY := Lib.hid hy
  have hlen := len_tot xs
  clear hx hy hr hi
  go_enter Try.func26, Try.ntmps26
  go_wp2
  go_loopw [5, 11] (fun b i wr => ∃ k : Nat, k ≤ cs.length ∧ i = .int .i64 k ∧ wr.ownsRow w.heap.size 5 1 b (keyOf xs (cs.take k)).length (Bs (keyOf xs (cs.take k))) ∧ Below w.heap.size w wr) (fun _ i _ => cs.length - (intOf i).toNat)
  case atStart => exact ⟨0, Nat.zero_le _, rfl, World.ownsRow_nil _ _ _ _, Below.refl _ _⟩
  case round =>
    obtain ⟨k, hk, rfl, hown, hb⟩ := hrel
    by_cases hlt : k < cs.length
    · obtain ⟨b', off', rfl, e0⟩ := HY.out k hlt
      rw [← hb.cell (World.block_lt_of_cell? w _ e0)] at e0
      have HS := Lib.hid (key_snoc xs cs k hlt)
      have hcol := col_ok xs cs[k] hok ht
      have hin := hic _ (List.getElem_mem hlt)
      obtain ⟨q, hq⟩ : ∃ q, q = cs[k] := ⟨_, rfl⟩
      rw [← hq] at e0 HS hcol hin
      clear hq
      obtain ⟨hin1, hin2⟩ := hin
      have hlen1 : (keyOf xs (cs.take k)).length ≤ 120000 := by
        have := key_len xs hok ht (cs.take k)
        have := List.length_take_le k cs
        omega
      have hbase := hb.size
      have HO := Lib.hid hown
      have HB := Lib.hid hb
      clear hown hb
      by_cases hh : 0 ≤ q ∧ q < xs.length
      · obtain ⟨j, rfl⟩ := Int.eq_ofNat_of_zero_le hh.1
        have hj : j < xs.length := by omega
        clear hh
        obtain ⟨b, off, rfl, c0, c1, c2⟩ := HX.out j hj
        have hb0 := World.block_lt_of_cell? w _ c0
        rw [← HB.out.cell hb0] at c0
        rw [← HB.out.cell (p := ⟨b, off + j * 3 + 1, none⟩) hb0] at c1
        rw [← HB.out.cell (p := ⟨b, off + j * 3 + 2, none⟩) hb0] at c2
        have hbw : b < wr.heap.size := Nat.lt_of_lt_of_le hb0 hbase
        have hcx : col xs (j : Int) = xs[j] := by unfold col; rw [if_pos (by omega)]; simp [hj]
        rw [hcx] at hcol HS
        obtain ⟨x, hxe⟩ : ∃ x, x = xs[j] := ⟨_, rfl⟩
        rw [← hxe] at c0 c1 c2 HS hcol
        clear hxe hcx
        obtain ⟨hn1, hsz⟩ := hcol
        go_wp2_with (go_at_call 30; refine (Add.add_any w.heap.size u5 (keyOf xs (cs.take k)) x.k x.n x.t _ (HO.out.alloc _) (by simp; omega) hn1.1 hn1.2 (by omega) (by omega)).mono ?_; rintro e w1 ⟨v1, rfl, hown1, hg1⟩)
        go_roundw
        case rel => exact ⟨k + 1, by omega, by go_num, by rw [HS.out]; exact hown1, (below_alloc HB.out _).grown hg1 (by simp; omega) (fun g hg => (HO.out.lt g hg).1)⟩
        case measure => simp [intOf]; omega
      · have hcx : col xs q = ⟨0, 0, ⟨#[]⟩⟩ := by
          unfold col
          split
          · rw [List.getD_eq_getElem?_getD, List.getElem?_eq_none (by omega)]; rfl
          · rfl
        rw [hcx] at HS
        clear hcx hcol
        by_cases h0 : 0 ≤ q
        · have h1 : (xs.length : Int) ≤ q := by omega
          clear hh
          go_wp2_with (go_at_call 30; refine (Add.add_any w.heap.size u5 (keyOf xs (cs.take k)) 0 0 ⟨#[]⟩ _ (HO.out.alloc _) (by simp; omega) (by omega) (by omega) (by omega) (by decide)).mono ?_; rintro e w1 ⟨v1, rfl, hown1, hg1⟩)
          go_roundw
          case rel => exact ⟨k + 1, by omega, by go_num, by rw [HS.out]; exact hown1, (below_alloc HB.out _).grown hg1 (by simp; omega) (fun g hg => (HO.out.lt g hg).1)⟩
          case measure => simp [intOf]; omega
        · have h1 : q < 0 := by omega
          clear hh h0
          go_wp2_with (go_at_call 30; refine (Add.add_any w.heap.size u5 (keyOf xs (cs.take k)) 0 0 ⟨#[]⟩ _ (HO.out.alloc _) (by simp; omega) (by omega) (by omega) (by omega) (by decide)).mono ?_; rintro e w1 ⟨v1, rfl, hown1, hg1⟩)
          go_roundw
          case rel => exact ⟨k + 1, by omega, by go_num, by rw [HS.out]; exact hown1, (below_alloc HB.out _).grown hg1 (by simp; omega) (fun g hg => (HO.out.lt g hg).1)⟩
          case measure => simp [intOf]; omega
    · have hkk : k = cs.length := by omega
      subst hkk
      rw [List.take_length] at hown
      go_wp2_with (refine wpList_conv_bs _ rfl (.tmp 31) 25 9 5 rfl _ rfl (keyOf xs cs) (Rd.of_own hown) Try.underlying25 Try.underlying5 Try.underlying9 ?_)
      go_ret
      exact ⟨rfl, hb⟩

set_option maxRecDepth 100000 in
set_option maxHeartbeats 2000000 in
theorem refKey_any (v u : Value) (xs : List Val) (cs : List Int) (w : World) (hr : RowRd w v xs) (hi : RdI w u cs) (hok : ∀ x ∈ xs, x.ok) (hic : ∀ c ∈ cs, In64 c) (ht : tot xs ≤ 600) (hn : cs.length ≤ 20) :
    Calls Try.prog 27 #[v, u] w fun e w' => e = .returned (.string ⟨(keyOf xs cs).toArray⟩) ∧ Below w.heap.size w w' := by
  obtain ⟨A, c, rfl, hx⟩ := hr.at_
  obtain ⟨A', c', rfl, hy⟩ := hi.at_
  have HX := Lib.hid hx
  have HY := Lib.hid hy
  have hlen := len_tot xs
  clear hx hy hr hi
  go_enter Try.func27, Try.ntmps27
  go_wp2
  go_loopw [5, 6] (fun b i wr => ∃ k : Nat, k ≤ cs.length ∧ i = .int .i64 k ∧ wr.ownsRow w.heap.size 5 1 b (keyOf xs (cs.take k)).length (Bs (keyOf xs (cs.take k))) ∧ Below w.heap.size w wr) (fun _ i _ => cs.length - (intOf i).toNat)
  case atStart => exact ⟨0, Nat.zero_le _, rfl, World.ownsRow_nil _ _ _ _, Below.refl _ _⟩
  case round =>
    obtain ⟨k, hk, rfl, hown, hb⟩ := hrel
    by_cases hlt : k < cs.length
    · obtain ⟨b', off', rfl, e0⟩ := HY.out k hlt
      have hbb := World.block_lt_of_cell? w _ e0
      rw [← hb.cell hbb] at e0
      have HS := Lib.hid (key_snoc xs cs k hlt)
      have hcol := col_ok xs cs[k] hok ht
      have hin := hic _ (List.getElem_mem hlt)
      have hcl := enc1_len _ hcol.2
      obtain ⟨q, hq⟩ : ∃ q, q = cs[k] := ⟨_, rfl⟩
      rw [← hq] at e0 HS hcol hin hcl
      clear hq
      obtain ⟨hin1, hin2⟩ := hin
      have hlen1 : (keyOf xs (cs.take k)).length ≤ 120000 := by
        have := key_len xs hok ht (cs.take k)
        have := List.length_take_le k cs
        omega
      have hbase := hb.size
      have hbw' : b' < wr.heap.size := Nat.lt_of_lt_of_le hbb hbase
      have HO := Lib.hid hown
      have HB := Lib.hid hb
      clear hown hb
      by_cases hh : 0 ≤ q ∧ q < xs.length
      · obtain ⟨j, rfl⟩ := Int.eq_ofNat_of_zero_le hh.1
        have hj : j < xs.length := by omega
        clear hh
        obtain ⟨b, off, rfl, c0, c1, c2⟩ := HX.out j hj
        have hb0 := World.block_lt_of_cell? w _ c0
        rw [← HB.out.cell hb0] at c0
        rw [← HB.out.cell (p := ⟨b, off + j * 3 + 1, none⟩) hb0] at c1
        rw [← HB.out.cell (p := ⟨b, off + j * 3 + 2, none⟩) hb0] at c2
        have hbw : b < wr.heap.size := Nat.lt_of_lt_of_le hb0 hbase
        have hcx : col xs (j : Int) = xs[j] := by unfold col; rw [if_pos (by omega)]; simp [hj]
        rw [hcx] at hcol HS hcl
        obtain ⟨x, hxe⟩ : ∃ x, x = xs[j] := ⟨_, rfl⟩
        rw [← hxe] at c0 c1 c2 HS hcol hcl
        clear hxe hcx
        obtain ⟨hn1, hsz⟩ := hcol
        go_wp2_with (first
          | (go_at_call 17; refine (R5.value_any x.k x.n x.t _ hn1.1 hn1.2 (by omega)).mono ?_; rintro e w1 ⟨v1, rfl, hr1, hb1⟩)
          | (refine wpList_app _ rfl (.tmp 36) (.tmp 38) 25 rfl w.heap.size 5 1 1 Add.sl25 u5 _ _ rfl (own_below (HO.out.alloc _) hb1) v1 (enc1 x).length (Bs (enc1 x)) rfl hr1 (Bs_one _) (by omega) (by omega) (by have := hb1.size; simp at this; omega) ?_; intro v2 w2 hown2 hg2 hat2))
        go_roundw
        case rel => exact ⟨k + 1, by omega, by go_num, own_cast hown2 (by rw [HS.out]; simp) (by rw [HS.out]; simp [Bs]), (below_step (below_alloc HB.out _) hb1).grown hg2 (by have := hb1.size; simp at this; omega) (fun g hg => (HO.out.lt g hg).1)⟩
        case measure => simp [intOf]; omega
      · have hcx : col xs q = ⟨0, 0, ⟨#[]⟩⟩ := by
          unfold col
          split
          · rw [List.getD_eq_getElem?_getD, List.getElem?_eq_none (by omega)]; rfl
          · rfl
        rw [hcx] at HS hcl
        clear hcx hcol
        by_cases h0 : 0 ≤ q
        · have h1 : (xs.length : Int) ≤ q := by omega
          clear hh
          go_wp2_with (first
            | (go_at_call 17; refine (R5.value_any 0 0 ⟨#[]⟩ _ (by omega) (by omega) (by decide)).mono ?_; rintro e w1 ⟨v1, rfl, hr1, hb1⟩)
            | (refine wpList_app _ rfl (.tmp 36) (.tmp 38) 25 rfl w.heap.size 5 1 1 Add.sl25 u5 _ _ rfl (own_below (HO.out.alloc _) hb1) v1 (enc1 ⟨0, 0, ⟨#[]⟩⟩).length (Bs (enc1 ⟨0, 0, ⟨#[]⟩⟩)) rfl hr1 (Bs_one _) (by omega) (by omega) (by have := hb1.size; simp at this; omega) ?_; intro v2 w2 hown2 hg2 hat2))
          go_roundw
          case rel => exact ⟨k + 1, by omega, by go_num, own_cast hown2 (by rw [HS.out]; simp) (by rw [HS.out]; simp [Bs]), (below_step (below_alloc HB.out _) hb1).grown hg2 (by have := hb1.size; simp at this; omega) (fun g hg => (HO.out.lt g hg).1)⟩
          case measure => simp [intOf]; omega
        · have h1 : q < 0 := by omega
          clear hh h0
          go_wp2_with (first
            | (go_at_call 17; refine (R5.value_any 0 0 ⟨#[]⟩ _ (by omega) (by omega) (by decide)).mono ?_; rintro e w1 ⟨v1, rfl, hr1, hb1⟩)
            | (refine wpList_app _ rfl (.tmp 36) (.tmp 38) 25 rfl w.heap.size 5 1 1 Add.sl25 u5 _ _ rfl (own_below (HO.out.alloc _) hb1) v1 (enc1 ⟨0, 0, ⟨#[]⟩⟩).length (Bs (enc1 ⟨0, 0, ⟨#[]⟩⟩)) rfl hr1 (Bs_one _) (by omega) (by omega) (by have := hb1.size; simp at this; omega) ?_; intro v2 w2 hown2 hg2 hat2))
          go_roundw
          case rel => exact ⟨k + 1, by omega, by go_num, own_cast hown2 (by rw [HS.out]; simp) (by rw [HS.out]; simp [Bs]), (below_step (below_alloc HB.out _) hb1).grown hg2 (by have := hb1.size; simp at this; omega) (fun g hg => (HO.out.lt g hg).1)⟩
          case measure => simp [intOf]; omega
    · have hkk : k = cs.length := by omega
      subst hkk
      rw [List.take_length] at hown
      go_wp2_with (refine wpList_conv_bs _ rfl (.tmp 40) 25 9 5 rfl _ rfl (keyOf xs cs) (Rd.of_own hown) Try.underlying25 Try.underlying5 Try.underlying9 ?_)
      go_ret
      exact ⟨rfl, hb⟩

abbrev SmallIs (u : Value) (xs : List Val) (b : Bool) : Prop := ∀ W, RowRd W u xs → Calls Try.prog 16 #[u] W fun e w' => e = .returned (.bool b) ∧ Below W.heap.size W w'
abbrev KeyIs (f : Nat) (v u : Value) (xs : List Val) (cs : List Int) (K : List UInt8) : Prop := ∀ W, RowRd W v xs → RdI W u cs → Calls Try.prog f #[v, u] W fun e w' => e = .returned (.string ⟨K.toArray⟩) ∧ Below W.heap.size W w'
theorem RdI.below' {w w' : World} {v : Value} {l : List Int} (h : RdI w v l) (hb : Below w.heap.size w w') : RdI w' v l := Rd.below h hb

set_option maxHeartbeats 2000000 in
theorem walkGood (v : Value) (A : Option Addr) (c : Nat) (xs : List Val) (cs : List Int) (w : World) (K : List UInt8) (hsm : SmallIs v xs true) (h26 : KeyIs 26 v (.slice A cs.length c) xs cs K) (h27 : KeyIs 27 v (.slice A cs.length c) xs cs K)
    (hr : RowRd w v xs) (hi : RdI w (.slice A cs.length c) cs) (hn : cs.length ≤ 20) :
    Calls Try.prog 8 #[v, .slice A cs.length c] w fun e w' => e = .returned (.bool true) ∧ Below w.heap.size w w' := by
  have H16 := Lib.hid hsm
  have H26 := Lib.hid h26
  have H27 := Lib.hid h27
  have HI := Lib.hid hi
  clear hsm h26 h27 hi
  go_enter Try.func8, Try.ntmps8
  go_wp2_with (first
    | (go_at_call 11; refine (Aw.awake_any _).mono ?_; rintro e w1 ⟨rfl, hb1⟩)
    | (go_at_call 16; ((with_reducible refine (H16.out _ (hr.below hb1)).mono ?_); rintro e w2 ⟨rfl, hb2⟩))
    | (go_at_call 26; ((with_reducible refine (H26.out _ ((hr.below hb1).below hb2) (RdI.below' (RdI.below' HI.out hb1) hb2)).mono ?_); rintro e w3 ⟨rfl, hb3⟩))
    | (go_at_call 27; ((with_reducible refine (H27.out _ (((hr.below hb1).below hb2).below hb3) (RdI.below' (RdI.below' (RdI.below' HI.out hb1) hb2) hb3)).mono ?_); rintro e w4 ⟨rfl, hb4⟩)))
  go_ret
  refine ⟨rfl, ?_⟩
  (repeat (first | assumption | exact Below.refl _ _ | with_reducible refine Below.drew ?_ | with_reducible refine below_alloc ?_ _ | with_reducible refine below_step ?_ (by assumption)))
set_option maxHeartbeats 1000000 in
theorem walkNot (v u : Value) (xs : List Val) (w : World) (hsm : SmallIs v xs false) (hr : RowRd w v xs) :
    Calls Try.prog 8 #[v, u] w fun e w' => e = .returned (.bool true) ∧ Below w.heap.size w w' := by
  have H16 := Lib.hid hsm
  clear hsm
  go_enter Try.func8, Try.ntmps8
  go_wp2_with (first
    | (go_at_call 11; refine (Aw.awake_any _).mono ?_; rintro e w1 ⟨rfl, hb1⟩)
    | (go_at_call 16; ((with_reducible refine (H16.out _ (hr.below hb1)).mono ?_); rintro e w2 ⟨rfl, hb2⟩)))
  go_ret
  refine ⟨rfl, ?_⟩
  (repeat (first | assumption | exact Below.refl _ _ | with_reducible refine Below.drew ?_ | with_reducible refine below_alloc ?_ _ | with_reducible refine below_step ?_ (by assumption)))
set_option maxHeartbeats 1000000 in
theorem walkLong (v : Value) (A : Option Addr) (n c : Nat) (xs : List Val) (w : World) (hsm : SmallIs v xs true) (hr : RowRd w v xs) (hn : 20 < n) (hm : n ≤ 140737488351232) :
    Calls Try.prog 8 #[v, .slice A n c] w fun e w' => e = .returned (.bool true) ∧ Below w.heap.size w w' := by
  have H16 := Lib.hid hsm
  clear hsm
  go_enter Try.func8, Try.ntmps8
  go_wp2_with (first
    | (go_at_call 11; refine (Aw.awake_any _).mono ?_; rintro e w1 ⟨rfl, hb1⟩)
    | (go_at_call 16; ((with_reducible refine (H16.out _ (hr.below hb1)).mono ?_); rintro e w2 ⟨rfl, hb2⟩)))
  go_ret
  refine ⟨rfl, ?_⟩
  (repeat (first | assumption | exact Below.refl _ _ | with_reducible refine Below.drew ?_ | with_reducible refine below_alloc ?_ _ | with_reducible refine below_step ?_ (by assumption)))

theorem walk (v : Value) (xs : List Val) (u : Value) (cs : List Int) (h : xs.length ≤ 140737488351232 ∧ ∀ x ∈ xs, x.ok) (h' : cs.length ≤ 140737488351232 ∧ ∀ x ∈ cs, In64 x) (w : World) (hr : RowRd w v xs) (hi : RdI w u cs) :
    Calls Try.prog 8 #[v, u] w fun e w' => e = .returned (.bool true) ∧ Below w.heap.size w w' := by
  have hsm : SmallIs v xs (decide (tot xs ≤ 600)) := fun W hr => small_any v xs W hr h.1 h.2
  by_cases hs : tot xs ≤ 600
  · rw [decide_eq_true hs] at hsm
    obtain ⟨A, c, rfl, _⟩ := hi.at_
    by_cases hl : cs.length ≤ 20
    · exact walkGood v A c xs cs w _ hsm (fun W h1 h2 => key_any v _ xs cs W h1 h2 h.2 h'.2 hs hl) (fun W h1 h2 => refKey_any v _ xs cs W h1 h2 h.2 h'.2 hs hl) hr hi hl
    · exact walkLong v A cs.length c xs w hsm hr (by omega) h'.1
  · rw [decide_eq_false hs] at hsm
    exact walkNot v u xs w hsm hr
end Go.Proofs.Ytloeiobbcgdopaa.Ke
