/- The reference's Decode: its walk. -/
import Derived.Test.YtloeiobbcgdopaaDecRow
namespace Go.Proofs.Ytloeiobbcgdopaa.Dw
open Go.RowKit L Fr Rw R4 Dc

/-- what the reference hands back -/
def RefOut (l : List UInt8) (v : Value) (b : Bool) (w : World) : Prop := (Dc.decode l = none ∧ v = .slice none 0 0 ∧ b = false) ∨ (∃ xs, Dc.decode l = some xs ∧ RowRd w v xs ∧ b = true)
/-- the whole of it: opaque to the walk -/
def RefRes (l : List UInt8) (w : World) (e : Ending) (w' : World) : Prop := ∃ v' c, e = .returned (.tuple #[v', .bool c]) ∧ RefOut l v' c w' ∧ Below w.heap.size w w'
theorem run_mid {r : List UInt8} {j : Nat} (hp : printable (r.take j) = true) (h : j < r.length) (hx : okC r[j] = false) : run r = j := by
  have e : r = r.take j ++ r[j] :: r.drop (j + 1) := by
    conv => lhs; rw [← List.take_append_drop j r, List.drop_eq_getElem_cons h]
  have := run_all hp (r.drop (j + 1)) r[j] hx
  rw [← e] at this
  rw [this, List.length_take]; omega
theorem run_end : ∀ {r : List UInt8}, printable r = true → run r = r.length
  | [], _ => rfl
  | c :: r, h => by
    have h' : okC c = true ∧ printable r = true := by simpa [printable] using h
    simp only [run, h'.1, if_true, run_end h'.2, List.length_cons]
theorem drop_at {l : List UInt8} {k : Nat} (h : k < l.length) : l.drop k = l[k] :: l.drop (k + 1) := List.drop_eq_getElem_cons h
theorem dec_at_no {l : List UInt8} {k : Nat} (h : k < l.length) (h' : Dc.step (l[k] :: l.drop (k + 1)) = none) : Dc.decode (l.drop k) = none := by
  rw [drop_at h]; exact decode_none h'
theorem dec_at_yes {l : List UInt8} {k n : Nat} {x : Val} (h : k < l.length) (h' : Dc.step (l[k] :: l.drop (k + 1)) = some (x, n)) : Dc.decode (l.drop k) = (Dc.decode (l.drop (k + n))).map (x :: ·) := by
  rw [drop_at h, decode_some h', ← drop_at h, List.drop_drop]
theorem step_1 (r : List UInt8) : Dc.step (1 :: r) = some (⟨0, 0, ⟨#[]⟩⟩, 1) := rfl
theorem step_2 (r : List UInt8) (h : 8 ≤ r.length) : Dc.step (2 :: r) = some (⟨1, Nu.unnum (r.take 8), ⟨#[]⟩⟩, 9) := by
  simp only [Dc.step]; rw [if_neg (by decide), if_pos trivial, if_pos h]
theorem step_2no (r : List UInt8) (h : ¬ 8 ≤ r.length) : Dc.step (2 :: r) = none := by
  simp only [Dc.step]; rw [if_neg (by decide), if_pos trivial, if_neg h]
theorem step_3 (r : List UInt8) (h : r[run r]? = some 0 ∧ run r ≤ 16) : Dc.step (3 :: r) = some (⟨2, 0, ⟨(r.take (run r)).toArray⟩⟩, run r + 2) := by
  simp only [Dc.step]; rw [if_neg (by decide), if_neg (by decide), if_pos trivial, if_pos h]
theorem step_3no (r : List UInt8) (h : ¬ (r[run r]? = some 0 ∧ run r ≤ 16)) : Dc.step (3 :: r) = none := by
  simp only [Dc.step]; rw [if_neg (by decide), if_neg (by decide), if_pos trivial, if_neg h]
theorem step_other (c : UInt8) (r : List UInt8) (h1 : ¬ c = 1) (h2 : ¬ c = 2) (h3 : ¬ c = 3) : Dc.step (c :: r) = none := by
  simp only [Dc.step]; rw [if_neg h1, if_neg h2, if_neg h3]
theorem rdb_sub {w : World} {b off k j c : Nat} {l : List UInt8} (h : ∀ i (hi : i < l.length), w.cell? ⟨b, off + i, none⟩ = some (.int .u8 (l[i].toNat : Int))) (hk : k + j ≤ l.length) :
    RdB w (.slice (some ⟨b, off + k, none⟩) j c) ((l.drop k).take j) := by
  have hl : ((l.drop k).take j).length = j := by rw [List.length_take, List.length_drop]; omega
  unfold RdB
  rw [hl]
  refine ⟨by rw [Bs_length, hl, Nat.mul_one], _, _, rfl, fun i u hu => ⟨b, off + k, rfl, ?_⟩⟩
  have hi : i < j := by
    have := (List.getElem?_eq_some_iff.1 hu).1
    rwa [Bs_length, hl] at this
  rw [Nat.add_assoc, h (k + i) (by omega), ← hu]
  simp only [Bs, List.getElem?_map, List.getElem?_take_of_lt hi, List.getElem?_drop]
  rw [List.getElem?_eq_getElem (by omega)]
  rfl
/-- what the outer loop keeps -/
def DI (w : World) (l : List UInt8) (v : Value) (k : Nat) (wr : World) : Prop :=
  ∃ ys : List Val, k ≤ l.length ∧ ys.length ≤ k ∧ wr.ownsRow w.heap.size 23 3 v ys.length (ys.flatMap Val.cells) ∧ Dc.decode l = (Dc.decode (l.drop k)).map (ys ++ ·) ∧ Below w.heap.size w wr
theorem DI.step {w wr w' W0 : World} {l : List UInt8} {v v' : Value} {k n : Nat} {x : Val} {ys : List Val} (hk : k < l.length) (hy : ys.length ≤ k) (hd : Dc.decode l = (Dc.decode (l.drop k)).map (ys ++ ·)) (hb : Below w.heap.size w W0) (hown : wr.ownsRow w.heap.size 23 3 v ys.length (ys.flatMap Val.cells))
    (hs : Dc.step (l[k] :: l.drop (k + 1)) = some (x, n)) (ho : w'.ownsRow w.heap.size 23 3 v' (ys.length + 1) (ys.flatMap Val.cells ++ Val.cells x)) (hg : W0.grownBy w' v.ownBlock) (hz : w.heap.size ≤ W0.heap.size) : DI w l v' (k + n) w' := by
  obtain ⟨h1, h2⟩ := step_pos hs
  refine ⟨ys ++ [x], by simp at h2; omega, by simp; omega, own_cast ho (by simp) (by simp), ?_, hb.grown hg hz (fun g hg => (hown.lt g hg).1)⟩
  rw [hd, dec_at_yes hk hs, Option.map_map]
  congr 1
  funext z
  simp

set_option maxHeartbeats 4000000 in
set_option maxRecDepth 100000 in
theorem refDecode_some (b off c : Nat) (l : List UInt8) (w : World) (hc : l.length ≤ c) (hl : l.length ≤ 100000) (h : ∀ i (hi : i < l.length), w.cell? ⟨b, off + i, none⟩ = some (.int .u8 (l[i].toNat : Int))) :
    Calls Try.prog 29 #[.slice (some ⟨b, off, none⟩) l.length c] w fun e w' => RefRes l w e w' := by
  have H := Lib.hid h
  clear h
  go_enter Try.func29, Try.ntmps29
  go_wp2_with fail
  go_loopw [4, 5] (fun v r wr => ∃ k : Nat, r = .int .i64 k ∧ DI w l v k wr) (fun _ r _ => l.length - (intOf r).toNat)
  case atStart => exact ⟨0, rfl, [], Nat.zero_le _, Nat.le_refl _, own_nilRow _ _, by simp, Below.refl _ _⟩
  case round =>
    obtain ⟨k, rfl, ys, hk, hy, hown, hdec, hb⟩ := hrel
    by_cases hlt : k < l.length
    · have hcell : ∀ i (hi : i < l.length), wr.cell? ⟨b, off + i, none⟩ = some (.int .u8 (l[i].toNat : Int)) := fun i hi => by
        have h := H.out i hi
        have hb0 := World.block_lt_of_cell? w _ h
        rw [← h]; exact hb.cell hb0
      have c0 := hcell k hlt
      have HC := Lib.hid hcell
      have hbs := hb.size
      have HD := Lib.hid hdec
      have HB := Lib.hid hb
      clear hcell hdec hb
      obtain ⟨x, hx⟩ : ∃ x, x = l[k] := ⟨_, rfl⟩
      rw [← hx] at c0
      have HX := Lib.hid hx
      clear hx
      by_cases h1 : x = 1
      · have b1 : ((x.toNat : Int) == 1) = true := by subst h1; rfl
        have H1 := Lib.hid h1
        clear h1
        go_wp2_with (refine wpList_app _ rfl (.tmp 19) (.tmp 21) 32 rfl w.heap.size 23 3 32 sl32 u4 ys.length (ys.flatMap Val.cells) rfl (hown.alloc _) (.slice (some ⟨wr.heap.size, 0, none⟩) 1 1) 1 (Val.cells ⟨0, 0, ⟨#[]⟩⟩) rfl (Rd.new' rfl rfl rfl) (by simp [Val.cells, Value.oneCell']) (by omega) (by omega) (by simp; omega) ?_; intro v3 w3 hown3 hg3 hat3)
        go_roundw
        case rel => exact ⟨k + 1, by go_num, DI.step hlt hy HD.out (below_alloc HB.out _) hown (by rw [← HX.out, H1.out]; exact step_1 _) hown3 hg3 (by simp; omega)⟩
        case measure => simp [intOf]; omega
      have b1 : ((x.toNat : Int) == 1) = false := by rw [beq_eq_false_iff_ne]; intro e; exact h1 (UInt8.toNat_inj.1 (by simp; omega))
      have HN1 := Lib.hid h1
      clear h1
      by_cases h2 : x = 2
      · have b2 : ((x.toNat : Int) == 2) = true := by subst h2; rfl
        have H2 := Lib.hid h2
        clear h2
        by_cases h9 : k + 9 ≤ l.length
        · have hr8 : 8 ≤ (l.drop (k + 1)).length := by rw [List.length_drop]; omega
          have HR8 := Lib.hid hr8
          obtain ⟨r, hr⟩ : ∃ r, r = l.drop (k + 1) := ⟨_, rfl⟩
          have hrg : ∀ j (hj : j < r.length), wr.cell? ⟨b, off + (k + 1 + j), none⟩ = some (.int .u8 (r[j].toNat : Int)) := fun j hj => by
            subst hr
            rw [List.length_drop] at hj
            rw [HC.out (k + 1 + j) (by omega), List.getElem_drop]
          have HG := Lib.hid hrg
          have hrl : r.length = l.length - (k + 1) := by rw [hr, List.length_drop]
          have HR := Lib.hid hr
          clear hrg hr hr8
          go_wp2_with fail
          go_loop [6, 7] (fun u i => ∃ j : Nat, j ≤ 8 ∧ i = .int .i64 ((k + 1 + j : Nat) : Int) ∧ u = .int .u64 (Nu.val (r.take j))) (fun _ i => k + 9 - (intOf i).toNat)
          case atStart => exact ⟨0, by omega, by simp, rfl⟩
          case round =>
            obtain ⟨j, hj, rfl, rfl⟩ := hrel
            obtain ⟨m, hm⟩ : ∃ m, m = Nu.val (r.take j) := ⟨_, rfl⟩
            have hmb := Nu.val_lt (r.take j)
            rw [← hm] at hmb ⊢
            have HM := Lib.hid hm
            clear hm
            by_cases hj8 : j < 8
            · have hlj : j < r.length := by omega
              have hmb' : m < 72057594037927936 := Nat.lt_of_lt_of_le hmb (Nat.pow_le_pow_right (n := 256) (by omega) (by have := List.length_take_le j r; omega : (r.take j).length ≤ 7))
              have cj := HG.out j hlj
              obtain ⟨y, hy'⟩ : ∃ y, y = r[j] := ⟨_, rfl⟩
              rw [← hy'] at cj
              have HY := Lib.hid hy'
              have hb1 : (m : Int) ≤ 72057594037927935 := by omega
              have hb2 : (y.toNat : Int) ≤ 255 := by have := y.toNat_lt; omega
              clear hmb hmb' hy'
              go_wp2_with fail
              refine ⟨⟨j + 1, by omega, by go_num, ?_⟩, by simp [intOf]; omega⟩
              rw [List.take_succ_eq_append_getElem hlj, Nu.val_snoc, ← HY.out, ← HM.out]
              simp
            · have hjj : j = 8 := by omega
              subst hjj
              have hm64 : m < 18446744073709551616 := Nat.lt_of_lt_of_le hmb (Nat.pow_le_pow_right (n := 256) (by omega) (by have := List.length_take_le 8 r; omega : (r.take 8).length ≤ 8))
              have hx := Nu.unxor m hm64
              obtain ⟨N, hN⟩ : ∃ N : Int, N = (m : Int) - 9223372036854775808 := ⟨_, rfl⟩
              rw [← hN] at hx
              have hun : Nu.unnum (r.take 8) = N := by rw [hN, Nu.unnum, HM.out]
              have HU := Lib.hid hun
              have HXX := Lib.hid hx
              clear hN hun hx
              clear hmb hm64
              go_wp2_with (refine wpList_app _ rfl (.tmp 54) (.tmp 59) 32 rfl w.heap.size 23 3 32 sl32 u4 ys.length (ys.flatMap Val.cells) rfl (hown.alloc _) (.slice (some ⟨wr.heap.size, 0, none⟩) 1 1) 1 (Val.cells ⟨1, wrap64 (bits BinOp.xor IntKind.u64 (m : Int) 9223372036854775808), ⟨#[]⟩⟩) rfl (Rd.new' rfl rfl rfl) (by simp [Val.cells, Value.oneCell']) (by omega) (by omega) (by simp; omega) ?_; intro v3 w3 hown3 hg3 hat3)
              go_roundw
              case rel =>
                rw [HXX.out] at hown3
                exact ⟨k + 9, by go_num, DI.step hlt hy HD.out (below_alloc HB.out _) hown (by rw [← HX.out, H2.out, ← HR.out, ← HU.out]; exact step_2 r (by rw [HR.out]; exact HR8.out)) hown3 hg3 (by simp; omega)⟩
              case measure => simp [intOf]; omega
        · have HN9 := Lib.hid h9
          have hn9 : l.length < k + 9 := by omega
          clear h9
          go_wp2_with fail
          go_ret2
          refine ⟨_, _, rfl, Or.inl ⟨?_, rfl, rfl⟩, HB.out⟩
          rw [HD.out, dec_at_no hlt (by rw [← HX.out, H2.out]; exact step_2no _ (by rw [List.length_drop]; have := HN9.out; omega))]; rfl
      · have b2 : ((x.toNat : Int) == 2) = false := by rw [beq_eq_false_iff_ne]; intro e; exact h2 (UInt8.toNat_inj.1 (by simp; omega))
        have HN2 := Lib.hid h2
        clear h2
        by_cases h3 : x = 3
        · have b3 : ((x.toNat : Int) == 3) = true := by subst h3; rfl
          have H3 := Lib.hid h3
          clear h3
          obtain ⟨r, hr⟩ : ∃ r, r = l.drop (k + 1) := ⟨_, rfl⟩
          have hrg : ∀ j (hj : j < r.length), wr.cell? ⟨b, off + (k + 1 + j), none⟩ = some (.int .u8 (r[j].toNat : Int)) := fun j hj => by
            subst hr
            rw [List.length_drop] at hj
            rw [HC.out (k + 1 + j) (by omega), List.getElem_drop]
          have HG := Lib.hid hrg
          have hrl : r.length = l.length - (k + 1) := by rw [hr, List.length_drop]
          have hsub : ∀ j c, k + 1 + j ≤ l.length → RdB wr (.slice (some ⟨b, off + (k + 1), none⟩) j c) (r.take j) := fun j c h => by
            rw [hr]; exact rdb_sub HC.out h
          have HS := Lib.hid hsub
          have hbad : ¬ (r[run r]? = some 0 ∧ run r ≤ 16) → Dc.decode l = none := fun hno => by
            rw [HD.out, dec_at_no hlt (by rw [← HX.out, H3.out, ← hr]; exact step_3no r hno)]; rfl
          have HBAD := Lib.hid hbad
          have hgood : ∀ j (_ : run r = j) (_ : r[j]? = some 0) (_ : j ≤ 16), Dc.step (l[k] :: l.drop (k + 1)) = some (⟨2, 0, ⟨(r.take j).toArray⟩⟩, j + 2) := fun j h1 h2 h3 => by
            rw [← HX.out, H3.out, ← hr, ← h1]; exact step_3 r ⟨by rw [h1]; exact h2, by omega⟩
          have HGOOD := Lib.hid hgood
          clear hrg hr hsub hbad hgood
          go_wp2_with fail
          go_loop [8] (fun i => ∃ j : Nat, j ≤ r.length ∧ i = .int .i64 ((k + 1 + j : Nat) : Int) ∧ printable (r.take j) = true) (fun i => l.length - (intOf i).toNat)
          case atStart => exact ⟨0, by omega, by simp, rfl⟩
          case round =>
            obtain ⟨j, hj, rfl, hp⟩ := hrel
            have HP := Lib.hid hp
            clear hp
            by_cases hlj : j < r.length
            · have cj := HG.out j hlj
              obtain ⟨y, hy'⟩ : ∃ y, y = r[j] := ⟨_, rfl⟩
              rw [← hy'] at cj
              have HY := Lib.hid hy'
              clear hy'
              by_cases ho : okC y = true
              · obtain ⟨hb1, hb2⟩ := (okC_iff y).1 ho
                have HO := Lib.hid ho
                clear ho
                go_wp2_with fail
                exact ⟨⟨j + 1, by omega, by go_num, all_snoc hlj HP.out (by rw [← HY.out]; exact HO.out)⟩, by simp [intOf]; omega⟩
              · have hb : ¬ (32 ≤ (y.toNat : Int) ∧ (y.toNat : Int) ≤ 126) := fun h => ho ((okC_iff y).2 h)
                have hof : okC y = false := by simpa using ho
                have hrun := run_mid HP.out hlj (by rw [← HY.out]; exact hof)
                have HRUN := Lib.hid hrun
                clear ho hof hrun
                by_cases h126 : 126 < (y.toNat : Int)
                · have h32 : 32 ≤ (y.toNat : Int) := by omega
                  have hnz : ((y.toNat : Int) != 0) = true := by simp; omega
                  clear hb
                  go_wp2_with fail
                  go_ret2
                  exact ⟨_, _, rfl, Or.inl ⟨HBAD.out (fun h => by
                    have h1 := h.1
                    rw [HRUN.out, List.getElem?_eq_getElem hlj, ← HY.out] at h1
                    injection h1 with h1
                    subst h1
                    simp at h126), rfl, rfl⟩, HB.out⟩
                · have h32 : (y.toNat : Int) < 32 := by omega
                  clear hb h126
                  by_cases h0 : y = 0
                  · have hnz : ((y.toNat : Int) != 0) = false := by subst h0; rfl
                    have H0 := Lib.hid h0
                    clear h0
                    by_cases h16 : j ≤ 16
                    · have hst := HGOOD.out j HRUN.out (by rw [List.getElem?_eq_getElem hlj, ← HY.out, H0.out]) h16
                      have hrd := HS.out j
                      have HST := Lib.hid hst
                      have HRD := Lib.hid hrd
                      have hkj : k + 1 + j < l.length := by omega
                      have hj16 : ((k : Int) + 1 + j - k - 1 > 16) = False := by simp; omega
                      have hj16' : ¬ (16 < (k : Int) + 1 + j - k - 1) := by omega
                      obtain ⟨q, hq⟩ : ∃ q : List UInt8, q = r.take j := ⟨_, rfl⟩
                      clear hst hrd
                      have hrdb := HRD.out (c - (k + 1)) (by omega)
                      have hconv := run_conv_bs (P := Try.prog) wr 25 9 5 _ _ Try.underlying25 Try.underlying5 Try.underlying9 hrdb
                      clear hrdb
                      go_wp2_with (first
                        | (refine wpList_app _ rfl (.tmp 109) (.tmp 117) 32 rfl w.heap.size 23 3 32 sl32 u4 ys.length (ys.flatMap Val.cells) rfl (hown.alloc _) (.slice (some ⟨wr.heap.size, 0, none⟩) 1 1) 1 (Val.cells ⟨2, 0, ⟨(r.take j).toArray⟩⟩) rfl (Rd.new' rfl rfl rfl) (by simp [Val.cells, Value.oneCell']) (by omega) (by omega) (by simp; omega) ?_; intro v3 w3 hown3 hg3 hat3))
                      go_roundw
                      case rel => exact ⟨k + (j + 2), by go_num, DI.step hlt hy HD.out (below_alloc HB.out _) hown HST.out hown3 hg3 (by simp; omega)⟩
                      case measure => simp [intOf]; omega
                    · go_wp2_with fail
                      go_ret2
                      have HN16 := Lib.hid h16
                      exact ⟨_, _, rfl, Or.inl ⟨HBAD.out (fun h => by have h1 := h.2; rw [HRUN.out] at h1; exact HN16.out h1), rfl, rfl⟩, HB.out⟩
                  · have hnz : ((y.toNat : Int) != 0) = true := by
                      have : y.toNat ≠ 0 := fun e => h0 (UInt8.toNat_inj.1 (by simpa using e))
                      simp; omega
                    have H0 := Lib.hid h0
                    clear h0
                    go_wp2_with fail
                    go_ret2
                    exact ⟨_, _, rfl, Or.inl ⟨HBAD.out (fun h => by
                      have h1 := h.1
                      rw [HRUN.out, List.getElem?_eq_getElem hlj, ← HY.out] at h1
                      injection h1 with h1
                      exact H0.out h1), rfl, rfl⟩, HB.out⟩
            · have hjj : j = r.length := by omega
              have hrun := run_end (r := r) (by have := HP.out; rwa [hjj, List.take_length] at this)
              have HRUN := Lib.hid hrun
              have hkl : k + 1 + j = l.length := by omega
              have hkl' : (k : Int) + 1 + j = l.length := by omega
              clear hrun
              go_wp2_with fail
              go_ret2
              exact ⟨_, _, rfl, Or.inl ⟨HBAD.out (fun h => by
                have h1 := h.1
                rw [HRUN.out] at h1
                simp at h1), rfl, rfl⟩, HB.out⟩
        · have b3 : ((x.toNat : Int) == 3) = false := by rw [beq_eq_false_iff_ne]; intro e; exact h3 (UInt8.toNat_inj.1 (by simp; omega))
          have HN3 := Lib.hid h3
          clear h3
          go_wp2_with fail
          go_ret2
          refine ⟨_, _, rfl, Or.inl ⟨?_, rfl, rfl⟩, HB.out⟩
          rw [HD.out, dec_at_no hlt (by rw [← HX.out]; exact step_other _ _ HN1.out HN2.out HN3.out)]; rfl
    · have hkk : k = l.length := by omega
      subst hkk
      have HD := Lib.hid hdec
      have HB := Lib.hid hb
      clear hdec hb
      go_wp2_with fail
      go_ret2
      exact ⟨_, _, rfl, Or.inr ⟨ys, by rw [HD.out, List.drop_length, decode_nil]; simp, Rd.of_own hown, rfl⟩, HB.out⟩
end Go.Proofs.Ytloeiobbcgdopaa.Dw
