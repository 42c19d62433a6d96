/- DecodeRow: its walk. -/
import Derived.Test.YtloeiobbcgdopaaFst
namespace Go.Proofs.Ytloeiobbcgdopaa.Dw
open Go.RowKit L Fr Rw R4 Dc

theorem sl32 : SlT Try.prog 32 23 3 32 := SlT.mk' (z := .agg #[.int .i64 0, .int .i64 0, .string ⟨#[]⟩]) Try.underlying32 (by kernel_rfl) (by kernel_rfl) (by decide)
def strLen : Value → Nat
  | .string s => s.size
  | _ => 0
/-- what a decoder hands back -/
def DecOut (l : List UInt8) (v : Value) (c : Int) (w : World) : Prop := (Dc.decode l = none ∧ v = .slice none 0 0 ∧ c = 2) ∨ (∃ xs, Dc.decode l = some xs ∧ RowRd w v xs ∧ c = 0)

theorem ext_drop (s : ByteArray) (n : Nat) : (s.extract n s.size).data.toList = s.data.toList.drop n := by
  have hl : s.data.toList.length = s.size := by rw [Array.length_toList]; rfl
  rw [ByteArray.data_extract, Array.toList_extract, List.extract_eq_take_drop]
  exact List.take_of_length_le (by rw [List.length_drop]; omega)
theorem dec_no {s : ByteArray} (h0 : 0 < s.size) (h : Dc.step s.data.toList = none) : Dc.decode s.data.toList = none := by
  rw [head_of s h0] at h ⊢; exact decode_none h
theorem dec_yes {s : ByteArray} {x : Val} {n : Nat} (h0 : 0 < s.size) (h : Dc.step s.data.toList = some (x, n)) : Dc.decode s.data.toList = (Dc.decode (s.extract n s.size).data.toList).map (x :: ·) := by
  rw [ext_drop]
  rw [head_of s h0] at h ⊢; exact decode_some h
theorem box_at (w : World) (c : Array Value) (t : TypeId) (i : Nat) (v : Value) (h : c[i]? = some v) : (w.alloc (.cells c t)).cell? ⟨w.heap.size, i, none⟩ = some v := by
  rw [World.cell?_alloc_new]; exact h
theorem own_nilRow (w : World) (base : Nat) : w.ownsRow base 23 3 (.slice none 0 0) ([] : List Val).length (([] : List Val).flatMap Val.cells) := World.ownsRow_nil _ _ _ _

set_option maxHeartbeats 4000000 in
theorem decodeRow_any (v : Value) (l : List UInt8) (w : World) (hr : RdB w v l) (hl : l.length ≤ 100000) :
    Calls Try.prog 28 #[v] w fun e w' => ∃ v' c, e = .returned (.tuple #[v', .int .i64 c]) ∧ DecOut l v' c w' ∧ Below w.heap.size w w' := by
  go_enter Try.func28, Try.ntmps28
  go_wp2_with (refine wpList_conv_bs _ rfl (.tmp 8) 25 9 5 rfl _ rfl l hr Try.underlying25 Try.underlying5 Try.underlying9 ?_)
  go_loopw [4, 5] (fun v r wr => ∃ (ys : List Val) (s : ByteArray), r = .string s ∧ ys.length + s.size ≤ 100000 ∧ wr.ownsRow w.heap.size 23 3 v ys.length (ys.flatMap Val.cells) ∧ Dc.decode l = (Dc.decode s.data.toList).map (ys ++ ·) ∧ Below w.heap.size w wr) (fun _ r _ => strLen r)
  case atStart => exact ⟨[], ⟨l.toArray⟩, rfl, by simpa [ByteArray.size] using hl, own_nilRow _ _, by simp, Below.refl _ _⟩
  case round =>
    obtain ⟨ys, s, rfl, hlen, hown, hdec, hb⟩ := hrel
    by_cases h0 : 0 < s.size
    · obtain ⟨⟨xk, xn, xt⟩, n, hf0, hxs, hst⟩ := first_step s h0 (by omega)
      have hf : ∀ w, Calls Try.prog 36 #[.string s] w fun e w' => e = .returned (.tuple #[.agg #[.int .i64 xk, .int .i64 xn, .string xt], .int .i64 n]) ∧ Below w.heap.size w w' := hf0
      have HF := Lib.hid hf
      have hne : s.toList.isEmpty = false := by
        rw [ByteArray.toList_eq, head_of s h0]; rfl
      clear hf hf0
      by_cases hn : n = 0
      · have hz : Dc.step s.data.toList = none := hst.elim (·.1) (fun h => absurd (step_pos h).1 (by omega))
        subst hn
        rw [dec_no h0 hz] at hdec
        have HD := Lib.hid hdec
        have HB := Lib.hid hb
        clear hst hz hdec hb
        go_wp2_with (go_at_call 36; refine (HF.out _).mono ?_; rintro e w1 ⟨rfl, hb1⟩)
        go_returns
        exact ⟨_, _, rfl, Or.inl ⟨HD.out, rfl, rfl⟩, below_alloc (below_step HB.out hb1) _⟩
      · have hb0 : ((n : Int) == 0) = false := by simp; omega
        have hv := valid_any ⟨xk, xn, xt⟩
        obtain ⟨b, hvb⟩ : ∃ b, b = validV ⟨xk, xn, xt⟩ := ⟨_, rfl⟩
        have hvt : Dc.step s.data.toList = some (⟨xk, xn, xt⟩, n) → b = true := fun h => hvb.trans (enc_step h).1
        have hnle : Dc.step s.data.toList = some (⟨xk, xn, xt⟩, n) → n ≤ s.size := fun h => by
          have := (step_pos h).2
          rwa [Array.length_toList] at this
        rw [← hvb] at hv hst
        have hv1 : ∀ w, Calls Try.prog 37 #[.agg #[.int .i64 xk, .int .i64 xn, .string xt]] w fun e w' => e = .returned (.bool b) ∧ Below w.heap.size w w' := fun w => hv w hxs
        have HV := Lib.hid hv1
        clear hv1 hv hvb
        cases b with
        | false =>
          have hz : Dc.step s.data.toList = none := hst.elim (·.1) (fun h => by cases hvt h)
          rw [dec_no h0 hz] at hdec
          have HD := Lib.hid hdec
          have HB := Lib.hid hb
          clear hst hz hdec hb hnle hvt
          go_wp2_with (first
            | (go_at_call 36; refine (HF.out _).mono ?_; rintro e w1 ⟨rfl, hb1⟩)
            | (go_at_call 37; refine (HV.out _).mono ?_; rintro e w2 ⟨rfl, hb2⟩))
          go_ret2
          exact ⟨_, _, rfl, Or.inl ⟨HD.out, rfl, rfl⟩, below_step (below_alloc (below_step HB.out hb1) _) hb2⟩
        | true =>
          have hz : Dc.step s.data.toList = some (⟨xk, xn, xt⟩, n) := hst.elim (fun h => h.2.elim (fun h => absurd h hn) (fun h => by cases h)) id
          have hle := hnle hz
          rw [dec_yes h0 hz] at hdec
          have HD := Lib.hid hdec
          have HB := Lib.hid hb
          have hbs := hb.size
          clear hst hz hdec hb hnle hvt
          go_wp2_with (first
            | (go_at_call 36; refine (HF.out _).mono ?_; rintro e w1 ⟨rfl, hb1⟩)
            | (go_at_call 37; refine (HV.out _).mono ?_; rintro e w2 ⟨rfl, hb2⟩; have d0 := Keep.of_below hb2 _ _ (box_at w1 _ 23 0 _ rfl); have d1 := Keep.of_below hb2 _ _ (box_at w1 _ 23 1 _ rfl); have d2 := Keep.of_below hb2 _ _ (box_at w1 _ 23 2 _ rfl)))
          have HK := below_step (below_alloc (below_step HB.out hb1) _) hb2
          have hk2 := HK.size
          have hown2 := own_below ((own_below hown hb1).alloc _) hb2
          have HK' := HK.drew
          have hlt := hown.lt
          have hne1 : (some w1.heap.size : Option Nat) ≠ u4.ownBlock := fun e => by
            have h1 := (hown.lt _ e.symm).2
            have h2 := hb1.size
            omega
          clear hb1 hb2
          go_region_held3 (fun W => W.cell? ⟨w1.heap.size, 0, none⟩ = some (.int .i64 xk) ∧ W.cell? ⟨w1.heap.size, 1, none⟩ = some (.int .i64 xn) ∧ W.cell? ⟨w1.heap.size, 2, none⟩ = some (.string xt)) (first | go_keep | exact ⟨hg3.cell (And.left (by assumption)) hne1, hg3.cell (And.left (And.right (by assumption))) hne1, hg3.cell (And.right (And.right (by assumption))) hne1⟩) (
            (refine step_app _ (by rfl) (.tmp 24) (.tmp 26) 32 (by rfl) w.heap.size 23 3 32 sl32 u4 ys.length (ys.flatMap Val.cells) (by rfl) ?_ (.slice (some ⟨w2.heap.size, 0, none⟩) 1 1) 1 (Val.cells ⟨xk, xn, xt⟩) (by rfl) ?_ ?_ ?_ ?_ ?_ ?_
             exact own_drew (hown2.alloc _)
             exact Rd.drew (Rd.new' rfl rfl rfl)
             (simp [Val.cells, Value.oneCell'])
             omega
             omega
             (simp; omega)
             intro v3 w3 hown3 hg3 hat3))
          try go_wp2_with fail
          go_roundw
          case rel =>
            refine ⟨ys ++ [⟨xk, xn, xt⟩], s.extract n s.size, rfl, ?_, own_cast hown3 (by simp) (by simp), ?_, ?_⟩
            · rw [ByteArray.size_extract]; simp; omega
            · rw [HD.out, Option.map_map]
              congr 1
              funext z
              simp
            · exact ((below_alloc HK _).drew).grown hg3 (by simp; omega) (fun g hg => (hlt g hg).1)
          case measure =>
            simp only [strLen, ByteArray.size_extract]; omega
    · have hz : s.data.toList = [] := by
        apply List.eq_nil_of_length_eq_zero
        rw [Array.length_toList]
        have : s.data.size = s.size := rfl
        omega
      have hne : s.toList.isEmpty = true := by rw [ByteArray.toList_eq, hz]; rfl
      rw [hz] at hdec
      have HD := Lib.hid hdec
      have HB := Lib.hid hb
      clear hz hdec hb
      go_wp2_with fail
      go_ret2
      exact ⟨_, _, rfl, Or.inr ⟨ys, by rw [HD.out, decode_nil]; simp, Rd.of_own hown, rfl⟩, HB.out⟩
end Go.Proofs.Ytloeiobbcgdopaa.Dw
