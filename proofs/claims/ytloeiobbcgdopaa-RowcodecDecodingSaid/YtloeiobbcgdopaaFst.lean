/- first: its arms for an integer and for text. -/
import Derived.Test.YtloeiobbcgdopaaDecWalk
import Derived.Lib.IndexLaws
namespace Go.Proofs.Ytloeiobbcgdopaa.Dw
open Go.RowKit L Fr Rw R4 Dc

set_option maxHeartbeats 2000000 in
theorem first_two (s : ByteArray) (w : World) (h0 : 0 < s.size) (hs : s.size ≤ 1000000) (h1 : s[0] = 2) (h9 : 9 ≤ s.size) : Calls Try.prog 36 #[.string s] w fun e w' => e = .returned (.tuple #[(⟨1, Nu.unnum ((s.data.toList.drop 1).take 8), ⟨#[]⟩⟩ : Val).v, .int .i64 9]) ∧ Below w.heap.size w w' := by
  have hc : (s[0].toNat : Int) = 2 := by rw [h1]; rfl
  clear h1
  have hp : ∀ W, Calls Try.prog 24 #[.string (s.extract 1 9)] W fun e w' => e = .returned (.tuple #[.int .i64 (Nu.unnum ((s.data.toList.drop 1).take 8)), .int .i64 0]) ∧ W = w' := fun W => by
    have := Nu.parse_any (s.extract 1 9) W (by rw [ByteArray.size_extract]; omega)
    rwa [ext_mid s 8] at this
  have HP := Lib.hid hp
  clear hp
  go_enter Try.func36, Try.ntmps36
  go_wp2_with (go_at_call 24; refine (HP.out _).mono ?_; rintro e w1 ⟨rfl, rfl⟩)
  go_returns
  exact ⟨by rw [List.drop_one]; rfl, below_new _ _⟩
abbrev IdxIs (s : ByteArray) (c : Int) (i : Int) : Prop := ∀ W, Calls Try.prog 40 #[.string s, .int .u8 c] W fun e w' => e = .returned (.int .i64 i) ∧ W = w'
set_option maxHeartbeats 4000000 in
theorem first_three (s : ByteArray) (w : World) (h0 : 0 < s.size) (hs : s.size ≤ 1000000) (h1 : s[0] = 3) (n : Nat) (hn : n + 1 < s.size) (h40 : IdxIs (s.extract 1 s.size) 0 n) (h41 : IdxIs (s.extract 1 (n + 1)) 1 (-1)) :
    Calls Try.prog 36 #[.string s] w fun e w' => e = .returned (.tuple #[(⟨2, 0, s.extract 1 (n + 1)⟩ : Val).v, .int .i64 ((n + 2 : Nat) : Int)]) ∧ Below w.heap.size w w' := by
  have hc : (s[0].toNat : Int) = 3 := by rw [h1]; rfl
  clear h1
  have H40 := Lib.hid h40
  have H41 := Lib.hid h41
  clear h40 h41
  go_enter Try.func36, Try.ntmps36
  go_wp2_with fail
  with_reducible refine (H40.out _).mono ?_
  rintro e w1 ⟨rfl, rfl⟩
  go_wp2_with fail
  with_reducible refine (H41.out _).mono ?_
  rintro e w1 ⟨rfl, rfl⟩
  go_wp2_with fail
  go_returns
  exact ⟨rfl, below_new _ _⟩
set_option maxHeartbeats 4000000 in
theorem first_three_no (s : ByteArray) (w : World) (h0 : 0 < s.size) (hs : s.size ≤ 1000000) (h1 : s[0] = 3) (h40 : IdxIs (s.extract 1 s.size) 0 (-1)) :
    Calls Try.prog 36 #[.string s] w fun e w' => e = .returned (.tuple #[nul.v, .int .i64 0]) ∧ Below w.heap.size w w' := by
  have hc : (s[0].toNat : Int) = 3 := by rw [h1]; rfl
  clear h1
  have H40 := Lib.hid h40
  clear h40
  go_enter Try.func36, Try.ntmps36
  go_wp2_with fail
  with_reducible refine (H40.out _).mono ?_
  rintro e w1 ⟨rfl, rfl⟩
  go_wp2_with fail
  go_returns
  exact ⟨rfl, below_new _ _⟩
set_option maxHeartbeats 4000000 in
theorem first_three_bad (s : ByteArray) (w : World) (h0 : 0 < s.size) (hs : s.size ≤ 1000000) (h1 : s[0] = 3) (n m : Nat) (hn : n + 1 < s.size) (h40 : IdxIs (s.extract 1 s.size) 0 n) (h41 : IdxIs (s.extract 1 (n + 1)) 1 m) :
    Calls Try.prog 36 #[.string s] w fun e w' => e = .returned (.tuple #[nul.v, .int .i64 0]) ∧ Below w.heap.size w w' := by
  have hc : (s[0].toNat : Int) = 3 := by rw [h1]; rfl
  clear h1
  have H40 := Lib.hid h40
  have H41 := Lib.hid h41
  clear h40 h41
  go_enter Try.func36, Try.ntmps36
  go_wp2_with fail
  with_reducible refine (H40.out _).mono ?_
  rintro e w1 ⟨rfl, rfl⟩
  go_wp2_with fail
  with_reducible refine (H41.out _).mono ?_
  rintro e w1 ⟨rfl, rfl⟩
  go_wp2_with fail
  go_returns
  exact ⟨rfl, below_new _ _⟩

theorem idx_eq : ∀ {l : List UInt8} {c : UInt8} {o : Nat}, l[o]? = some c → (∀ k : Nat, k < o → l[k]? ≠ some c) → Lib.indexByte l c = o := by
  intro l c o h h'
  have hge := Lib.indexByte_ge l c
  by_cases hn : Lib.indexByte l c = -1
  · exact absurd h (Lib.indexByte_none hn o)
  · obtain ⟨m, hm⟩ : ∃ m : Nat, Lib.indexByte l c = m := ⟨(Lib.indexByte l c).toNat, by omega⟩
    obtain ⟨i1, i2⟩ := Lib.indexByte_some hm
    rw [hm]
    by_cases h1 : m < o
    · exact absurd i1 (h' m h1)
    · by_cases h2 : o < m
      · exact absurd h (i2 o h2)
      · congr 1; omega
theorem idx_not {l : List UInt8} {c : UInt8} (h : ∀ k : Nat, l[k]? ≠ some c) : Lib.indexByte l c = -1 := by
  have hge := Lib.indexByte_ge l c
  by_cases hn : Lib.indexByte l c = -1
  · exact hn
  · obtain ⟨m, hm⟩ : ∃ m : Nat, Lib.indexByte l c = m := ⟨(Lib.indexByte l c).toNat, by omega⟩
    exact absurd (Lib.indexByte_some hm).1 (h m)
theorem print_no {l : List UInt8} (h : printable l = true) {c : UInt8} (hc : okC c = false) (k : Nat) : l[k]? ≠ some c := by
  intro e
  have hm := List.mem_of_getElem? e
  have : okC c = true := by
    have := List.all_eq_true.1 h c hm
    exact this
  rw [hc] at this
  cases this
theorem run_no (r : List UInt8) {c : UInt8} (hc : okC c = false) (k : Nat) (hk : k < run r) : r[k]? ≠ some c := by
  have := print_no (run_take r) hc k
  rwa [List.getElem?_take_of_lt hk] at this

abbrev Fst (s : ByteArray) (v : Val) (n : Nat) : Prop := ∀ w, Calls Try.prog 36 #[.string s] w fun e w' => e = .returned (.tuple #[v.v, .int .i64 n]) ∧ Below w.heap.size w w'
theorem idx_is (s : ByteArray) (c : Int) (i : Int) (h : Lib.indexByte s.data.toList c.toNat.toUInt8 = i) : IdxIs s c i := fun W => by
  subst h
  exact (Try.strings_IndexByte s c W).mono fun e w' ⟨h1, h2⟩ => ⟨h1, h2.symm⟩

/-- what first hands back, and what the first value is -/
theorem first_step (s : ByteArray) (h0 : 0 < s.size) (hs : s.size ≤ 1000000) :
    ∃ v n, Fst s v n ∧ v.t.size ≤ 1000000 ∧ ((Dc.step s.data.toList = none ∧ (n = 0 ∨ validV v = false)) ∨ Dc.step s.data.toList = some (v, n)) := by
  have hl : s.data.toList.length = s.size := by rw [Array.length_toList]; rfl
  have hd := head_of s h0
  have ht := tail_len s
  have hx := ext_tail s
  obtain ⟨r, hr⟩ : ∃ r, r = s.data.toList.drop 1 := ⟨_, rfl⟩
  rw [← hr] at hd ht hx
  rw [hd]
  simp only [Dc.step]
  by_cases h1 : s[0] = 1
  · exact ⟨nul, 1, fun w => first_one s w h0 hs h1, by decide, Or.inr (by rw [if_pos h1]; rfl)⟩
  by_cases h2 : s[0] = 2
  · by_cases h9 : 9 ≤ s.size
    · refine ⟨_, 9, fun w => first_two s w h0 hs h2 h9, by show (⟨#[]⟩ : ByteArray).size ≤ _; decide, Or.inr ?_⟩
      rw [if_neg h1, if_pos h2, if_pos (by omega), hr]
    · exact ⟨nul, 0, fun w => first_two_no s w h0 h2 (by omega), by decide, Or.inl ⟨by rw [if_neg h1, if_pos h2, if_neg (by omega)], Or.inl rfl⟩⟩
  by_cases h3 : s[0] = 3
  · rw [if_neg h1, if_neg h2, if_pos h3]
    by_cases hz : Lib.indexByte r 0 = -1
    · refine ⟨nul, 0, fun w => first_three_no s w h0 hs h3 (idx_is _ _ _ (by rw [hx]; exact hz)), by decide, Or.inl ⟨?_, Or.inl rfl⟩⟩
      rw [if_neg]
      exact fun h => Lib.indexByte_none hz _ h.1
    · have hge := Lib.indexByte_ge r 0
      obtain ⟨o, ho⟩ : ∃ m : Nat, Lib.indexByte r 0 = m := ⟨(Lib.indexByte r 0).toNat, by omega⟩
      obtain ⟨i1, i2⟩ := Lib.indexByte_some ho
      have hlt := (List.getElem?_eq_some_iff.1 i1).1
      have hem : (s.extract 1 (o + 1)).data.toList = r.take o := by rw [ext_mid s o, hr]
      have hI : IdxIs (s.extract 1 s.size) 0 o := idx_is _ _ _ (by rw [hx]; exact ho)
      have hso : (s.extract 1 (o + 1)).size = o := by rw [ByteArray.size_extract]; omega
      by_cases hp : printable (r.take o) = true
      · have hone : Lib.indexByte (r.take o) 1 = -1 := idx_not (print_no hp (by decide))
        have hrun : run r = o := by
          have e : r = r.take o ++ 0 :: r.drop (o + 1) := by
            have := (List.getElem?_eq_some_iff.1 i1).2
            conv => lhs; rw [← List.take_append_drop o r, List.drop_eq_getElem_cons hlt, this]
          have := run_all hp (r.drop (o + 1)) 0 (by decide)
          rw [← e] at this
          rw [this, List.length_take]; omega
        refine ⟨⟨2, 0, s.extract 1 (o + 1)⟩, o + 2, fun w => first_three s w h0 hs h3 o (by omega) hI (idx_is _ _ _ (by rw [hem]; exact hone)), by show (s.extract 1 (o + 1)).size ≤ _; omega, ?_⟩
        rw [hrun]
        by_cases h16 : o ≤ 16
        · refine Or.inr ?_
          rw [if_pos ⟨i1, h16⟩, ext_mid' s o, hr]
        · refine Or.inl ⟨by rw [if_neg (fun h => h16 h.2)], Or.inr ?_⟩
          simp only [validV]
          rw [if_neg (by decide), if_neg (by decide), if_pos trivial, hso, decide_eq_false h16, Bool.and_false]
      · have hp' : printable (r.take o) = false := by simpa using hp
        have hnone : ¬ (r[run r]? = some 0 ∧ run r ≤ 16) := by
          rintro ⟨e1, e2⟩
          have e3 := idx_eq e1 (fun k hk => run_no r (by decide) k hk)
          rw [ho] at e3
          have e4 : o = run r := by omega
          rw [e4, run_take r] at hp'
          cases hp'
        by_cases hone : Lib.indexByte (r.take o) 1 = -1
        · refine ⟨⟨2, 0, s.extract 1 (o + 1)⟩, o + 2, fun w => first_three s w h0 hs h3 o (by omega) hI (idx_is _ _ _ (by rw [hem]; exact hone)), by show (s.extract 1 (o + 1)).size ≤ _; omega, Or.inl ⟨by rw [if_neg hnone], Or.inr ?_⟩⟩
          simp only [validV]
          rw [if_neg (by decide), if_neg (by decide), if_pos trivial, hem, hp', Bool.and_false, Bool.false_and]
        · have hge1 := Lib.indexByte_ge (r.take o) 1
          obtain ⟨m, hm⟩ : ∃ m : Nat, Lib.indexByte (r.take o) 1 = m := ⟨(Lib.indexByte (r.take o) 1).toNat, by omega⟩
          exact ⟨nul, 0, fun w => first_three_bad s w h0 hs h3 o m (by omega) hI (idx_is _ _ _ (by rw [hem]; exact hm)), by decide, Or.inl ⟨by rw [if_neg hnone], Or.inl rfl⟩⟩
  · exact ⟨nul, 0, fun w => first_other s w h0 hs h1 h2 h3, by decide, Or.inl ⟨by rw [if_neg h1, if_neg h2, if_neg h3], Or.inl rfl⟩⟩
end Go.Proofs.Ytloeiobbcgdopaa.Dw
