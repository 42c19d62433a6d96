/- Parts of the proof, one after the other: W17, W18, W19, W20, W21. No condition. -/
import Derived.Test.YtnmfjojhgfipcaaGreatDoorM16
import Derived.Lib.SplitLaws
import Derived.Lib.ReplaceLaws
namespace Go.Proofs.YtnmfjojhgfipcaaGreatDoor.W
open Go.RowKit E
set_option linter.unusedVariables false
set_option linter.unusedSimpArgs false
set_option linter.unusedSectionVars false
/-! numbers and quoted texts -/
theorem sCe {a b : ByteArray} (h : a = b) : X.c (sC a) = .c (sC b) := by rw [h]
theorem take_put {α : Type} {l : List α} {i : Nat} (hi : i < l.length) : l.take (i + 1) = l.take i ++ [l[i]] := List.take_succ_eq_append_getElem hi
def decB (n : Nat) : ByteArray := ⟨(Lib.decDigits n).toArray⟩
abbrev N63 (n : Nat) : Prop := n < 9223372036854775808
open Go.Sort Go.Lib in
theorem holds_zero0 (w : World) (T : TypeId) (nd : Nat) (hs : nd ≤ 24) : Holds (fun (b : UInt8) => Value.int .u8 (b.toNat : Int)) (w.alloc (.cells zeros24 T)) w.heap.size 0 (Array.replicate nd (0 : UInt8)) := fun j hj => by
  have hj' : j < nd := by simpa using hj
  refine ⟨?_, World.frozen?_alloc_new _ _ _ _⟩
  rw [World.cell?_alloc_new, zeros24_at _ (by omega), getElem!_pos _ j hj]
  simp
open Go.Sort Go.Lib in
theorem fin_pos0 (w : World) (o : Obj) (dk : Array UInt8) (k : Nat) : ∃ os, (putRow (fun (b : UInt8) => Value.int .u8 (b.toNat : Int)) (w.alloc o) w.heap.size 0 dk).drewN k = grow (w.drewN k) os := by
  rw [alloc_eq_grow]
  obtain ⟨os', _, e⟩ := putRow_grow_new (fun (b : UInt8) => Value.int .u8 (b.toNat : Int)) w #[o] w.heap.size 0 dk (Nat.le_refl _)
  exact ⟨os', by rw [e]; rfl⟩
open Go.Sort Go.Lib in
set_option maxHeartbeats 6400000 in
set_option maxRecDepth 100000 in
theorem fuint56 (u : Nat) (hu : 100 ≤ u) (hu64 : u < 18446744073709551616) (w : World) (htab : Lib.TabIs Tryz.prog w "internal/strconv.uint64pow10" .u64 Lib.pow10Tab) :
    Calls Tryz.prog 56 #[.int .u64 (u : Int), .int .i64 10] w fun e w' => e = .returned (.string ⟨(Lib.decDigits u).toArray⟩) ∧ ∃ k os, w' = grow (w.drewN k) os := by
  have hu1 : 1 ≤ u := by omega
  have hnd20 : Lib.nDigits u ≤ 20 := by have := Lib.numDigits_eq u hu1 hu64; split at this <;> omega
  have hb3 : Lib.nDigits u ≤ 24 := by omega
  have hal : Tryz.prog.arrayLen 128 = 24 := by simp [Program.arrayLen, Tryz.underlying128]
  have hsl1 : ∀ W, (Instr.sliceAt 128 (.pointer (some ⟨w.heap.size, 0, none⟩)) none (some (.int .i64 (Lib.nDigits u : Int))) none).run Tryz.prog W = .ok (.slice (some ⟨w.heap.size, 0, none⟩) (Lib.nDigits u) 24) W := fun W => by
    rw [run_sliceAt_array_h W 128 ⟨w.heap.size, 0, none⟩ (by simp [Program.arrayLen, Program.elem, Tryz.underlying128]) .i64 (Lib.nDigits u : Int) (by omega) (by rw [hal]; omega)]
    go_simp
  have hH0 := holds_zero0 w 128 (Lib.nDigits u) (by omega)
  have hfmt := Tryz.internal_strconv_formatBase10 w.heap.size 0 24 u (Array.replicate (Lib.nDigits u) 0) (w.alloc (.cells Lib.zeros24 128)) hH0 (by rw [Array.size_replicate]; exact Lib.lt_pow_nDigits u) hu64 (by rw [Array.size_replicate]; omega)
  rw [Array.size_replicate] at hfmt
  have HH0 := Lib.hid hH0
  clear hH0 hal
  go_enter Tryz.func56, Tryz.ntmps56
  go_wp2_with (first
    | (go_at_call 58; refine (Tryz.internal_strconv_numDigits u hu1 hu64 _ (Lib.tabIs_alloc htab _)).mono ?_; rintro e w' ⟨rfl, rfl⟩))
  go_at_call 59
  refine hfmt.mono ?_
  rintro e w' ⟨rfl, k, v', dk, rfl, hF⟩
  have hcv : (convert 106 9 (.slice (some ⟨w.heap.size, 0, none⟩) (Lib.nDigits u) 24)).run Tryz.prog ((putRow (fun (b : UInt8) => Value.int .u8 (b.toNat : Int)) (w.alloc (.cells Lib.zeros24 128)) w.heap.size 0 dk).drewN k) = .ok (.string ⟨(Lib.decDigits u).toArray⟩) ((putRow (fun (b : UInt8) => Value.int .u8 (b.toNat : Int)) (w.alloc (.cells Lib.zeros24 128)) w.heap.size 0 dk).drewN k) := by
    have h := run_convert_bytes_back (P := Tryz.prog) ((putRow (fun (b : UInt8) => Value.int .u8 (b.toNat : Int)) (w.alloc (.cells Lib.zeros24 128)) w.heap.size 0 dk).drewN k) 106 9 5 ⟨w.heap.size, 0, none⟩ 24 (Lib.decDigits u) Tryz.underlying106 Tryz.underlying5 Tryz.underlying9 (fun j hj => by
      rw [Lib.row_is_numeral hF j hj, Lib.add_plain, World.cell?_drewN]
      exact cell?_putRow (fun (b : UInt8) => Value.int .u8 (b.toNat : Int)) _ w.heap.size 0 _ dk HH0.out (by rw [hF.size, Array.size_replicate]) j (by rw [hF.size]; rw [Lib.decDigits_length] at hj; exact hj))
    rw [Lib.decDigits_length] at h
    exact h
  go_wp2
  go_ret
  obtain ⟨os, eo⟩ := fin_pos0 w (.cells Lib.zeros24 128) dk k
  exact ⟨rfl, k, os, eo⟩
theorem tab10 {w : World} (h : TabW w) : Lib.TabIs Tryz.prog w "internal/strconv.uint64pow10" .u64 Lib.pow10Tab := tabIs (g := 0) h (by kernel_rfl) rfl
theorem itoa_b (n : Nat) (h : N63 n) : Pure Tryz.prog 38 [iC (n : Int)] (.c (sC (decB n))) :=
  Pure.of_grow [.int .i64 (n : Int)] (fun w hw => by
    have := Tryz.strconv_Itoa (n : Int) (by omega) (by omega) w (tab10 hw)
    rw [Lib.itoa_nonneg] at this; exact this) fun c => .t (.v rfl)
theorem fint_b (n : Nat) (h : N63 n) : Pure Tryz.prog 20 [iC (n : Int), iC 10] (.c (sC (decB n))) :=
  Pure.of_grow [.int .i64 (n : Int), .int .i64 10] (fun w hw => by
    have := Tryz.strconv_FormatInt_10 (n : Int) (by omega) (by omega) w (tab10 hw)
    rw [Lib.itoa_nonneg] at this; exact this) fun c => .t (.v rfl)
theorem small_s (n : Nat) (h : n < 100) : Pure Tryz.prog 57 [iC (n : Int)] (.c (sC (decB n))) :=
  Pure.of_calls [.int .i64 (n : Int)] (fun w => Tryz.internal_strconv_small n h w) fun c => .t (.v rfl)

set_option maxRecDepth 20000 in
theorem iuint_s (n : Nat) (h : n < 100) : Pure Tryz.prog 56 [u64C n, iC 10] (.c (sC (decB n))) := by
  intro H
  refine Spec.enter Tryz.func56 rfl ?_
  refine AW.wk (Wk.keep 32 [(0, .c (u64C n)), (1, .c (iC 10))] [] (H) rfl ⟨rfl, rfl, trivial⟩ trivial (fun _ _ h => h) rfl) ?_
  refine AW.seq ?_
  refine AW.reg ?_
  refine SeqK.q (q_asC rfl rfl) rfl rfl rfl ?_
  refine SeqK.nil ?_
  refine AW.seq ?_
  refine AW.seq ?_
  refine AW.reg ?_
  refine SeqK.q (q_mvC rfl rfl) rfl rfl rfl ?_
  refine SeqK.q (q_eql rfl rfl rfl) rfl rfl rfl ?_
  refine SeqK.nil ?_
  refine AW.condD rfl (fun h10 => ?_) (fun h10 => ?_)
  ·
    refine AW.seq ?_
    refine AW.seq ?_
    refine AW.reg ?_
    refine SeqK.q (q_mvC rfl rfl) rfl rfl rfl ?_
    refine SeqK.q (q_lss rfl rfl rfl) rfl rfl rfl ?_
    refine SeqK.nil ?_
    refine AW.condD rfl (fun h12 => ?_) (fun h12 => ?_)
    ·
      refine AW.seq ?_
      refine AW.reg ?_
      refine SeqK.q (q_mvC rfl rfl) rfl rfl rfl ?_
      refine SeqK.q (q_conv _ rfl Fx.un3 rfl (w64 (by omega) (by omega)) ⟨_, Fx.un98⟩) rfl rfl rfl ?_
      refine SeqK.q (q_call _ rfl Fx.fn57 rfl (small_s n h) rfl) rfl rfl rfl ?_
      refine SeqK.q (q_asC rfl rfl) rfl rfl rfl ?_
      refine SeqK.nil ?_
      refine AW.ret ?_
      exact fin_x (x := .c _) H (.tmp rfl .nil) rfl (fun _ _ h => h) ⟨rfl, rfl⟩
    ·
      exact absurd (by omega) h12
  ·
    exact absurd rfl h10

theorem iuint_b (n : Nat) (h : N63 n) : Pure Tryz.prog 56 [u64C n, iC 10] (.c (sC (decB n))) := by
  by_cases h1 : n < 100
  · exact iuint_s n h1
  · exact Pure.of_grow [.int .u64 (n : Int), .int .i64 10] (fun w hw => fuint56 n (by omega) (by omega) w (tab10 hw)) fun c => .t (.v rfl)
theorem decB_size {n : Nat} (h : N63 n) : (decB n).size ≤ 20 ∧ 1 ≤ (decB n).size := by
  have e : (decB n).size = (Lib.decDigits n).length := by simp [decB, ByteArray.size]
  rw [e, Lib.decDigits_length]
  by_cases h0 : n = 0
  · subst h0; rw [Lib.nDigits_small (by decide)]; decide
  · have h2 : Lib.nDigits n ≤ 20 := by have := Lib.numDigits_eq n (by omega) (by omega); split at this <;> omega
    have h3 : 1 ≤ Lib.nDigits n := by
      by_cases h1 : n < 10
      · rw [Lib.nDigits_small h1]; decide
      · rw [Lib.nDigits_big h1]; omega
    exact ⟨h2, h3⟩

set_option maxRecDepth 20000 in
theorem fuint_b (n : Nat) (h : N63 n) : Pure Tryz.prog 41 [u64C n, iC 10] (.c (sC (decB n))) := by
  intro H
  refine Spec.enter Tryz.func41 rfl ?_
  refine AW.wk (Wk.keep 8 [(0, .c (u64C n)), (1, .c (iC 10))] [] (H) rfl ⟨rfl, rfl, trivial⟩ trivial (fun _ _ h => h) rfl) ?_
  refine AW.seq ?_
  refine AW.reg ?_
  refine SeqK.q (q_asC rfl rfl) rfl rfl rfl ?_
  refine SeqK.nil ?_
  refine AW.seq ?_
  refine AW.reg ?_
  refine SeqK.q (q_mvC rfl rfl) rfl rfl rfl ?_
  refine SeqK.q (q_mvC rfl rfl) rfl rfl rfl ?_
  refine SeqK.q (q_call _ rfl Fx.fn56 rfl (iuint_b n h) rfl) rfl rfl rfl ?_
  refine SeqK.q (q_asC rfl rfl) rfl rfl rfl ?_
  refine SeqK.nil ?_
  refine AW.ret ?_
  exact fin_x (x := .c _) H (.tmp rfl .nil) rfl (fun _ _ h => h) ⟨rfl, rfl⟩

theorem w8d {n : Int} (h : 0 ≤ n) (h' : n ≤ 255) : IntKind.u8.wrap n = n := by
  simp only [IntKind.wrap, IntKind.bits, IntKind.signed, Bool.false_and, Bool.false_eq_true, if_false]; omega
theorem quo10 {n : Nat} (h : N63 n) : IntKind.i64.wrap ((n : Int).tdiv 10) = ((n / 10 : Nat) : Int) := by
  have h1 : (n : Int).tdiv 10 = ((n / 10 : Nat) : Int) := rfl
  rw [h1, w64 (by omega) (by omega)]
theorem dig_byte {n : Nat} (h : n < 10) : UInt8.ofNat (48 + (n : Int)).toNat = UInt8.ofNat (48 + n) := by
  rw [show (48 + (n : Int)).toNat = 48 + n by omega]
theorem dec_lo {n : Nat} (h : n < 10) : bStr [48 + ((n % 10 : Nat) : Int)] = decB n := by
  rw [decB, Lib.decDigits_one h]
  show ByteArray.empty.push (UInt8.ofNat (48 + ((n % 10 : Nat) : Int)).toNat) = _
  rw [Nat.mod_eq_of_lt h, dig_byte h]; rfl
theorem dec_hi {n : Nat} (h : ¬ n < 10) : decB (n / 10) ++ bStr [48 + ((n % 10 : Nat) : Int)] = decB n := by
  have e : Lib.decDigits n = Lib.decDigits (n / 10) ++ [UInt8.ofNat (48 + n % 10)] := by rw [Lib.decDigits, dif_neg h]
  have e2 : bStr [48 + ((n % 10 : Nat) : Int)] = ⟨#[UInt8.ofNat (48 + n % 10)]⟩ := by
    show ByteArray.empty.push (UInt8.ofNat (48 + ((n % 10 : Nat) : Int)).toNat) = _
    rw [dig_byte (Nat.mod_lt _ (by decide))]; rfl
  rw [e2, decB, decB, e]
  apply ByteArray.ext
  simp [ByteArray.data_append]

set_option maxRecDepth 20000 in
theorem digits_of (n : Nat) (hn : N63 n) (ih : ∀ m : Nat, m < n → Pure Tryz.prog 27 [iC (m : Int)] (.c (sC (decB m)))) : Pure Tryz.prog 27 [iC (n : Int)] (.c (sC (decB n))) := by
  intro H
  refine Spec.enter Tryz.func27 rfl ?_
  refine AW.wk (Wk.keep 18 [(0, .c (iC (n : Int)))] [] (H) rfl ⟨rfl, trivial⟩ trivial (fun _ _ h => h) rfl) ?_
  refine AW.seq ?_
  refine AW.reg ?_
  refine SeqK.q (q_asC rfl rfl) rfl rfl rfl ?_
  refine SeqK.nil ?_
  refine AW.seq ?_
  refine AW.reg ?_
  refine SeqK.q (q_mvC rfl rfl) rfl rfl rfl ?_
  refine SeqK.q (q_remC (c := ((n % 10 : Nat) : Int)) rfl rfl rfl (by decide) rfl) rfl rfl rfl ?_
  refine SeqK.q (q_add _ rfl rfl rfl (w64 (by omega) (by omega))) rfl rfl rfl ?_
  refine SeqK.q (q_conv _ rfl Fx.un5 rfl ((by show IntKind.u8.wrap _ = 48 + ((n % 10 : Nat) : Int); exact w8d (by omega) (by omega))) ⟨_, Fx.un2⟩) rfl rfl rfl ?_
  refine SeqK.q (q_buildSlice _ rfl Fx.el106 rfl (by decide) rfl) rfl rfl rfl ?_
  refine SeqK.q (q_convBS (l := [48 + ((n % 10 : Nat) : Int)]) rfl Fx.un106 Fx.un5 Fx.un9 rfl) rfl rfl rfl ?_
  refine SeqK.q (q_asC rfl rfl) rfl rfl rfl ?_
  refine SeqK.nil ?_
  refine AW.seq ?_
  refine AW.seq ?_
  refine AW.reg ?_
  refine SeqK.q (q_mvC rfl rfl) rfl rfl rfl ?_
  refine SeqK.q (q_lss rfl rfl rfl) rfl rfl rfl ?_
  refine SeqK.nil ?_
  refine AW.condD rfl (fun h11 => ?_) (fun h11 => ?_)
  ·
    refine AW.seq ?_
    refine AW.reg ?_
    refine SeqK.q (q_mvC rfl rfl) rfl rfl rfl ?_
    refine SeqK.q (q_asC rfl rfl) rfl rfl rfl ?_
    refine SeqK.nil ?_
    refine AW.ret ?_
    exact fin_x (x := .c _) (H) (.tmp rfl .nil) rfl (fun _ _ h => h) (⟨by rw [dec_lo (by omega)], rfl⟩)
  ·
    have hds := (decB_size (n := n / 10) (by omega)).1
    have e1 : (bStr [48 + ((n % 10 : Nat) : Int)]).size = 1 := rfl
    refine AW.skip ?_
    refine AW.seq ?_
    refine AW.reg ?_
    refine SeqK.q (q_mvC rfl rfl) rfl rfl rfl ?_
    refine SeqK.q (q_quo _ rfl rfl rfl (by decide) (quo10 hn)) rfl rfl rfl ?_
    refine SeqK.q (q_call _ rfl Fx.fn27 rfl (ih (n / 10) (by omega)) rfl) rfl rfl rfl ?_
    refine SeqK.q (q_mvC rfl rfl) rfl rfl rfl ?_
    refine SeqK.q (q_addS rfl rfl rfl (by omega)) rfl rfl rfl ?_
    refine SeqK.q (q_asC rfl rfl) rfl rfl rfl ?_
    refine SeqK.nil ?_
    refine AW.ret ?_
    exact fin_x (x := .c _) (H) (.tmp rfl .nil) rfl (fun _ _ h => h) (⟨by rw [dec_hi (by omega)], rfl⟩)

theorem digits_any (n : Nat) : N63 n → Pure Tryz.prog 27 [iC (n : Int)] (.c (sC (decB n))) := by
  induction n using Nat.strongRecOn with
  | ind n ih => intro h; exact digits_of n h fun m hm => ih m hm (by omega)
theorem digitsI {v : Int} (h0 : 0 ≤ v) (h : N63 v.toNat) : Pure Tryz.prog 27 [iC v] (.c (sC (decB v.toNat))) := by
  obtain ⟨n, rfl⟩ := Int.eq_ofNat_of_zero_le h0
  exact digits_any n h
theorem itoaI {v : Int} (h0 : 0 ≤ v) (h : N63 v.toNat) : Pure Tryz.prog 38 [iC v] (.c (sC (decB v.toNat))) := by
  obtain ⟨n, rfl⟩ := Int.eq_ofNat_of_zero_le h0
  exact itoa_b n h
theorem fintI {v : Int} (h0 : 0 ≤ v) (h : N63 v.toNat) : Pure Tryz.prog 20 [iC v, iC 10] (.c (sC (decB v.toNat))) := by
  obtain ⟨n, rfl⟩ := Int.eq_ofNat_of_zero_le h0
  exact fint_b n h
/-- a text with each quote twice -/
def qtL (l : List UInt8) : List UInt8 := l.flatMap fun b => if b = 39 then [39, 39] else [b]
theorem rep_qt : ∀ l : List UInt8, Lib.replaceK [39] [39, 39] (Lib.count l [39]) l = qtL l
  | [] => by rw [Lib.count_one]; rfl
  | b :: l => by
    have ih := rep_qt l
    by_cases h : b = 39
    · subst h
      rw [Lib.count_cons_eq, Nat.add_comm, Lib.replaceK_hit _ _ _ _ 0 (by rw [Lib.index]; simp [List.isPrefixOf])]
      simp only [qtL, List.flatMap_cons] at ih ⊢
      rw [← ih]; simp
    · rw [Lib.count_cons_ne _ _ _ h]
      cases hc : Lib.count l [39] with
      | zero =>
        rw [hc] at ih
        rw [Lib.replaceK] at ih ⊢
        simp only [qtL, List.flatMap_cons] at ih ⊢
        rw [← ih, if_neg h]; rfl
      | succ k =>
        obtain ⟨i, hi⟩ := Lib.index_of_count (s := l) (old := [39]) (by omega)
        have hp : ([39] : List UInt8).isPrefixOf (b :: l) = false := by simp [List.isPrefixOf, Ne.symm h]
        have hix : Lib.index (b :: l) [39] = ((i + 1 : Nat) : Int) := by
          rw [Lib.index, hp, hi]; simp
        rw [Lib.replaceK_hit _ _ _ _ _ hix]
        rw [hc, Lib.replaceK_hit _ _ _ _ _ hi] at ih
        simp only [qtL, List.flatMap_cons] at ih ⊢
        rw [← ih, if_neg h]; simp
def qtB (u : ByteArray) : ByteArray := ⟨(qtL u.data.toList).toArray⟩
theorem qtL_len : ∀ l : List UInt8, (qtL l).length ≤ 2 * l.length
  | [] => by simp [qtL]
  | b :: l => by
    have := qtL_len l
    have e : qtL (b :: l) = (if b = 39 then [39, 39] else [b]) ++ qtL l := by simp [qtL]
    rw [e, List.length_append, List.length_cons]
    split <;> simp only [List.length_cons, List.length_nil] <;> omega
theorem qtB_size {u : ByteArray} : (qtB u).size ≤ 2 * u.size := by
  have := qtL_len u.data.toList
  rw [ba_len] at this
  show (qtL u.data.toList).toArray.size ≤ _
  rw [List.size_toArray]; exact this
theorem replace_b {u : ByteArray} (h : u.size ≤ 100000) : Pure Tryz.prog 44 [sC u, sC ⟨#[39]⟩, sC ⟨#[39, 39]⟩] (.c (sC (qtB u))) :=
  Pure.of_below [.string u, .string ⟨#[39]⟩, .string ⟨#[39, 39]⟩] (fun w hw => by
    obtain ⟨m, hm⟩ := hw.int (g := 1) rfl
    have hs : (⟨#[39]⟩ : ByteArray).size = 1 := rfl
    have hs2 : (⟨#[39, 39]⟩ : ByteArray).size = 2 := rfl
    have hc := Lib.countB_mul_le ⟨#[39]⟩ (by rw [hs]; decide) u.size u (Nat.le_refl _)
    rw [hs] at hc
    refine (Tryz.strings_ReplaceAll u ⟨#[39]⟩ ⟨#[39, 39]⟩ m w (by omega) hm (by rw [hs]; decide) (by rw [hs2]; omega)).mono ?_
    rintro e w' ⟨rfl, h2⟩
    refine ⟨?_, h2⟩
    have e1 : Lib.replaceAll u.data.toList [39] [39, 39] = qtL u.data.toList := by
      rw [Lib.replaceAll, Lib.replace, if_neg (by decide), Lib.replaceNum, if_pos (.inl (by decide)), rep_qt]
    show Ending.returned (.string ⟨(Lib.replaceAll u.data.toList [39] [39, 39]).toArray⟩) = _
    rw [e1]; rfl) fun c => .t (.v rfl)
abbrev qS (l : List UInt8) : ByteArray := ⟨⟨(39 : UInt8) :: qtL l⟩⟩
theorem qtL_take {l : List UInt8} {i : Nat} (hi : i < l.length) : qtL (l.take (i + 1)) = qtL (l.take i) ++ if l[i] = 39 then [39, 39] else [l[i]] := by
  rw [take_put hi, qtL, qtL, List.flatMap_append]; simp
theorem ba_app (a b : List UInt8) : (⟨⟨a⟩⟩ : ByteArray) ++ ⟨⟨b⟩⟩ = ⟨⟨a ++ b⟩⟩ := by
  apply ByteArray.ext
  simp [ByteArray.data_append]
theorem cut1 {u : ByteArray} {i : Nat} (hi : i < u.data.toList.length) : u.extract i (i + 1) = ⟨⟨[u.data.toList[i]]⟩⟩ := by
  apply ByteArray.ext
  apply Array.toList_inj.1
  rw [ByteArray.data_extract, Array.toList_extract, List.extract_eq_take_drop]
  show (u.data.toList.drop i).take (i + 1 - i) = [u.data.toList[i]]
  rw [Nat.add_sub_cancel_left, List.drop_eq_getElem_cons hi]; simp

end Go.Proofs.YtnmfjojhgfipcaaGreatDoor.W
namespace Go.Proofs.YtnmfjojhgfipcaaGreatDoor.W
open Go.RowKit E
set_option linter.unusedVariables false
set_option linter.unusedSimpArgs false
set_option linter.unusedSectionVars false
/-! the text of a linear form -/
def sep (first neg : Bool) : ByteArray := if first then (if neg then ⟨#[45]⟩ else ⟨#[]⟩) else if neg then ⟨#[32, 45, 32]⟩ else ⟨#[32, 43, 32]⟩
def nmB (v : Int) : ByteArray := ⟨#[120]⟩ ++ decB v.toNat
abbrev elK (k : Cf) : ByteArray := if k.n.natAbs ≠ 1 then decB k.n.natAbs ++ ⟨#[42]⟩ ++ nmB k.v else nmB k.v
def fmtK : List Cf → ByteArray → ByteArray
  | [], s => s
  | k :: r, s => fmtK r (s ++ sep (decide (s = ⟨#[]⟩)) (decide (k.n < 0)) ++ elK k)
def fmtL (f : Lf) : ByteArray := if f.c ≠ 0 ∨ f.cs.length = 0 then fmtK f.cs ⟨#[]⟩ ++ sep (decide (fmtK f.cs ⟨#[]⟩ = ⟨#[]⟩)) (decide (f.c < 0)) ++ decB f.c.natAbs else fmtK f.cs ⟨#[]⟩
theorem fmtK_app (a : List Cf) (b : List Cf) : ∀ s, fmtK (a ++ b) s = fmtK b (fmtK a s) := by
  induction a with
  | nil => intro s; rw [List.nil_append, fmtK]
  | cons p r ih => intro s; rw [List.cons_append, fmtK, ih, fmtK]
abbrev fK (l : List Cf) (i : Nat) : ByteArray := fmtK (l.take i) ⟨#[]⟩
theorem fK_next {l : List Cf} {i : Nat} (h : i < l.length) : fK l (i + 1) = fK l i ++ sep (decide (fK l i = ⟨#[]⟩)) (decide (l[i].n < 0)) ++ elK l[i] := by
  rw [fK, take_put h, fmtK_app, fmtK, fmtK]
theorem fK_all (l : List Cf) {i : Nat} (h : l.length ≤ i) : fK l i = fmtK l ⟨#[]⟩ := by rw [fK, List.take_of_length_le h]
/-- the numbers of a linear form -/
structure NumL (f : Lf) : Prop where
  c : N63 f.c.natAbs ∧ R64 f.c
  v : ∀ k ∈ f.cs, 0 ≤ k.v ∧ N63 k.v.toNat
  n : ∀ k ∈ f.cs, N63 k.n.natAbs ∧ R64 k.n
  l : f.cs.length ≤ 400
theorem sep_size (a b : Bool) : (sep a b).size ≤ 3 := by cases a <;> cases b <;> decide
theorem nmB_size {v : Int} (h : N63 v.toNat) : (nmB v).size ≤ 21 ∧ 2 ≤ (nmB v).size := by
  have := decB_size h
  have e : (⟨#[120]⟩ : ByteArray).size = 1 := rfl
  rw [nmB, ByteArray.size_append]; omega
theorem elK_size {k : Cf} (h : N63 k.v.toNat) (h2 : N63 k.n.natAbs) : (elK k).size ≤ 42 ∧ 2 ≤ (elK k).size := by
  have h1 := nmB_size h
  have h3 := decB_size h2
  have e : (⟨#[42]⟩ : ByteArray).size = 1 := rfl
  unfold elK
  split
  · rw [ByteArray.size_append, ByteArray.size_append]; omega
  · omega
theorem fK_size {f : Lf} (h : NumL f) : ∀ i, i ≤ f.cs.length → (fK f.cs i).size ≤ 45 * i ∧ 2 * i ≤ (fK f.cs i).size := by
  intro i
  induction i with
  | zero => intro _; rw [fK, List.take_zero, fmtK]; decide
  | succ i ih =>
    intro hi
    have h1 := ih (by omega)
    have hm := List.getElem_mem (show i < f.cs.length by omega)
    have h2 := elK_size (h.v _ hm).2 (h.n _ hm).1
    have h3 := sep_size (decide (fK f.cs i = ⟨#[]⟩)) (decide (f.cs[i].n < 0))
    rw [fK_next (by omega), ByteArray.size_append, ByteArray.size_append]; omega
theorem fK_zero {f : Lf} (h : NumL f) {i : Nat} (hi : i ≤ f.cs.length) : decide ((i : Int) = 0) = decide (fK f.cs i = ⟨#[]⟩) := by
  by_cases h0 : i = 0
  · subst h0
    have : fK f.cs 0 = ⟨#[]⟩ := by rw [fK, List.take_zero, fmtK]
    simp [this]
  · have h1 := (fK_size h i hi).2
    have : fK f.cs i ≠ ⟨#[]⟩ := fun e => by
      rw [e] at h1
      have e0 : (⟨#[]⟩ : ByteArray).size = 0 := rfl
      omega
    simp [this, h0]
theorem fmtL_size {f : Lf} (h : NumL f) : (fmtL f).size ≤ 18100 := by
  have h1 := (fK_size h f.cs.length (Nat.le_refl _)).1
  rw [fK_all _ (Nat.le_refl _)] at h1
  have h2 := h.l
  have h3 := (decB_size h.c.1).1
  have h4 := sep_size (decide (fmtK f.cs ⟨#[]⟩ = ⟨#[]⟩)) (decide (f.c < 0))
  unfold fmtL
  split
  · rw [ByteArray.size_append, ByteArray.size_append]; omega
  · omega
/-- a box of a text at k; H0 is what else there is -/
structure FB (H0 H : Heap) (k : Nat) (s : ByteArray) : Prop where
  k0 : H0 k = none
  sub : ∀ j o, H0 j = some o → H j = some o
  st : H k = some (.box [.t (.v (.string s))])
theorem FB.put {H0 H : Heap} {k : Nat} {s : ByteArray} (B : FB H0 H k s) (t : ByteArray) : FB H0 (upd H k (some (.box [.t (.v (.string t))]))) k t :=
  ⟨B.k0, fun j o h => by rw [upd_ne _ _ (fun e => by subst e; rw [B.k0] at h; cases h)]; exact B.sub j o h, upd_same _ _ _⟩
theorem FB.new {H : Heap} {k : Nat} (h : H k = none) (t : ByteArray) : FB H (upd H k (some (.box [.t (.v (.string t))]))) k t :=
  ⟨h, fun j o h' => by rw [upd_ne _ _ (fun e => by subst e; rw [h] at h'; cases h')]; exact h', upd_same _ _ _⟩
theorem sep_t0 {s : ByteArray} (h : s = ⟨#[]⟩) : s ++ sep (decide (s = ⟨#[]⟩)) true = ⟨#[45]⟩ := by subst h; rfl
theorem sep_t1 {s : ByteArray} (h : ¬ s = ⟨#[]⟩) : sep (decide (s = ⟨#[]⟩)) true = ⟨#[32, 45, 32]⟩ := by simp [sep, h]
theorem sep_f1 {s : ByteArray} (h : ¬ s = ⟨#[]⟩) : sep (decide (s = ⟨#[]⟩)) false = ⟨#[32, 43, 32]⟩ := by simp [sep, h]
theorem sep_f0 {s : ByteArray} (h : s = ⟨#[]⟩) : s ++ sep (decide (s = ⟨#[]⟩)) false = s := by subst h; rfl
theorem FB.cast {H0 H : Heap} {k : Nat} {s t : ByteArray} (B : FB H0 H k s) (h : s = t) : FB H0 H k t := h ▸ B

set_option maxRecDepth 20000 in
theorem writeT (H0 H : Heap) (k : Nat) (s e : ByteArray) (B : FB H0 H k s) (hb : s.size + e.size + 3 ≤ 1000000) : E.Spec Tryz.prog 39 [bC true, sC e, .a (.bp k 0)] H fun x H' => x = .tup [] ∧ FB H0 H' k (s ++ sep (decide (s = ⟨#[]⟩)) true ++ e) := by
  have hst := B.st
  have c0 : (⟨#[45]⟩ : ByteArray).size = 1 := rfl
  have c1 : (⟨#[32, 45, 32]⟩ : ByteArray).size = 3 := rfl
  have c2 : (⟨#[32, 43, 32]⟩ : ByteArray).size = 3 := rfl
  refine Spec.enter Tryz.func39 rfl ?_
  refine AW.wk (Wk.keep 27 [(0, .c (bC true)), (1, .c (sC e)), (2, .c (.a (.bp k 0)))] [] (H) rfl ⟨rfl, rfl, rfl, trivial⟩ trivial (fun _ _ h => h) rfl) ?_
  refine AW.seq ?_
  refine AW.block ?_
  refine AW.seq ?_
  refine AW.reg ?_
  refine SeqK.r (g_load (r := .a _) rfl Fx.ty9 rfl (by (repeat rw [upd_ne _ _ (by first | assumption | exact Ne.symm (by assumption))]); first | assumption | exact upd_same _ _ _) rfl rfl rfl rfl) rfl ?_
  refine SeqK.q (q_eqlS rfl rfl rfl) rfl rfl rfl ?_
  refine SeqK.qD (q_mvC rfl rfl) rfl rfl rfl (fun g8 => ?_) (fun g8 => ?_)
  ·
    refine SeqK.on (q_mvC rfl rfl) rfl rfl rfl rfl rfl ?_
    refine SeqK.q (q_pkT rfl rfl rfl) rfl rfl rfl ?_
    refine SeqK.q (q_asC rfl rfl) rfl rfl rfl ?_
    refine SeqK.nil ?_
    refine AW.condT rfl ?_
    refine AW.reg ?_
    refine SeqK.r (g_store rfl rfl Fx.ty9 rfl rfl (by (repeat rw [upd_ne _ _ (by first | assumption | exact Ne.symm (by assumption))]); first | assumption | exact upd_same _ _ _) rfl rfl rfl) rfl ?_
    refine SeqK.nil ?_
    refine AW.reg ?_
    refine SeqK.r (g_load (r := .a _) rfl Fx.ty9 rfl (by (repeat rw [upd_ne _ _ (by first | assumption | exact Ne.symm (by assumption))]); first | assumption | exact upd_same _ _ _) rfl rfl rfl rfl) rfl ?_
    refine SeqK.q (q_mvC rfl rfl) rfl rfl rfl ?_
    refine SeqK.q (q_addS rfl rfl rfl (by first | omega | (simp only [ByteArray.size_append]; omega))) rfl rfl rfl ?_
    refine SeqK.r (g_store rfl rfl Fx.ty9 rfl rfl (by (repeat rw [upd_ne _ _ (by first | assumption | exact Ne.symm (by assumption))]); first | assumption | exact upd_same _ _ _) rfl rfl rfl) rfl ?_
    refine SeqK.nil ?_
    exact fin_xN (x := .tup []) (_) .nil rfl (fun _ _ h => h) (⟨rfl, by first | (exfalso; simp_all; done) | exact ((B.put _).put _).cast (by rw [sep_t0 (by assumption)]) | exact ((B.put _).put _).cast (by rw [sep_t1 (by assumption)]) | exact ((B.put _).put _).cast (by rw [sep_f1 (by assumption)]) | exact (B.put _).cast (by rw [sep_f0 (by first | assumption | exact Classical.not_not.1 (by assumption))])⟩)
  ·
    refine SeqK.off rfl rfl rfl rfl rfl rfl ?_
    refine SeqK.q (q_pkF rfl rfl rfl) rfl rfl rfl ?_
    refine SeqK.q (q_asC rfl rfl) rfl rfl rfl ?_
    refine SeqK.nil ?_
    refine AW.condF rfl ?_
    refine AW.seq ?_
    refine AW.reg ?_
    refine SeqK.r (g_load (r := .a _) rfl Fx.ty9 rfl (by (repeat rw [upd_ne _ _ (by first | assumption | exact Ne.symm (by assumption))]); first | assumption | exact upd_same _ _ _) rfl rfl rfl rfl) rfl ?_
    refine SeqK.q (q_neqS rfl rfl rfl) rfl rfl rfl ?_
    refine SeqK.qD (q_mvC rfl rfl) rfl rfl rfl (fun g14 => ?_) (fun g14 => ?_)
    ·
      refine SeqK.on (q_mvC rfl rfl) rfl rfl rfl rfl rfl ?_
      refine SeqK.q (q_pkT rfl rfl rfl) rfl rfl rfl ?_
      refine SeqK.q (q_asC rfl rfl) rfl rfl rfl ?_
      refine SeqK.nil ?_
      refine AW.condT rfl ?_
      refine AW.reg ?_
      refine SeqK.r (g_load (r := .a _) rfl Fx.ty9 rfl (by (repeat rw [upd_ne _ _ (by first | assumption | exact Ne.symm (by assumption))]); first | assumption | exact upd_same _ _ _) rfl rfl rfl rfl) rfl ?_
      refine SeqK.q (q_addS rfl rfl rfl (by first | omega | (simp only [ByteArray.size_append]; omega))) rfl rfl rfl ?_
      refine SeqK.r (g_store rfl rfl Fx.ty9 rfl rfl (by (repeat rw [upd_ne _ _ (by first | assumption | exact Ne.symm (by assumption))]); first | assumption | exact upd_same _ _ _) rfl rfl rfl) rfl ?_
      refine SeqK.nil ?_
      refine AW.reg ?_
      refine SeqK.r (g_load (r := .a _) rfl Fx.ty9 rfl (by (repeat rw [upd_ne _ _ (by first | assumption | exact Ne.symm (by assumption))]); first | assumption | exact upd_same _ _ _) rfl rfl rfl rfl) rfl ?_
      refine SeqK.q (q_mvC rfl rfl) rfl rfl rfl ?_
      refine SeqK.q (q_addS rfl rfl rfl (by first | omega | (simp only [ByteArray.size_append]; omega))) rfl rfl rfl ?_
      refine SeqK.r (g_store rfl rfl Fx.ty9 rfl rfl (by (repeat rw [upd_ne _ _ (by first | assumption | exact Ne.symm (by assumption))]); first | assumption | exact upd_same _ _ _) rfl rfl rfl) rfl ?_
      refine SeqK.nil ?_
      exact fin_xN (x := .tup []) (_) .nil rfl (fun _ _ h => h) (⟨rfl, by first | (exfalso; simp_all; done) | exact ((B.put _).put _).cast (by rw [sep_t0 (by assumption)]) | exact ((B.put _).put _).cast (by rw [sep_t1 (by assumption)]) | exact ((B.put _).put _).cast (by rw [sep_f1 (by assumption)]) | exact (B.put _).cast (by rw [sep_f0 (by first | assumption | exact Classical.not_not.1 (by assumption))])⟩)
    ·
      refine SeqK.off rfl rfl rfl rfl rfl rfl ?_
      refine SeqK.q (q_pkF rfl rfl rfl) rfl rfl rfl ?_
      refine SeqK.q (q_asC rfl rfl) rfl rfl rfl ?_
      refine SeqK.nil ?_
      refine AW.condF rfl ?_
      refine AW.seq ?_
      refine AW.reg ?_
      refine SeqK.r (g_load (r := .a _) rfl Fx.ty9 rfl (by (repeat rw [upd_ne _ _ (by first | assumption | exact Ne.symm (by assumption))]); first | assumption | exact upd_same _ _ _) rfl rfl rfl rfl) rfl ?_
      refine SeqK.q (q_neqS rfl rfl rfl) rfl rfl rfl ?_
      refine SeqK.q (q_asC rfl rfl) rfl rfl rfl ?_
      refine SeqK.nil ?_
      refine AW.condD rfl (fun h19 => ?_) (fun h19 => ?_)
      ·
        refine AW.reg ?_
        refine SeqK.r (g_load (r := .a _) rfl Fx.ty9 rfl (by (repeat rw [upd_ne _ _ (by first | assumption | exact Ne.symm (by assumption))]); first | assumption | exact upd_same _ _ _) rfl rfl rfl rfl) rfl ?_
        refine SeqK.q (q_addS rfl rfl rfl (by first | omega | (simp only [ByteArray.size_append]; omega))) rfl rfl rfl ?_
        refine SeqK.r (g_store rfl rfl Fx.ty9 rfl rfl (by (repeat rw [upd_ne _ _ (by first | assumption | exact Ne.symm (by assumption))]); first | assumption | exact upd_same _ _ _) rfl rfl rfl) rfl ?_
        refine SeqK.nil ?_
        refine AW.reg ?_
        refine SeqK.r (g_load (r := .a _) rfl Fx.ty9 rfl (by (repeat rw [upd_ne _ _ (by first | assumption | exact Ne.symm (by assumption))]); first | assumption | exact upd_same _ _ _) rfl rfl rfl rfl) rfl ?_
        refine SeqK.q (q_mvC rfl rfl) rfl rfl rfl ?_
        refine SeqK.q (q_addS rfl rfl rfl (by first | omega | (simp only [ByteArray.size_append]; omega))) rfl rfl rfl ?_
        refine SeqK.r (g_store rfl rfl Fx.ty9 rfl rfl (by (repeat rw [upd_ne _ _ (by first | assumption | exact Ne.symm (by assumption))]); first | assumption | exact upd_same _ _ _) rfl rfl rfl) rfl ?_
        refine SeqK.nil ?_
        exact fin_xN (x := .tup []) (_) .nil rfl (fun _ _ h => h) (⟨rfl, by first | (exfalso; simp_all; done) | exact ((B.put _).put _).cast (by rw [sep_t0 (by assumption)]) | exact ((B.put _).put _).cast (by rw [sep_t1 (by assumption)]) | exact ((B.put _).put _).cast (by rw [sep_f1 (by assumption)]) | exact (B.put _).cast (by rw [sep_f0 (by first | assumption | exact Classical.not_not.1 (by assumption))])⟩)
      ·
        refine AW.skip ?_
        refine AW.reg ?_
        refine SeqK.r (g_load (r := .a _) rfl Fx.ty9 rfl (by (repeat rw [upd_ne _ _ (by first | assumption | exact Ne.symm (by assumption))]); first | assumption | exact upd_same _ _ _) rfl rfl rfl rfl) rfl ?_
        refine SeqK.q (q_mvC rfl rfl) rfl rfl rfl ?_
        refine SeqK.q (q_addS rfl rfl rfl (by first | omega | (simp only [ByteArray.size_append]; omega))) rfl rfl rfl ?_
        refine SeqK.r (g_store rfl rfl Fx.ty9 rfl rfl (by (repeat rw [upd_ne _ _ (by first | assumption | exact Ne.symm (by assumption))]); first | assumption | exact upd_same _ _ _) rfl rfl rfl) rfl ?_
        refine SeqK.nil ?_
        exact fin_xN (x := .tup []) (_) .nil rfl (fun _ _ h => h) (⟨rfl, by first | (exfalso; simp_all; done) | exact ((B.put _).put _).cast (by rw [sep_t0 (by assumption)]) | exact ((B.put _).put _).cast (by rw [sep_t1 (by assumption)]) | exact ((B.put _).put _).cast (by rw [sep_f1 (by assumption)]) | exact (B.put _).cast (by rw [sep_f0 (by first | assumption | exact Classical.not_not.1 (by assumption))])⟩)

set_option maxRecDepth 20000 in
theorem writeF (H0 H : Heap) (k : Nat) (s e : ByteArray) (B : FB H0 H k s) (hb : s.size + e.size + 3 ≤ 1000000) : E.Spec Tryz.prog 39 [bC false, sC e, .a (.bp k 0)] H fun x H' => x = .tup [] ∧ FB H0 H' k (s ++ sep (decide (s = ⟨#[]⟩)) false ++ e) := by
  have hst := B.st
  have c0 : (⟨#[45]⟩ : ByteArray).size = 1 := rfl
  have c1 : (⟨#[32, 45, 32]⟩ : ByteArray).size = 3 := rfl
  have c2 : (⟨#[32, 43, 32]⟩ : ByteArray).size = 3 := rfl
  refine Spec.enter Tryz.func39 rfl ?_
  refine AW.wk (Wk.keep 27 [(0, .c (bC false)), (1, .c (sC e)), (2, .c (.a (.bp k 0)))] [] (H) rfl ⟨rfl, rfl, rfl, trivial⟩ trivial (fun _ _ h => h) rfl) ?_
  refine AW.seq ?_
  refine AW.block ?_
  refine AW.seq ?_
  refine AW.reg ?_
  refine SeqK.r (g_load (r := .a _) rfl Fx.ty9 rfl (by (repeat rw [upd_ne _ _ (by first | assumption | exact Ne.symm (by assumption))]); first | assumption | exact upd_same _ _ _) rfl rfl rfl rfl) rfl ?_
  refine SeqK.q (q_eqlS rfl rfl rfl) rfl rfl rfl ?_
  refine SeqK.qD (q_mvC rfl rfl) rfl rfl rfl (fun g8 => ?_) (fun g8 => ?_)
  ·
    refine SeqK.on (q_mvC rfl rfl) rfl rfl rfl rfl rfl ?_
    refine SeqK.q (q_pkT rfl rfl rfl) rfl rfl rfl ?_
    refine SeqK.q (q_asC rfl rfl) rfl rfl rfl ?_
    refine SeqK.nil ?_
    refine AW.condF rfl ?_
    refine AW.seq ?_
    refine AW.reg ?_
    refine SeqK.r (g_load (r := .a _) rfl Fx.ty9 rfl (by (repeat rw [upd_ne _ _ (by first | assumption | exact Ne.symm (by assumption))]); first | assumption | exact upd_same _ _ _) rfl rfl rfl rfl) rfl ?_
    refine SeqK.q (q_neqS rfl rfl rfl) rfl rfl rfl ?_
    refine SeqK.qD (q_mvC rfl rfl) rfl rfl rfl (fun g14 => ?_) (fun g14 => ?_)
    ·
      refine SeqK.on (q_mvC rfl rfl) rfl rfl rfl rfl rfl ?_
      refine SeqK.q (q_pkT rfl rfl rfl) rfl rfl rfl ?_
      refine SeqK.q (q_asC rfl rfl) rfl rfl rfl ?_
      refine SeqK.nil ?_
      refine AW.condF rfl ?_
      refine AW.seq ?_
      refine AW.reg ?_
      refine SeqK.r (g_load (r := .a _) rfl Fx.ty9 rfl (by (repeat rw [upd_ne _ _ (by first | assumption | exact Ne.symm (by assumption))]); first | assumption | exact upd_same _ _ _) rfl rfl rfl rfl) rfl ?_
      refine SeqK.q (q_neqS rfl rfl rfl) rfl rfl rfl ?_
      refine SeqK.q (q_asC rfl rfl) rfl rfl rfl ?_
      refine SeqK.nil ?_
      refine AW.condD rfl (fun h19 => ?_) (fun h19 => ?_)
      ·
        refine AW.reg ?_
        refine SeqK.r (g_load (r := .a _) rfl Fx.ty9 rfl (by (repeat rw [upd_ne _ _ (by first | assumption | exact Ne.symm (by assumption))]); first | assumption | exact upd_same _ _ _) rfl rfl rfl rfl) rfl ?_
        refine SeqK.q (q_addS rfl rfl rfl (by first | omega | (simp only [ByteArray.size_append]; omega))) rfl rfl rfl ?_
        refine SeqK.r (g_store rfl rfl Fx.ty9 rfl rfl (by (repeat rw [upd_ne _ _ (by first | assumption | exact Ne.symm (by assumption))]); first | assumption | exact upd_same _ _ _) rfl rfl rfl) rfl ?_
        refine SeqK.nil ?_
        refine AW.reg ?_
        refine SeqK.r (g_load (r := .a _) rfl Fx.ty9 rfl (by (repeat rw [upd_ne _ _ (by first | assumption | exact Ne.symm (by assumption))]); first | assumption | exact upd_same _ _ _) rfl rfl rfl rfl) rfl ?_
        refine SeqK.q (q_mvC rfl rfl) rfl rfl rfl ?_
        refine SeqK.q (q_addS rfl rfl rfl (by first | omega | (simp only [ByteArray.size_append]; omega))) rfl rfl rfl ?_
        refine SeqK.r (g_store rfl rfl Fx.ty9 rfl rfl (by (repeat rw [upd_ne _ _ (by first | assumption | exact Ne.symm (by assumption))]); first | assumption | exact upd_same _ _ _) rfl rfl rfl) rfl ?_
        refine SeqK.nil ?_
        exact fin_xN (x := .tup []) (_) .nil rfl (fun _ _ h => h) (⟨rfl, by first | (exfalso; simp_all; done) | exact ((B.put _).put _).cast (by rw [sep_t0 (by assumption)]) | exact ((B.put _).put _).cast (by rw [sep_t1 (by assumption)]) | exact ((B.put _).put _).cast (by rw [sep_f1 (by assumption)]) | exact (B.put _).cast (by rw [sep_f0 (by first | assumption | exact Classical.not_not.1 (by assumption))])⟩)
      ·
        refine AW.skip ?_
        refine AW.reg ?_
        refine SeqK.r (g_load (r := .a _) rfl Fx.ty9 rfl (by (repeat rw [upd_ne _ _ (by first | assumption | exact Ne.symm (by assumption))]); first | assumption | exact upd_same _ _ _) rfl rfl rfl rfl) rfl ?_
        refine SeqK.q (q_mvC rfl rfl) rfl rfl rfl ?_
        refine SeqK.q (q_addS rfl rfl rfl (by first | omega | (simp only [ByteArray.size_append]; omega))) rfl rfl rfl ?_
        refine SeqK.r (g_store rfl rfl Fx.ty9 rfl rfl (by (repeat rw [upd_ne _ _ (by first | assumption | exact Ne.symm (by assumption))]); first | assumption | exact upd_same _ _ _) rfl rfl rfl) rfl ?_
        refine SeqK.nil ?_
        exact fin_xN (x := .tup []) (_) .nil rfl (fun _ _ h => h) (⟨rfl, by first | (exfalso; simp_all; done) | exact ((B.put _).put _).cast (by rw [sep_t0 (by assumption)]) | exact ((B.put _).put _).cast (by rw [sep_t1 (by assumption)]) | exact ((B.put _).put _).cast (by rw [sep_f1 (by assumption)]) | exact (B.put _).cast (by rw [sep_f0 (by first | assumption | exact Classical.not_not.1 (by assumption))])⟩)
    ·
      refine SeqK.off rfl rfl rfl rfl rfl rfl ?_
      refine SeqK.q (q_pkF rfl rfl rfl) rfl rfl rfl ?_
      refine SeqK.q (q_asC rfl rfl) rfl rfl rfl ?_
      refine SeqK.nil ?_
      refine AW.condF rfl ?_
      refine AW.seq ?_
      refine AW.reg ?_
      refine SeqK.r (g_load (r := .a _) rfl Fx.ty9 rfl (by (repeat rw [upd_ne _ _ (by first | assumption | exact Ne.symm (by assumption))]); first | assumption | exact upd_same _ _ _) rfl rfl rfl rfl) rfl ?_
      refine SeqK.q (q_neqS rfl rfl rfl) rfl rfl rfl ?_
      refine SeqK.q (q_asC rfl rfl) rfl rfl rfl ?_
      refine SeqK.nil ?_
      refine AW.condD rfl (fun h19 => ?_) (fun h19 => ?_)
      ·
        refine AW.reg ?_
        refine SeqK.r (g_load (r := .a _) rfl Fx.ty9 rfl (by (repeat rw [upd_ne _ _ (by first | assumption | exact Ne.symm (by assumption))]); first | assumption | exact upd_same _ _ _) rfl rfl rfl rfl) rfl ?_
        refine SeqK.q (q_addS rfl rfl rfl (by first | omega | (simp only [ByteArray.size_append]; omega))) rfl rfl rfl ?_
        refine SeqK.r (g_store rfl rfl Fx.ty9 rfl rfl (by (repeat rw [upd_ne _ _ (by first | assumption | exact Ne.symm (by assumption))]); first | assumption | exact upd_same _ _ _) rfl rfl rfl) rfl ?_
        refine SeqK.nil ?_
        refine AW.reg ?_
        refine SeqK.r (g_load (r := .a _) rfl Fx.ty9 rfl (by (repeat rw [upd_ne _ _ (by first | assumption | exact Ne.symm (by assumption))]); first | assumption | exact upd_same _ _ _) rfl rfl rfl rfl) rfl ?_
        refine SeqK.q (q_mvC rfl rfl) rfl rfl rfl ?_
        refine SeqK.q (q_addS rfl rfl rfl (by first | omega | (simp only [ByteArray.size_append]; omega))) rfl rfl rfl ?_
        refine SeqK.r (g_store rfl rfl Fx.ty9 rfl rfl (by (repeat rw [upd_ne _ _ (by first | assumption | exact Ne.symm (by assumption))]); first | assumption | exact upd_same _ _ _) rfl rfl rfl) rfl ?_
        refine SeqK.nil ?_
        exact fin_xN (x := .tup []) (_) .nil rfl (fun _ _ h => h) (⟨rfl, by first | (exfalso; simp_all; done) | exact ((B.put _).put _).cast (by rw [sep_t0 (by assumption)]) | exact ((B.put _).put _).cast (by rw [sep_t1 (by assumption)]) | exact ((B.put _).put _).cast (by rw [sep_f1 (by assumption)]) | exact (B.put _).cast (by rw [sep_f0 (by first | assumption | exact Classical.not_not.1 (by assumption))])⟩)
      ·
        refine AW.skip ?_
        refine AW.reg ?_
        refine SeqK.r (g_load (r := .a _) rfl Fx.ty9 rfl (by (repeat rw [upd_ne _ _ (by first | assumption | exact Ne.symm (by assumption))]); first | assumption | exact upd_same _ _ _) rfl rfl rfl rfl) rfl ?_
        refine SeqK.q (q_mvC rfl rfl) rfl rfl rfl ?_
        refine SeqK.q (q_addS rfl rfl rfl (by first | omega | (simp only [ByteArray.size_append]; omega))) rfl rfl rfl ?_
        refine SeqK.r (g_store rfl rfl Fx.ty9 rfl rfl (by (repeat rw [upd_ne _ _ (by first | assumption | exact Ne.symm (by assumption))]); first | assumption | exact upd_same _ _ _) rfl rfl rfl) rfl ?_
        refine SeqK.nil ?_
        exact fin_xN (x := .tup []) (_) .nil rfl (fun _ _ h => h) (⟨rfl, by first | (exfalso; simp_all; done) | exact ((B.put _).put _).cast (by rw [sep_t0 (by assumption)]) | exact ((B.put _).put _).cast (by rw [sep_t1 (by assumption)]) | exact ((B.put _).put _).cast (by rw [sep_f1 (by assumption)]) | exact (B.put _).cast (by rw [sep_f0 (by first | assumption | exact Classical.not_not.1 (by assumption))])⟩)
  ·
    refine SeqK.off rfl rfl rfl rfl rfl rfl ?_
    refine SeqK.q (q_pkF rfl rfl rfl) rfl rfl rfl ?_
    refine SeqK.q (q_asC rfl rfl) rfl rfl rfl ?_
    refine SeqK.nil ?_
    refine AW.condF rfl ?_
    refine AW.seq ?_
    refine AW.reg ?_
    refine SeqK.r (g_load (r := .a _) rfl Fx.ty9 rfl (by (repeat rw [upd_ne _ _ (by first | assumption | exact Ne.symm (by assumption))]); first | assumption | exact upd_same _ _ _) rfl rfl rfl rfl) rfl ?_
    refine SeqK.q (q_neqS rfl rfl rfl) rfl rfl rfl ?_
    refine SeqK.qD (q_mvC rfl rfl) rfl rfl rfl (fun g14 => ?_) (fun g14 => ?_)
    ·
      refine SeqK.on (q_mvC rfl rfl) rfl rfl rfl rfl rfl ?_
      refine SeqK.q (q_pkT rfl rfl rfl) rfl rfl rfl ?_
      refine SeqK.q (q_asC rfl rfl) rfl rfl rfl ?_
      refine SeqK.nil ?_
      refine AW.condF rfl ?_
      refine AW.seq ?_
      refine AW.reg ?_
      refine SeqK.r (g_load (r := .a _) rfl Fx.ty9 rfl (by (repeat rw [upd_ne _ _ (by first | assumption | exact Ne.symm (by assumption))]); first | assumption | exact upd_same _ _ _) rfl rfl rfl rfl) rfl ?_
      refine SeqK.q (q_neqS rfl rfl rfl) rfl rfl rfl ?_
      refine SeqK.q (q_asC rfl rfl) rfl rfl rfl ?_
      refine SeqK.nil ?_
      refine AW.condD rfl (fun h19 => ?_) (fun h19 => ?_)
      ·
        refine AW.reg ?_
        refine SeqK.r (g_load (r := .a _) rfl Fx.ty9 rfl (by (repeat rw [upd_ne _ _ (by first | assumption | exact Ne.symm (by assumption))]); first | assumption | exact upd_same _ _ _) rfl rfl rfl rfl) rfl ?_
        refine SeqK.q (q_addS rfl rfl rfl (by first | omega | (simp only [ByteArray.size_append]; omega))) rfl rfl rfl ?_
        refine SeqK.r (g_store rfl rfl Fx.ty9 rfl rfl (by (repeat rw [upd_ne _ _ (by first | assumption | exact Ne.symm (by assumption))]); first | assumption | exact upd_same _ _ _) rfl rfl rfl) rfl ?_
        refine SeqK.nil ?_
        refine AW.reg ?_
        refine SeqK.r (g_load (r := .a _) rfl Fx.ty9 rfl (by (repeat rw [upd_ne _ _ (by first | assumption | exact Ne.symm (by assumption))]); first | assumption | exact upd_same _ _ _) rfl rfl rfl rfl) rfl ?_
        refine SeqK.q (q_mvC rfl rfl) rfl rfl rfl ?_
        refine SeqK.q (q_addS rfl rfl rfl (by first | omega | (simp only [ByteArray.size_append]; omega))) rfl rfl rfl ?_
        refine SeqK.r (g_store rfl rfl Fx.ty9 rfl rfl (by (repeat rw [upd_ne _ _ (by first | assumption | exact Ne.symm (by assumption))]); first | assumption | exact upd_same _ _ _) rfl rfl rfl) rfl ?_
        refine SeqK.nil ?_
        exact fin_xN (x := .tup []) (_) .nil rfl (fun _ _ h => h) (⟨rfl, by first | (exfalso; simp_all; done) | exact ((B.put _).put _).cast (by rw [sep_t0 (by assumption)]) | exact ((B.put _).put _).cast (by rw [sep_t1 (by assumption)]) | exact ((B.put _).put _).cast (by rw [sep_f1 (by assumption)]) | exact (B.put _).cast (by rw [sep_f0 (by first | assumption | exact Classical.not_not.1 (by assumption))])⟩)
      ·
        refine AW.skip ?_
        refine AW.reg ?_
        refine SeqK.r (g_load (r := .a _) rfl Fx.ty9 rfl (by (repeat rw [upd_ne _ _ (by first | assumption | exact Ne.symm (by assumption))]); first | assumption | exact upd_same _ _ _) rfl rfl rfl rfl) rfl ?_
        refine SeqK.q (q_mvC rfl rfl) rfl rfl rfl ?_
        refine SeqK.q (q_addS rfl rfl rfl (by first | omega | (simp only [ByteArray.size_append]; omega))) rfl rfl rfl ?_
        refine SeqK.r (g_store rfl rfl Fx.ty9 rfl rfl (by (repeat rw [upd_ne _ _ (by first | assumption | exact Ne.symm (by assumption))]); first | assumption | exact upd_same _ _ _) rfl rfl rfl) rfl ?_
        refine SeqK.nil ?_
        exact fin_xN (x := .tup []) (_) .nil rfl (fun _ _ h => h) (⟨rfl, by first | (exfalso; simp_all; done) | exact ((B.put _).put _).cast (by rw [sep_t0 (by assumption)]) | exact ((B.put _).put _).cast (by rw [sep_t1 (by assumption)]) | exact ((B.put _).put _).cast (by rw [sep_f1 (by assumption)]) | exact (B.put _).cast (by rw [sep_f0 (by first | assumption | exact Classical.not_not.1 (by assumption))])⟩)
    ·
      refine SeqK.off rfl rfl rfl rfl rfl rfl ?_
      refine SeqK.q (q_pkF rfl rfl rfl) rfl rfl rfl ?_
      refine SeqK.q (q_asC rfl rfl) rfl rfl rfl ?_
      refine SeqK.nil ?_
      refine AW.condF rfl ?_
      refine AW.seq ?_
      refine AW.reg ?_
      refine SeqK.r (g_load (r := .a _) rfl Fx.ty9 rfl (by (repeat rw [upd_ne _ _ (by first | assumption | exact Ne.symm (by assumption))]); first | assumption | exact upd_same _ _ _) rfl rfl rfl rfl) rfl ?_
      refine SeqK.q (q_neqS rfl rfl rfl) rfl rfl rfl ?_
      refine SeqK.q (q_asC rfl rfl) rfl rfl rfl ?_
      refine SeqK.nil ?_
      refine AW.condD rfl (fun h19 => ?_) (fun h19 => ?_)
      ·
        refine AW.reg ?_
        refine SeqK.r (g_load (r := .a _) rfl Fx.ty9 rfl (by (repeat rw [upd_ne _ _ (by first | assumption | exact Ne.symm (by assumption))]); first | assumption | exact upd_same _ _ _) rfl rfl rfl rfl) rfl ?_
        refine SeqK.q (q_addS rfl rfl rfl (by first | omega | (simp only [ByteArray.size_append]; omega))) rfl rfl rfl ?_
        refine SeqK.r (g_store rfl rfl Fx.ty9 rfl rfl (by (repeat rw [upd_ne _ _ (by first | assumption | exact Ne.symm (by assumption))]); first | assumption | exact upd_same _ _ _) rfl rfl rfl) rfl ?_
        refine SeqK.nil ?_
        refine AW.reg ?_
        refine SeqK.r (g_load (r := .a _) rfl Fx.ty9 rfl (by (repeat rw [upd_ne _ _ (by first | assumption | exact Ne.symm (by assumption))]); first | assumption | exact upd_same _ _ _) rfl rfl rfl rfl) rfl ?_
        refine SeqK.q (q_mvC rfl rfl) rfl rfl rfl ?_
        refine SeqK.q (q_addS rfl rfl rfl (by first | omega | (simp only [ByteArray.size_append]; omega))) rfl rfl rfl ?_
        refine SeqK.r (g_store rfl rfl Fx.ty9 rfl rfl (by (repeat rw [upd_ne _ _ (by first | assumption | exact Ne.symm (by assumption))]); first | assumption | exact upd_same _ _ _) rfl rfl rfl) rfl ?_
        refine SeqK.nil ?_
        exact fin_xN (x := .tup []) (_) .nil rfl (fun _ _ h => h) (⟨rfl, by first | (exfalso; simp_all; done) | exact ((B.put _).put _).cast (by rw [sep_t0 (by assumption)]) | exact ((B.put _).put _).cast (by rw [sep_t1 (by assumption)]) | exact ((B.put _).put _).cast (by rw [sep_f1 (by assumption)]) | exact (B.put _).cast (by rw [sep_f0 (by first | assumption | exact Classical.not_not.1 (by assumption))])⟩)
      ·
        refine AW.skip ?_
        refine AW.reg ?_
        refine SeqK.r (g_load (r := .a _) rfl Fx.ty9 rfl (by (repeat rw [upd_ne _ _ (by first | assumption | exact Ne.symm (by assumption))]); first | assumption | exact upd_same _ _ _) rfl rfl rfl rfl) rfl ?_
        refine SeqK.q (q_mvC rfl rfl) rfl rfl rfl ?_
        refine SeqK.q (q_addS rfl rfl rfl (by first | omega | (simp only [ByteArray.size_append]; omega))) rfl rfl rfl ?_
        refine SeqK.r (g_store rfl rfl Fx.ty9 rfl rfl (by (repeat rw [upd_ne _ _ (by first | assumption | exact Ne.symm (by assumption))]); first | assumption | exact upd_same _ _ _) rfl rfl rfl) rfl ?_
        refine SeqK.nil ?_
        exact fin_xN (x := .tup []) (_) .nil rfl (fun _ _ h => h) (⟨rfl, by first | (exfalso; simp_all; done) | exact ((B.put _).put _).cast (by rw [sep_t0 (by assumption)]) | exact ((B.put _).put _).cast (by rw [sep_t1 (by assumption)]) | exact ((B.put _).put _).cast (by rw [sep_f1 (by assumption)]) | exact (B.put _).cast (by rw [sep_f0 (by first | assumption | exact Classical.not_not.1 (by assumption))])⟩)

theorem write_any (H0 H : Heap) (k : Nat) (s e : ByteArray) (neg : Bool) (B : FB H0 H k s) (hb : s.size + e.size + 3 ≤ 1000000) : E.Spec Tryz.prog 39 [bC neg, sC e, .a (.bp k 0)] H fun x H' => x = .tup [] ∧ FB H0 H' k (s ++ sep (decide (s = ⟨#[]⟩)) neg ++ e) := by
  cases neg
  · exact writeF H0 H k s e B hb
  · exact writeT H0 H k s e B hb

set_option maxRecDepth 20000 in
theorem variable_any (v : Int) (h0 : 0 ≤ v) (h : N63 v.toNat) : Pure Tryz.prog 18 [iC v] (.c (sC (nmB v))) := by
  have e1 : (⟨#[120]⟩ : ByteArray).size = 1 := rfl
  have hs := (decB_size h).1
  intro H
  refine Spec.enter Tryz.func18 rfl ?_
  refine AW.wk (Wk.keep 6 [(0, .c (iC v))] [] (H) rfl ⟨rfl, trivial⟩ trivial (fun _ _ h => h) rfl) ?_
  refine AW.seq ?_
  refine AW.reg ?_
  refine SeqK.q (q_asC rfl rfl) rfl rfl rfl ?_
  refine SeqK.nil ?_
  refine AW.seq ?_
  refine AW.reg ?_
  refine SeqK.q (q_mvC rfl rfl) rfl rfl rfl ?_
  refine SeqK.q (q_call _ rfl Fx.fn38 rfl (itoaI h0 h) rfl) rfl rfl rfl ?_
  refine SeqK.q (q_addS rfl rfl rfl (by omega)) rfl rfl rfl ?_
  refine SeqK.q (q_asC rfl rfl) rfl rfl rfl ?_
  refine SeqK.nil ?_
  refine AW.ret ?_
  exact fin_x (x := .c _) H (.tmp rfl .nil) rfl (fun _ _ h => h) ⟨rfl, rfl⟩

set_option maxRecDepth 20000 in
theorem name_any (v : Int) (h0 : 0 ≤ v) (h : N63 v.toNat) : Pure Tryz.prog 25 [iC v] (.c (sC (nmB v))) := by
  have e1 : (⟨#[120]⟩ : ByteArray).size = 1 := rfl
  have hs := (decB_size h).1
  intro H
  refine Spec.enter Tryz.func25 rfl ?_
  refine AW.wk (Wk.keep 6 [(0, .c (iC v))] [] (H) rfl ⟨rfl, trivial⟩ trivial (fun _ _ h => h) rfl) ?_
  refine AW.seq ?_
  refine AW.reg ?_
  refine SeqK.q (q_asC rfl rfl) rfl rfl rfl ?_
  refine SeqK.nil ?_
  refine AW.seq ?_
  refine AW.reg ?_
  refine SeqK.q (q_mvC rfl rfl) rfl rfl rfl ?_
  refine SeqK.q (q_call _ rfl Fx.fn27 rfl (digitsI h0 h) rfl) rfl rfl rfl ?_
  refine SeqK.q (q_addS rfl rfl rfl (by omega)) rfl rfl rfl ?_
  refine SeqK.q (q_asC rfl rfl) rfl rfl rfl ?_
  refine SeqK.nil ?_
  refine AW.ret ?_
  exact fin_x (x := .c _) H (.tmp rfl .nil) rfl (fun _ _ h => h) ⟨rfl, rfl⟩

set_option maxRecDepth 20000 in
theorem abs_any (n : Int) (hn : R64 n) : Pure Tryz.prog 40 [iC n] (.c (u64C n.natAbs)) := by
  intro H
  refine Spec.enter Tryz.func40 rfl ?_
  refine AW.wk (Wk.keep 10 [(0, .c (iC n))] [] (H) rfl ⟨rfl, trivial⟩ trivial (fun _ _ h => h) rfl) ?_
  refine AW.seq ?_
  refine AW.reg ?_
  refine SeqK.q (q_asC rfl rfl) rfl rfl rfl ?_
  refine SeqK.nil ?_
  refine AW.seq ?_
  refine AW.seq ?_
  refine AW.reg ?_
  refine SeqK.q (q_mvC rfl rfl) rfl rfl rfl ?_
  refine SeqK.q (q_lss rfl rfl rfl) rfl rfl rfl ?_
  refine SeqK.nil ?_
  refine AW.condD rfl (fun h4 => ?_) (fun h4 => ?_)
  ·
    refine AW.seq ?_
    refine AW.reg ?_
    refine SeqK.q (q_mvC rfl rfl) rfl rfl rfl ?_
    refine SeqK.q (q_conv _ rfl Fx.un98 rfl (wu64n h4 (by omega)) ⟨_, Fx.un2⟩) rfl rfl rfl ?_
    refine SeqK.q (q_neg _ rfl rfl ((by rw [wu64n (by omega) (by omega)]; omega : IntKind.u64.wrap _ = ((n.natAbs : Nat) : Int)))) rfl rfl rfl ?_
    refine SeqK.q (q_asC rfl rfl) rfl rfl rfl ?_
    refine SeqK.nil ?_
    refine AW.ret ?_
    exact fin_x (x := .c _) H (.tmp rfl .nil) rfl (fun _ _ h => h) ⟨rfl, rfl⟩
  ·
    refine AW.skip ?_
    refine AW.seq ?_
    refine AW.reg ?_
    refine SeqK.q (q_mvC rfl rfl) rfl rfl rfl ?_
    refine SeqK.q (q_conv _ rfl Fx.un98 rfl ((by rw [wu64 (by omega) (by omega)]; omega : IntKind.u64.wrap _ = ((n.natAbs : Nat) : Int))) ⟨_, Fx.un2⟩) rfl rfl rfl ?_
    refine SeqK.q (q_asC rfl rfl) rfl rfl rfl ?_
    refine SeqK.nil ?_
    refine AW.ret ?_
    exact fin_x (x := .c _) H (.tmp rfl .nil) rfl (fun _ _ h => h) ⟨rfl, rfl⟩

end Go.Proofs.YtnmfjojhgfipcaaGreatDoor.W
namespace Go.Proofs.YtnmfjojhgfipcaaGreatDoor.W
open Go.RowKit E
set_option linter.unusedVariables false
set_option linter.unusedSimpArgs false
set_option linter.unusedSectionVars false
/-! a linear form's text: the program's, the reference's -/
abbrev ptT (k : Cf) : List E.T := [.v (.int .i64 k.n), .v (.int .i64 0), .v (.int .i64 k.v), .v (.int .i64 0), .v (.slice none 0 0)]
abbrev tmC (f : Lf) : C := .g [.t (.v (.int .i64 f.c)), .t (.sl .un 5 (f.cs.map ptT))]
theorem fmtL_of {f : Lf} (h : f.c ≠ 0 ∨ f.cs.length = 0) : fmtL f = fmtK f.cs ⟨#[]⟩ ++ sep (decide (fmtK f.cs ⟨#[]⟩ = ⟨#[]⟩)) (decide (f.c < 0)) ++ decB f.c.natAbs := by rw [fmtL, if_pos h]
theorem fmtL_no {f : Lf} (h : ¬ (f.c ≠ 0 ∨ f.cs.length = 0)) : fmtL f = fmtK f.cs ⟨#[]⟩ := by rw [fmtL, if_neg h]
theorem elK1 {k : Cf} (h : ¬ ((k.n.natAbs : Nat) : Int) = 1) : elK k = decB k.n.natAbs ++ ⟨#[42]⟩ ++ nmB k.v := by unfold elK; rw [if_pos (by omega)]
theorem elK0 {k : Cf} (h : ((k.n.natAbs : Nat) : Int) = 1) : elK k = nmB k.v := by unfold elK; rw [if_neg (by omega)]

set_option maxHeartbeats 8000000 in
set_option maxRecDepth 20000 in
theorem formatLinear_any (f : Lf) (hn : NumL f) : Pure Tryz.prog 19 [lfC f] (.c (sC (fmtL f))) := by
  have c1 : (⟨#[42]⟩ : ByteArray).size = 1 := rfl
  have c2 : (⟨#[45]⟩ : ByteArray).size = 1 := rfl
  have c3 : (⟨#[32, 45, 32]⟩ : ByteArray).size = 3 := rfl
  have c4 : (⟨#[32, 43, 32]⟩ : ByteArray).size = 3 := rfl
  have c5 : (⟨#[120]⟩ : ByteArray).size = 1 := rfl
  intro H
  refine Spec.enter Tryz.func19 rfl ?_
  refine AW.wk (Wk.keep 56 [(0, .c (lfC f))] [] (H) rfl ⟨rfl, trivial⟩ trivial (fun _ _ h => h) rfl) ?_
  refine AW.seq ?_
  refine AW.reg ?_
  refine SeqK.r (b_box (r := [_, _]) rfl rfl rfl rfl rfl rfl) rfl ?_
  refine SeqK.q (q_asC rfl rfl) rfl rfl rfl ?_
  refine SeqK.nil ?_
  refine AW.seq ?_
  refine AW.reg ?_
  refine SeqK.newAlloc (r := [_]) rfl rfl rfl Fx.ze9 rfl rfl rfl (fun k3 hk3 => ?_)
  refine SeqK.r (g_store rfl rfl Fx.ty9 rfl rfl (by (repeat rw [upd_ne _ _ (by first | assumption | exact Ne.symm (by assumption))]); first | assumption | exact upd_same _ _ _) rfl rfl rfl) rfl ?_
  refine SeqK.nil ?_
  refine AW.seq ?_
  refine AW.reg ?_
  refine SeqK.q (q_mkFn rfl rfl rfl) rfl rfl rfl ?_
  refine SeqK.q (q_asC rfl rfl) rfl rfl rfl ?_
  refine SeqK.nil ?_
  refine AW.seq ?_
  refine AW.seq ?_
  refine AW.reg ?_
  refine SeqK.q (q_fieldL _ rfl Fx.fl61_1 rfl rfl) rfl rfl rfl ?_
  refine SeqK.r (b_load (r := .a _) rfl Fx.ty59 rfl rfl rfl rfl rfl rfl) rfl ?_
  refine SeqK.q (q_len rfl Fx.un59 rfl) rfl rfl rfl ?_
  refine SeqK.q (q_mvC rfl rfl) rfl rfl rfl ?_
  refine SeqK.nil ?_
  refine AW.block ?_
  refine AW.loop (fun (i : Nat) s => ∃ (Hx : Heap), (i ≤ f.cs.length ∧ FB H Hx k3 (fK f.cs i)) ∧ s = ⟨56, sp [(1, .lp 1 0), (2, .c (sC ⟨#[]⟩)), (3, .c (.a (.bp k3 0))), (4, .c (.a (.fn 39 [.bp k3 0]))), (11, .c (cfsC .un f.cs)), (12, iX .i64 (((f.cs.map cfT).length : Nat) : Int)), (13, iX .i64 ((i : Nat) : Int))], lv [(1, .box [.t (.v (.int .i64 f.c)), .t (.sl .un 2 (f.cs.map cfT))])], Hx⟩) (fun i => f.cs.length - i) 0 ⟨_, Wk.keep 56 [(1, .lp 1 0), (2, .c (sC ⟨#[]⟩)), (3, .c (.a (.bp k3 0))), (4, .c (.a (.fn 39 [.bp k3 0]))), (11, .c (cfsC .un f.cs)), (12, iX .i64 (((f.cs.map cfT).length : Nat) : Int)), (13, iX .i64 ((((0 : Nat)) : Nat) : Int))] [(1, .box [.t (.v (.int .i64 f.c)), .t (.sl .un 2 (f.cs.map cfT))])] ((_)) rfl ⟨rfl, rfl, rfl, rfl, rfl, rfl, rfl, trivial⟩ ⟨rfl, trivial⟩ (fun _ _ h => h) rfl, _, ⟨Nat.zero_le _, ((FB.new hk3 ⟨#[]⟩).put ⟨#[]⟩).cast (by rw [fK, List.take_zero, fmtK])⟩, rfl⟩ (fun i s hs => ?_)
  obtain ⟨Hx, ⟨hi0, B⟩, rfl⟩ := hs
  refine AW.seq ?_
  refine AW.reg ?_
  refine SeqK.q (q_lss rfl rfl rfl) rfl rfl rfl ?_
  refine SeqK.nil ?_
  refine AW.seq ?_
  refine AW.condD rfl (fun h14 => ?_) (fun h14 => ?_)
  ·
    have hi : i < f.cs.length := by rw [List.length_map] at h14; omega
    have hm := List.getElem_mem hi
    have hv := hn.v _ hm
    have hc := hn.n _ hm
    have hf := (fK_size hn i (by omega)).1
    have hl := hn.l
    have hsv := nmB_size hv.2
    have hsn := decB_size hc.1
    have hse := elK_size hv.2 hc.1
    have hsd := decB_size hv.2
    have hc1 : f.cs[i].n.natAbs < 9223372036854775808 := hc.1
    have hc2 := hc.2.1
    have hc3 := hc.2.2
    refine AW.skip ?_
    refine AW.seq ?_
    refine AW.block ?_
    refine AW.seq ?_
    refine AW.reg ?_
    refine SeqK.q (q_index _ rfl Fx.sl59 rfl rfl (by omega) (idx_map (f := cfT) hi)) rfl rfl rfl ?_
    refine SeqK.q (q_load (.g [_, _]) rfl Fx.ty96 rfl rfl rfl) rfl rfl rfl ?_
    refine SeqK.r (b_alloc (r := [_, _]) rfl rfl Fx.ze96 rfl rfl rfl rfl) rfl ?_
    refine SeqK.r (b_store (r := [_, _]) rfl rfl Fx.ty96 rfl rfl rfl rfl rfl rfl) rfl ?_
    refine SeqK.nil ?_
    refine AW.seq ?_
    refine AW.reg ?_
    refine SeqK.q (q_fieldL _ rfl Fx.fl96_0 rfl rfl) rfl rfl rfl ?_
    refine SeqK.r (b_load (r := .a _) rfl Fx.ty3 rfl rfl rfl rfl rfl rfl) rfl ?_
    refine SeqK.q (q_call _ rfl Fx.fn18 rfl (variable_any _ hv.1 hv.2) rfl) rfl rfl rfl ?_
    refine SeqK.q (q_asC rfl rfl) rfl rfl rfl ?_
    refine SeqK.nil ?_
    refine AW.seq ?_
    refine AW.seq ?_
    refine AW.reg ?_
    refine SeqK.q (q_fieldL _ rfl Fx.fl96_1 rfl rfl) rfl rfl rfl ?_
    refine SeqK.r (b_load (r := .a _) rfl Fx.ty2 rfl rfl rfl rfl rfl rfl) rfl ?_
    refine SeqK.q (q_call _ rfl Fx.fn40 rfl (abs_any _ (by first | exact hc.2 | exact hn.c.2)) rfl) rfl rfl rfl ?_
    refine SeqK.q (q_asC rfl rfl) rfl rfl rfl ?_
    refine SeqK.nil ?_
    refine AW.seq ?_
    refine AW.reg ?_
    refine SeqK.q (q_mvC rfl rfl) rfl rfl rfl ?_
    refine SeqK.q (q_neq rfl rfl rfl) rfl rfl rfl ?_
    refine SeqK.nil ?_
    refine AW.condD rfl (fun h24 => ?_) (fun h24 => ?_)
    ·
      refine AW.reg ?_
      refine SeqK.q (q_mvC rfl rfl) rfl rfl rfl ?_
      refine SeqK.q (q_call _ rfl Fx.fn41 rfl (fuint_b _ (by first | exact hc.1 | exact hn.c.1)) rfl) rfl rfl rfl ?_
      refine SeqK.q (q_addS rfl rfl rfl (by first | omega | (simp only [ByteArray.size_append]; omega))) rfl rfl rfl ?_
      refine SeqK.q (q_mvC rfl rfl) rfl rfl rfl ?_
      refine SeqK.q (q_addS rfl rfl rfl (by first | omega | (simp only [ByteArray.size_append]; omega))) rfl rfl rfl ?_
      refine SeqK.q (q_asC rfl rfl) rfl rfl rfl ?_
      refine SeqK.nil ?_
      refine AW.reg ?_
      refine SeqK.q (q_mvC rfl rfl) rfl rfl rfl ?_
      refine SeqK.q (q_fieldL _ rfl Fx.fl96_1 rfl rfl) rfl rfl rfl ?_
      refine SeqK.r (b_load (r := .a _) rfl Fx.ty2 rfl rfl rfl rfl rfl rfl) rfl ?_
      refine SeqK.q (q_lss rfl rfl rfl) rfl rfl rfl ?_
      refine SeqK.q (q_mvC rfl rfl) rfl rfl rfl ?_
      refine SeqK.callV rfl rfl rfl rfl rfl Fx.fn39 rfl (write_any H Hx k3 _ _ _ B (by first | omega | (simp only [ByteArray.size_append]; omega))) (fun _ _ h => by rw [h.1]; rfl) (fun x35 H35 q35 => ?_)
      obtain ⟨rfl, B35⟩ := q35
      refine SeqK.nil ?_
      refine AW.reg ?_
      refine SeqK.q (q_add _ rfl rfl rfl (w64 (by omega) (by omega))) rfl rfl rfl ?_
      refine SeqK.q (q_mvC rfl rfl) rfl rfl rfl ?_
      refine SeqK.nil ?_
      exact ⟨i + 1, _, Wk.keep 56 [(1, .lp 1 0), (2, .c (sC ⟨#[]⟩)), (3, .c (.a (.bp k3 0))), (4, .c (.a (.fn 39 [.bp k3 0]))), (11, .c (cfsC .un f.cs)), (12, iX .i64 (((f.cs.map cfT).length : Nat) : Int)), (13, iX .i64 (((i + 1) : Nat) : Int))] [(1, .box [.t (.v (.int .i64 f.c)), .t (.sl .un 2 (f.cs.map cfT))])] ((_)) rfl ⟨rfl, rfl, rfl, rfl, rfl, rfl, rfl, trivial⟩ ⟨rfl, trivial⟩ (fun _ _ h => h) rfl, by omega, _, ⟨hi, B35.cast (by rw [fK_next hi, elK1 h24])⟩, rfl⟩
    ·
      refine AW.skip ?_
      refine AW.reg ?_
      refine SeqK.q (q_mvC rfl rfl) rfl rfl rfl ?_
      refine SeqK.q (q_fieldL _ rfl Fx.fl96_1 rfl rfl) rfl rfl rfl ?_
      refine SeqK.r (b_load (r := .a _) rfl Fx.ty2 rfl rfl rfl rfl rfl rfl) rfl ?_
      refine SeqK.q (q_lss rfl rfl rfl) rfl rfl rfl ?_
      refine SeqK.q (q_mvC rfl rfl) rfl rfl rfl ?_
      refine SeqK.callV rfl rfl rfl rfl rfl Fx.fn39 rfl (write_any H Hx k3 _ _ _ B (by first | omega | (simp only [ByteArray.size_append]; omega))) (fun _ _ h => by rw [h.1]; rfl) (fun x35 H35 q35 => ?_)
      obtain ⟨rfl, B35⟩ := q35
      refine SeqK.nil ?_
      refine AW.reg ?_
      refine SeqK.q (q_add _ rfl rfl rfl (w64 (by omega) (by omega))) rfl rfl rfl ?_
      refine SeqK.q (q_mvC rfl rfl) rfl rfl rfl ?_
      refine SeqK.nil ?_
      exact ⟨i + 1, _, Wk.keep 56 [(1, .lp 1 0), (2, .c (sC ⟨#[]⟩)), (3, .c (.a (.bp k3 0))), (4, .c (.a (.fn 39 [.bp k3 0]))), (11, .c (cfsC .un f.cs)), (12, iX .i64 (((f.cs.map cfT).length : Nat) : Int)), (13, iX .i64 (((i + 1) : Nat) : Int))] [(1, .box [.t (.v (.int .i64 f.c)), .t (.sl .un 2 (f.cs.map cfT))])] ((_)) rfl ⟨rfl, rfl, rfl, rfl, rfl, rfl, rfl, trivial⟩ ⟨rfl, trivial⟩ (fun _ _ h => h) rfl, by omega, _, ⟨hi, B35.cast (by rw [fK_next hi, elK0 (Classical.not_not.1 h24)])⟩, rfl⟩
  ·
    refine AW.exit ?_
    refine eth_e ?_
    refine eth_e ?_
    refine exit_here ?_
    refine AW.seq ?_
    refine AW.seq ?_
    obtain rfl : i = f.cs.length := by rw [List.length_map] at h14; omega
    have hfull := fK_all f.cs (Nat.le_refl _)
    have hf := (fK_size hn _ (Nat.le_refl _)).1
    have hl := hn.l
    have hsc := decB_size hn.c.1
    have hc1 : f.c.natAbs < 9223372036854775808 := hn.c.1
    have hc2 := hn.c.2.1
    have hc3 := hn.c.2.2
    rw [hfull] at B hf
    refine AW.reg ?_
    refine SeqK.q (q_fieldL _ rfl Fx.fl61_0 rfl rfl) rfl rfl rfl ?_
    refine SeqK.r (b_load (r := .a _) rfl Fx.ty2 rfl rfl rfl rfl rfl rfl) rfl ?_
    refine SeqK.q (q_neq rfl rfl rfl) rfl rfl rfl ?_
    refine SeqK.qD (q_mvC rfl rfl) rfl rfl rfl (fun g40 => ?_) (fun g40 => ?_)
    ·
      refine SeqK.off rfl rfl rfl rfl rfl rfl ?_
      refine SeqK.off rfl rfl rfl rfl rfl rfl ?_
      refine SeqK.off rfl rfl rfl rfl rfl rfl ?_
      refine SeqK.off rfl rfl rfl rfl rfl rfl ?_
      refine SeqK.q (q_pkT rfl rfl rfl) rfl rfl rfl ?_
      refine SeqK.nil ?_
      refine AW.condT rfl ?_
      have hcond : f.c ≠ 0 ∨ f.cs.length = 0 := by simp only [List.length_map] at *; omega
      refine AW.drawO [0, 1, 2, 3, 4, 5, 6, 7, 8] Fx.mo (by kernel_rfl) ?_
      refine LexO.q rfl (by kernel_rfl) (q_mvC rfl rfl) rfl rfl rfl ?_
      refine LexO.q rfl (by kernel_rfl) (q_fieldL _ rfl Fx.fl61_0 rfl rfl) rfl rfl rfl ?_
      refine LexO.r rfl (by kernel_rfl) (b_load (r := .a _) rfl Fx.ty2 rfl rfl rfl rfl rfl rfl) rfl ?_
      refine LexO.q rfl (by kernel_rfl) (q_lss rfl rfl rfl) rfl rfl rfl ?_
      refine LexO.q rfl (by kernel_rfl) (q_fieldL _ rfl Fx.fl61_0 rfl rfl) rfl rfl rfl ?_
      refine LexO.r rfl (by kernel_rfl) (b_load (r := .a _) rfl Fx.ty2 rfl rfl rfl rfl rfl rfl) rfl ?_
      refine LexO.q rfl (by kernel_rfl) (q_call _ rfl Fx.fn40 rfl (abs_any _ (by first | exact hc.2 | exact hn.c.2)) rfl) rfl rfl rfl ?_
      refine LexO.q rfl (by kernel_rfl) (q_call _ rfl Fx.fn41 rfl (fuint_b _ (by first | exact hc.1 | exact hn.c.1)) rfl) rfl rfl rfl ?_
      refine LexO.callV rfl (by kernel_rfl) (by kernel_rfl) (by kernel_rfl) rfl rfl rfl rfl rfl Fx.fn39 rfl (write_any H Hx k3 _ _ _ B (by omega)) (fun _ _ h => by rw [h.1]; rfl) (fun x54 H54 q54 => ?_)
      obtain ⟨rfl, B54⟩ := q54
      replace B := B54
      refine LexO.nil (by kernel_rfl) ?_
      refine AW.seq ?_
      refine AW.reg ?_
      refine SeqK.r (g_load (r := .a _) rfl Fx.ty9 rfl (B.st) rfl rfl rfl rfl) rfl ?_
      refine SeqK.q (q_asC rfl rfl) rfl rfl rfl ?_
      refine SeqK.nil ?_
      refine AW.ret ?_
      exact fin_x (x := .c _) (H) (.tmp rfl .nil) rfl ((fun j o h => B.sub j o h)) (⟨sCe (by first | rw [fmtL_of hcond] | rw [fmtL_no hcond]), rfl⟩)
    ·
      refine SeqK.on (q_fieldL _ rfl Fx.fl61_1 rfl rfl) rfl rfl rfl rfl rfl ?_
      refine SeqK.rOn (b_load (r := .a _) rfl Fx.ty59 rfl rfl rfl rfl rfl rfl) rfl rfl rfl ?_
      refine SeqK.on (q_len rfl Fx.un59 rfl) rfl rfl rfl rfl rfl ?_
      refine SeqK.on (q_eql rfl rfl rfl) rfl rfl rfl rfl rfl ?_
      refine SeqK.q (q_pkF rfl rfl rfl) rfl rfl rfl ?_
      refine SeqK.nil ?_
      refine AW.condD rfl (fun h45 => ?_) (fun h45 => ?_)
      ·
        have hcond : f.c ≠ 0 ∨ f.cs.length = 0 := by simp only [List.length_map] at *; omega
        refine AW.drawO [0, 1, 2, 3, 4, 5, 6, 7, 8] Fx.mo (by kernel_rfl) ?_
        refine LexO.q rfl (by kernel_rfl) (q_mvC rfl rfl) rfl rfl rfl ?_
        refine LexO.q rfl (by kernel_rfl) (q_fieldL _ rfl Fx.fl61_0 rfl rfl) rfl rfl rfl ?_
        refine LexO.r rfl (by kernel_rfl) (b_load (r := .a _) rfl Fx.ty2 rfl rfl rfl rfl rfl rfl) rfl ?_
        refine LexO.q rfl (by kernel_rfl) (q_lss rfl rfl rfl) rfl rfl rfl ?_
        refine LexO.q rfl (by kernel_rfl) (q_fieldL _ rfl Fx.fl61_0 rfl rfl) rfl rfl rfl ?_
        refine LexO.r rfl (by kernel_rfl) (b_load (r := .a _) rfl Fx.ty2 rfl rfl rfl rfl rfl rfl) rfl ?_
        refine LexO.q rfl (by kernel_rfl) (q_call _ rfl Fx.fn40 rfl (abs_any _ (by first | exact hc.2 | exact hn.c.2)) rfl) rfl rfl rfl ?_
        refine LexO.q rfl (by kernel_rfl) (q_call _ rfl Fx.fn41 rfl (fuint_b _ (by first | exact hc.1 | exact hn.c.1)) rfl) rfl rfl rfl ?_
        refine LexO.callV rfl (by kernel_rfl) (by kernel_rfl) (by kernel_rfl) rfl rfl rfl rfl rfl Fx.fn39 rfl (write_any H Hx k3 _ _ _ B (by omega)) (fun _ _ h => by rw [h.1]; rfl) (fun x54 H54 q54 => ?_)
        obtain ⟨rfl, B54⟩ := q54
        replace B := B54
        refine LexO.nil (by kernel_rfl) ?_
        refine AW.seq ?_
        refine AW.reg ?_
        refine SeqK.r (g_load (r := .a _) rfl Fx.ty9 rfl (B.st) rfl rfl rfl rfl) rfl ?_
        refine SeqK.q (q_asC rfl rfl) rfl rfl rfl ?_
        refine SeqK.nil ?_
        refine AW.ret ?_
        exact fin_x (x := .c _) (H) (.tmp rfl .nil) rfl ((fun j o h => B.sub j o h)) (⟨sCe (by first | rw [fmtL_of hcond] | rw [fmtL_no hcond]), rfl⟩)
      ·
        have hcond : ¬ (f.c ≠ 0 ∨ f.cs.length = 0) := by simp only [List.length_map] at *; omega
        refine AW.skip ?_
        refine AW.seq ?_
        refine AW.reg ?_
        refine SeqK.r (g_load (r := .a _) rfl Fx.ty9 rfl (B.st) rfl rfl rfl rfl) rfl ?_
        refine SeqK.q (q_asC rfl rfl) rfl rfl rfl ?_
        refine SeqK.nil ?_
        refine AW.ret ?_
        exact fin_x (x := .c _) (H) (.tmp rfl .nil) rfl ((fun j o h => B.sub j o h)) (⟨sCe (by first | rw [fmtL_of hcond] | rw [fmtL_no hcond]), rfl⟩)

set_option maxRecDepth 20000 in
theorem rabs13 (n : Int) (hn : -9223372036854775808 < n ∧ n ≤ 9223372036854775807) : Pure Tryz.prog 65 [iC n] (.c (iC (n.natAbs : Int))) := by
  intro H
  refine Spec.enter Tryz.func65 rfl ?_
  refine AW.wk (Wk.keep 8 [(0, .c (iC n))] [] (H) rfl ⟨rfl, trivial⟩ trivial (fun _ _ h => h) rfl) ?_
  refine AW.seq ?_
  refine AW.reg ?_
  refine SeqK.q (q_asC rfl rfl) rfl rfl rfl ?_
  refine SeqK.nil ?_
  refine AW.seq ?_
  refine AW.seq ?_
  refine AW.reg ?_
  refine SeqK.q (q_mvC rfl rfl) rfl rfl rfl ?_
  refine SeqK.q (q_lss rfl rfl rfl) rfl rfl rfl ?_
  refine SeqK.nil ?_
  refine AW.condD rfl (fun h4 => ?_) (fun h4 => ?_)
  ·
    refine AW.seq ?_
    refine AW.reg ?_
    refine SeqK.q (q_mvC rfl rfl) rfl rfl rfl ?_
    refine SeqK.q (q_neg _ rfl rfl ((by rw [w64 (by omega) (by omega)]; omega : IntKind.i64.wrap _ = ((n.natAbs : Nat) : Int)))) rfl rfl rfl ?_
    refine SeqK.q (q_asC rfl rfl) rfl rfl rfl ?_
    refine SeqK.nil ?_
    refine AW.ret ?_
    exact fin_x (x := .c _) (H) (.tmp rfl .nil) rfl (fun _ _ h => h) (⟨rfl, rfl⟩)
  ·
    refine AW.skip ?_
    refine AW.seq ?_
    refine AW.reg ?_
    refine SeqK.q (q_mvC rfl rfl) rfl rfl rfl ?_
    refine SeqK.q (q_asC rfl rfl) rfl rfl rfl ?_
    refine SeqK.nil ?_
    refine AW.ret ?_
    exact fin_x (x := .c _) (H) (.tmp rfl .nil) rfl (fun _ _ h => h) (⟨iCe (by omega), rfl⟩)

set_option maxRecDepth 20000 in
theorem element_any (f n : Bool) (s : ByteArray) (hs : s.size ≤ 1000000) : Pure Tryz.prog 66 [bC f, bC n, sC s] (.c (sC (sep f n ++ s))) := by
  have c1 : (⟨#[42]⟩ : ByteArray).size = 1 := rfl
  have c2 : (⟨#[45]⟩ : ByteArray).size = 1 := rfl
  have c3 : (⟨#[32, 45, 32]⟩ : ByteArray).size = 3 := rfl
  have c4 : (⟨#[32, 43, 32]⟩ : ByteArray).size = 3 := rfl
  have c5 : (⟨#[120]⟩ : ByteArray).size = 1 := rfl
  intro H
  refine Spec.enter Tryz.func66 rfl ?_
  refine AW.wk (Wk.keep 20 [(0, .c (bC f)), (1, .c (bC n)), (2, .c (sC s))] [] (H) rfl ⟨rfl, rfl, rfl, trivial⟩ trivial (fun _ _ h => h) rfl) ?_
  refine AW.seq ?_
  refine AW.reg ?_
  refine SeqK.q (q_asC rfl rfl) rfl rfl rfl ?_
  refine SeqK.nil ?_
  refine AW.seq ?_
  refine AW.seq ?_
  refine AW.reg ?_
  refine SeqK.q (q_mvC rfl rfl) rfl rfl rfl ?_
  refine SeqK.qB (q_mvC rfl rfl) rfl rfl rfl (fun g8 => ?_) (fun g8 => ?_)
  ·
    refine SeqK.on (q_mvC rfl rfl) rfl rfl rfl rfl rfl ?_
    refine SeqK.q (q_pkT rfl rfl rfl) rfl rfl rfl ?_
    refine SeqK.nil ?_
    refine AW.cond _ rfl (fun h10 => ?_) (fun h10 => ?_)
    ·
      refine AW.seq ?_
      refine AW.reg ?_
      refine SeqK.q (q_mvC rfl rfl) rfl rfl rfl ?_
      refine SeqK.q (q_addS rfl rfl rfl (by omega)) rfl rfl rfl ?_
      refine SeqK.q (q_asC rfl rfl) rfl rfl rfl ?_
      refine SeqK.nil ?_
      refine AW.ret ?_
      exact fin_x (x := .c _) (H) (.tmp rfl .nil) rfl (fun _ _ h => h) (⟨sCe (by cases f <;> cases n <;> first | rfl | contradiction | simp_all), rfl⟩)
    ·
      refine AW.skip ?_
      refine AW.seq ?_
      refine AW.seq ?_
      refine AW.reg ?_
      refine SeqK.q (q_mvC rfl rfl) rfl rfl rfl ?_
      refine SeqK.nil ?_
      refine AW.cond _ rfl (fun h13 => ?_) (fun h13 => ?_)
      ·
        refine AW.seq ?_
        refine AW.reg ?_
        refine SeqK.q (q_mvC rfl rfl) rfl rfl rfl ?_
        refine SeqK.q (q_asC rfl rfl) rfl rfl rfl ?_
        refine SeqK.nil ?_
        refine AW.ret ?_
        exact fin_x (x := .c _) (H) (.tmp rfl .nil) rfl (fun _ _ h => h) (⟨sCe (by cases f <;> cases n <;> first | rfl | contradiction | simp_all), rfl⟩)
      ·
        refine AW.skip ?_
        refine AW.seq ?_
        refine AW.seq ?_
        refine AW.reg ?_
        refine SeqK.q (q_mvC rfl rfl) rfl rfl rfl ?_
        refine SeqK.nil ?_
        refine AW.cond _ rfl (fun h15 => ?_) (fun h15 => ?_)
        ·
          refine AW.seq ?_
          refine AW.reg ?_
          refine SeqK.q (q_mvC rfl rfl) rfl rfl rfl ?_
          refine SeqK.q (q_addS rfl rfl rfl (by omega)) rfl rfl rfl ?_
          refine SeqK.q (q_asC rfl rfl) rfl rfl rfl ?_
          refine SeqK.nil ?_
          refine AW.ret ?_
          exact fin_x (x := .c _) (H) (.tmp rfl .nil) rfl (fun _ _ h => h) (⟨sCe (by cases f <;> cases n <;> first | rfl | contradiction | simp_all), rfl⟩)
        ·
          refine AW.skip ?_
          refine AW.seq ?_
          refine AW.reg ?_
          refine SeqK.q (q_mvC rfl rfl) rfl rfl rfl ?_
          refine SeqK.q (q_addS rfl rfl rfl (by omega)) rfl rfl rfl ?_
          refine SeqK.q (q_asC rfl rfl) rfl rfl rfl ?_
          refine SeqK.nil ?_
          refine AW.ret ?_
          exact fin_x (x := .c _) (H) (.tmp rfl .nil) rfl (fun _ _ h => h) (⟨sCe (by cases f <;> cases n <;> first | rfl | contradiction | simp_all), rfl⟩)
  ·
    refine SeqK.off rfl rfl rfl rfl rfl rfl ?_
    refine SeqK.q (q_pkF rfl rfl rfl) rfl rfl rfl ?_
    refine SeqK.nil ?_
    refine AW.condF rfl ?_
    refine AW.skip ?_
    refine AW.seq ?_
    refine AW.seq ?_
    refine AW.reg ?_
    refine SeqK.q (q_mvC rfl rfl) rfl rfl rfl ?_
    refine SeqK.nil ?_
    refine AW.cond _ rfl (fun h13 => ?_) (fun h13 => ?_)
    ·
      refine AW.seq ?_
      refine AW.reg ?_
      refine SeqK.q (q_mvC rfl rfl) rfl rfl rfl ?_
      refine SeqK.q (q_asC rfl rfl) rfl rfl rfl ?_
      refine SeqK.nil ?_
      refine AW.ret ?_
      exact fin_x (x := .c _) (H) (.tmp rfl .nil) rfl (fun _ _ h => h) (⟨sCe (by cases f <;> cases n <;> first | rfl | contradiction | simp_all), rfl⟩)
    ·
      refine AW.skip ?_
      refine AW.seq ?_
      refine AW.seq ?_
      refine AW.reg ?_
      refine SeqK.q (q_mvC rfl rfl) rfl rfl rfl ?_
      refine SeqK.nil ?_
      refine AW.cond _ rfl (fun h15 => ?_) (fun h15 => ?_)
      ·
        refine AW.seq ?_
        refine AW.reg ?_
        refine SeqK.q (q_mvC rfl rfl) rfl rfl rfl ?_
        refine SeqK.q (q_addS rfl rfl rfl (by omega)) rfl rfl rfl ?_
        refine SeqK.q (q_asC rfl rfl) rfl rfl rfl ?_
        refine SeqK.nil ?_
        refine AW.ret ?_
        exact fin_x (x := .c _) (H) (.tmp rfl .nil) rfl (fun _ _ h => h) (⟨sCe (by cases f <;> cases n <;> first | rfl | contradiction | simp_all), rfl⟩)
      ·
        refine AW.skip ?_
        refine AW.seq ?_
        refine AW.reg ?_
        refine SeqK.q (q_mvC rfl rfl) rfl rfl rfl ?_
        refine SeqK.q (q_addS rfl rfl rfl (by omega)) rfl rfl rfl ?_
        refine SeqK.q (q_asC rfl rfl) rfl rfl rfl ?_
        refine SeqK.nil ?_
        refine AW.ret ?_
        exact fin_x (x := .c _) (H) (.tmp rfl .nil) rfl (fun _ _ h => h) (⟨sCe (by cases f <;> cases n <;> first | rfl | contradiction | simp_all), rfl⟩)

theorem bas (a b c : ByteArray) : a ++ (b ++ c) = a ++ b ++ c := (ByteArray.append_assoc).symm
set_option maxHeartbeats 8000000 in
set_option maxRecDepth 20000 in
theorem format13_any (f : Lf) (hn : NumL f) : Pure Tryz.prog 48 [tmC f] (.c (sC (fmtL f))) := by
  have c1 : (⟨#[42]⟩ : ByteArray).size = 1 := rfl
  have c2 : (⟨#[45]⟩ : ByteArray).size = 1 := rfl
  have c3 : (⟨#[32, 45, 32]⟩ : ByteArray).size = 3 := rfl
  have c4 : (⟨#[32, 43, 32]⟩ : ByteArray).size = 3 := rfl
  have c5 : (⟨#[120]⟩ : ByteArray).size = 1 := rfl
  intro H
  refine Spec.enter Tryz.func48 rfl ?_
  refine AW.wk (Wk.keep 88 [(0, .c (tmC f))] [] (H) rfl ⟨rfl, trivial⟩ trivial (fun _ _ h => h) rfl) ?_
  refine AW.seq ?_
  refine AW.reg ?_
  refine SeqK.r (b_box (r := [_, _]) rfl rfl rfl rfl rfl rfl) rfl ?_
  refine SeqK.q (q_asC rfl rfl) rfl rfl rfl ?_
  refine SeqK.nil ?_
  refine AW.seq ?_
  refine AW.reg ?_
  refine SeqK.q (q_asC rfl rfl) rfl rfl rfl ?_
  refine SeqK.nil ?_
  refine AW.seq ?_
  refine AW.seq ?_
  refine AW.reg ?_
  refine SeqK.q (q_asC rfl rfl) rfl rfl rfl ?_
  refine SeqK.nil ?_
  refine AW.block ?_
  refine AW.loop (fun (i : Nat) s => (i ≤ f.cs.length) ∧ s = ⟨88, sp [(1, .lp 1 0), (2, .c (sC ⟨#[]⟩)), (3, .c (sC (fK f.cs i))), (4, iX .i64 ((i : Nat) : Int))], lv [(1, .box [.t (.v (.int .i64 f.c)), .t (.sl .un 5 (f.cs.map ptT))])], H⟩) (fun i => f.cs.length - i) 0 ⟨_, Wk.keep 88 [(1, .lp 1 0), (2, .c (sC ⟨#[]⟩)), (3, .c (sC (fK f.cs ((0 : Nat))))), (4, iX .i64 ((((0 : Nat)) : Nat) : Int))] [(1, .box [.t (.v (.int .i64 f.c)), .t (.sl .un 5 (f.cs.map ptT))])] (H) rfl ⟨rfl, rfl, rfl, rfl, trivial⟩ ⟨rfl, trivial⟩ (fun _ _ h => h) rfl, Nat.zero_le _, rfl⟩ (fun i s hs => ?_)
  obtain ⟨hi0, rfl⟩ := hs
  refine AW.seq ?_
  refine AW.seq ?_
  refine AW.reg ?_
  refine SeqK.q (q_mvC rfl rfl) rfl rfl rfl ?_
  refine SeqK.q (q_fieldL _ rfl Fx.fl42_1 rfl rfl) rfl rfl rfl ?_
  refine SeqK.r (b_load (r := .a _) rfl Fx.ty40 rfl rfl rfl rfl rfl rfl) rfl ?_
  refine SeqK.q (q_len rfl Fx.un40 rfl) rfl rfl rfl ?_
  refine SeqK.q (q_lss rfl rfl rfl) rfl rfl rfl ?_
  refine SeqK.nil ?_
  refine AW.condD rfl (fun h11 => ?_) (fun h11 => ?_)
  ·
    have hi : i < f.cs.length := by rw [List.length_map] at h11; omega
    have hm := List.getElem_mem hi
    have hv := hn.v _ hm
    have hc := hn.n _ hm
    have hf := (fK_size hn i (by omega)).1
    have hl := hn.l
    have hsv := nmB_size hv.2
    have hsn := decB_size hc.1
    have hse := elK_size hv.2 hc.1
    have hsd := decB_size hv.2
    have hc1 : f.cs[i].n.natAbs < 9223372036854775808 := hc.1
    have hc2 := hc.2.1
    have hc3 := hc.2.2
    have hfz := fK_zero hn (i := i) (by omega)
    refine AW.skip ?_
    refine AW.seq ?_
    refine AW.block ?_
    refine AW.seq ?_
    refine AW.reg ?_
    refine SeqK.q (q_fieldL _ rfl Fx.fl42_1 rfl rfl) rfl rfl rfl ?_
    refine SeqK.r (b_load (r := .a _) rfl Fx.ty40 rfl rfl rfl rfl rfl rfl) rfl ?_
    refine SeqK.q (q_mvC rfl rfl) rfl rfl rfl ?_
    refine SeqK.q (q_index _ rfl Fx.sl40 rfl rfl (by omega) (idx_map (f := ptT) hi)) rfl rfl rfl ?_
    refine SeqK.q (q_load (.g [_, _, _, _, _]) rfl Fx.ty39 rfl rfl rfl) rfl rfl rfl ?_
    refine SeqK.r (b_alloc (r := [_, _, _, _, _]) rfl rfl Fx.ze39 rfl rfl rfl rfl) rfl ?_
    refine SeqK.r (b_store (r := [_, _, _, _, _]) rfl rfl Fx.ty39 rfl rfl rfl rfl rfl rfl) rfl ?_
    refine SeqK.nil ?_
    refine AW.seq ?_
    refine AW.reg ?_
    refine SeqK.q (q_fieldL _ rfl Fx.fl39_2 rfl rfl) rfl rfl rfl ?_
    refine SeqK.r (b_load (r := .a _) rfl Fx.ty3 rfl rfl rfl rfl rfl rfl) rfl ?_
    refine SeqK.q (q_call _ rfl Fx.fn27 rfl (digitsI hv.1 hv.2) rfl) rfl rfl rfl ?_
    refine SeqK.q (q_addS rfl rfl rfl (by omega)) rfl rfl rfl ?_
    refine SeqK.q (q_asC rfl rfl) rfl rfl rfl ?_
    refine SeqK.nil ?_
    refine AW.seq ?_
    refine AW.seq ?_
    refine AW.reg ?_
    refine SeqK.q (q_fieldL _ rfl Fx.fl39_1 rfl rfl) rfl rfl rfl ?_
    refine SeqK.r (b_load (r := .a _) rfl Fx.ty3 rfl rfl rfl rfl rfl rfl) rfl ?_
    refine SeqK.q (q_eql rfl rfl rfl) rfl rfl rfl ?_
    refine SeqK.nil ?_
    refine AW.condF rfl ?_
    refine AW.skip ?_
    refine AW.seq ?_
    refine AW.seq ?_
    refine AW.reg ?_
    refine SeqK.q (q_fieldL _ rfl Fx.fl39_1 rfl rfl) rfl rfl rfl ?_
    refine SeqK.r (b_load (r := .a _) rfl Fx.ty3 rfl rfl rfl rfl rfl rfl) rfl ?_
    refine SeqK.q (q_eql rfl rfl rfl) rfl rfl rfl ?_
    refine SeqK.nil ?_
    refine AW.condF rfl ?_
    refine AW.skip ?_
    refine AW.seq ?_
    refine AW.seq ?_
    refine AW.reg ?_
    refine SeqK.q (q_fieldL _ rfl Fx.fl39_0 rfl rfl) rfl rfl rfl ?_
    refine SeqK.r (b_load (r := .a _) rfl Fx.ty2 rfl rfl rfl rfl rfl rfl) rfl ?_
    refine SeqK.q (q_call _ rfl Fx.fn65 rfl (rabs13 _ (by omega)) rfl) rfl rfl rfl ?_
    refine SeqK.q (q_neq rfl rfl rfl) rfl rfl rfl ?_
    refine SeqK.nil ?_
    refine AW.condD rfl (fun h47 => ?_) (fun h47 => ?_)
    ·
      refine AW.reg ?_
      refine SeqK.q (q_fieldL _ rfl Fx.fl39_0 rfl rfl) rfl rfl rfl ?_
      refine SeqK.r (b_load (r := .a _) rfl Fx.ty2 rfl rfl rfl rfl rfl rfl) rfl ?_
      refine SeqK.q (q_call _ rfl Fx.fn65 rfl (rabs13 _ (by omega)) rfl) rfl rfl rfl ?_
      refine SeqK.q (q_call _ rfl Fx.fn27 rfl (digits_any _ hc.1) rfl) rfl rfl rfl ?_
      refine SeqK.q (q_addS rfl rfl rfl (by first | omega | (simp only [ByteArray.size_append]; omega))) rfl rfl rfl ?_
      refine SeqK.q (q_mvC rfl rfl) rfl rfl rfl ?_
      refine SeqK.q (q_addS rfl rfl rfl (by first | omega | (simp only [ByteArray.size_append]; omega))) rfl rfl rfl ?_
      refine SeqK.q (q_asC rfl rfl) rfl rfl rfl ?_
      refine SeqK.nil ?_
      refine AW.reg ?_
      refine SeqK.q (q_mvC rfl rfl) rfl rfl rfl ?_
      refine SeqK.q (q_mvC rfl rfl) rfl rfl rfl ?_
      refine SeqK.q (q_eql rfl rfl rfl) rfl rfl rfl ?_
      refine SeqK.q (q_fieldL _ rfl Fx.fl39_0 rfl rfl) rfl rfl rfl ?_
      refine SeqK.r (b_load (r := .a _) rfl Fx.ty2 rfl rfl rfl rfl rfl rfl) rfl ?_
      refine SeqK.q (q_lss rfl rfl rfl) rfl rfl rfl ?_
      refine SeqK.q (q_mvC rfl rfl) rfl rfl rfl ?_
      refine SeqK.q (q_call _ rfl Fx.fn66 rfl (element_any _ _ _ (by first | omega | (simp only [ByteArray.size_append]; omega))) rfl) rfl rfl rfl ?_
      refine SeqK.q (q_addS rfl rfl rfl (by have := sep_size (decide ((i : Int) = 0)) (decide (f.cs[i].n < 0)); simp only [ByteArray.size_append]; omega)) rfl rfl rfl ?_
      refine SeqK.q (q_asC rfl rfl) rfl rfl rfl ?_
      refine SeqK.nil ?_
      refine AW.reg ?_
      refine SeqK.q (q_mvC rfl rfl) rfl rfl rfl ?_
      refine SeqK.q (q_add _ rfl rfl rfl (w64 (by omega) (by omega))) rfl rfl rfl ?_
      refine SeqK.q (q_asC rfl rfl) rfl rfl rfl ?_
      refine SeqK.nil ?_
      exact ⟨i + 1, _, Wk.keep 88 [(1, .lp 1 0), (2, .c (sC ⟨#[]⟩)), (3, .c (sC (fK f.cs (i + 1)))), (4, iX .i64 ((i + 1 : Nat) : Int))] [(1, .box [.t (.v (.int .i64 f.c)), .t (.sl .un 5 (f.cs.map ptT))])] (H) rfl ⟨rfl, rfl, sCe (by rw [fK_next hi, elK1 h47, hfz, bas]; first | done | rfl), rfl, trivial⟩ ⟨rfl, trivial⟩ (fun _ _ h => h) rfl, by omega, hi, rfl⟩
    ·
      refine AW.skip ?_
      refine AW.reg ?_
      refine SeqK.q (q_mvC rfl rfl) rfl rfl rfl ?_
      refine SeqK.q (q_mvC rfl rfl) rfl rfl rfl ?_
      refine SeqK.q (q_eql rfl rfl rfl) rfl rfl rfl ?_
      refine SeqK.q (q_fieldL _ rfl Fx.fl39_0 rfl rfl) rfl rfl rfl ?_
      refine SeqK.r (b_load (r := .a _) rfl Fx.ty2 rfl rfl rfl rfl rfl rfl) rfl ?_
      refine SeqK.q (q_lss rfl rfl rfl) rfl rfl rfl ?_
      refine SeqK.q (q_mvC rfl rfl) rfl rfl rfl ?_
      refine SeqK.q (q_call _ rfl Fx.fn66 rfl (element_any _ _ _ (by first | omega | (simp only [ByteArray.size_append]; omega))) rfl) rfl rfl rfl ?_
      refine SeqK.q (q_addS rfl rfl rfl (by have := sep_size (decide ((i : Int) = 0)) (decide (f.cs[i].n < 0)); simp only [ByteArray.size_append]; omega)) rfl rfl rfl ?_
      refine SeqK.q (q_asC rfl rfl) rfl rfl rfl ?_
      refine SeqK.nil ?_
      refine AW.reg ?_
      refine SeqK.q (q_mvC rfl rfl) rfl rfl rfl ?_
      refine SeqK.q (q_add _ rfl rfl rfl (w64 (by omega) (by omega))) rfl rfl rfl ?_
      refine SeqK.q (q_asC rfl rfl) rfl rfl rfl ?_
      refine SeqK.nil ?_
      exact ⟨i + 1, _, Wk.keep 88 [(1, .lp 1 0), (2, .c (sC ⟨#[]⟩)), (3, .c (sC (fK f.cs (i + 1)))), (4, iX .i64 ((i + 1 : Nat) : Int))] [(1, .box [.t (.v (.int .i64 f.c)), .t (.sl .un 5 (f.cs.map ptT))])] (H) rfl ⟨rfl, rfl, sCe (by rw [fK_next hi, elK0 (Classical.not_not.1 h47), hfz, bas]; first | done | rfl), rfl, trivial⟩ ⟨rfl, trivial⟩ (fun _ _ h => h) rfl, by omega, hi, rfl⟩
  ·
    refine AW.exit ?_
    refine eth_e ?_
    refine eth_e ?_
    refine exit_here ?_
    refine AW.seq ?_
    refine AW.seq ?_
    obtain rfl : i = f.cs.length := by rw [List.length_map] at h11; omega
    have hfull := fK_all f.cs (Nat.le_refl _)
    have hf := (fK_size hn _ (Nat.le_refl _)).1
    have hl := hn.l
    have hsc := decB_size hn.c.1
    have hc1 : f.c.natAbs < 9223372036854775808 := hn.c.1
    have hc2 := hn.c.2.1
    have hc3 := hn.c.2.2
    have hfz := fK_zero hn (Nat.le_refl f.cs.length)
    rw [hfull] at hfz
    refine AW.reg ?_
    refine SeqK.q (q_fieldL _ rfl Fx.fl42_0 rfl rfl) rfl rfl rfl ?_
    refine SeqK.r (b_load (r := .a _) rfl Fx.ty2 rfl rfl rfl rfl rfl rfl) rfl ?_
    refine SeqK.q (q_neq rfl rfl rfl) rfl rfl rfl ?_
    refine SeqK.qD (q_mvC rfl rfl) rfl rfl rfl (fun g67 => ?_) (fun g67 => ?_)
    ·
      refine SeqK.off rfl rfl rfl rfl rfl rfl ?_
      refine SeqK.off rfl rfl rfl rfl rfl rfl ?_
      refine SeqK.off rfl rfl rfl rfl rfl rfl ?_
      refine SeqK.off rfl rfl rfl rfl rfl rfl ?_
      refine SeqK.q (q_pkT rfl rfl rfl) rfl rfl rfl ?_
      refine SeqK.nil ?_
      refine AW.condT rfl ?_
      have hcond : f.c ≠ 0 ∨ f.cs.length = 0 := by simp only [List.length_map] at *; omega
      refine AW.draw Fx.mo ?_
      refine LexK.q (q_mvC rfl rfl) rfl rfl rfl ?_
      refine LexK.q (q_fieldL _ rfl Fx.fl42_1 rfl rfl) rfl rfl rfl ?_
      refine LexK.r (b_load (r := .a _) rfl Fx.ty40 rfl rfl rfl rfl rfl rfl) rfl ?_
      refine LexK.q (q_len rfl Fx.un40 rfl) rfl rfl rfl ?_
      refine LexK.q (q_eql rfl rfl rfl) rfl rfl rfl ?_
      refine LexK.q (q_fieldL _ rfl Fx.fl42_0 rfl rfl) rfl rfl rfl ?_
      refine LexK.r (b_load (r := .a _) rfl Fx.ty2 rfl rfl rfl rfl rfl rfl) rfl ?_
      refine LexK.q (q_lss rfl rfl rfl) rfl rfl rfl ?_
      refine LexK.q (q_fieldL _ rfl Fx.fl42_0 rfl rfl) rfl rfl rfl ?_
      refine LexK.r (b_load (r := .a _) rfl Fx.ty2 rfl rfl rfl rfl rfl rfl) rfl ?_
      refine LexK.q (q_call _ rfl Fx.fn65 rfl (rabs13 _ (by omega)) rfl) rfl rfl rfl ?_
      refine LexK.q (q_call _ rfl Fx.fn27 rfl (digits_any _ hn.c.1) rfl) rfl rfl rfl ?_
      refine LexK.q (q_call _ rfl Fx.fn66 rfl (element_any _ _ _ (by omega)) rfl) rfl rfl rfl ?_
      refine LexK.q (q_addS rfl rfl rfl (by have := sep_size (decide ((((f.cs.map ptT).length : Nat) : Int) = 0)) (decide (f.c < 0)); simp only [ByteArray.size_append] at *; first | omega | (rw [hfull]; omega))) rfl rfl rfl ?_
      refine LexK.q (q_asC rfl rfl) rfl rfl rfl ?_
      refine LexK.nil (by kernel_rfl) ?_
      refine AW.seq ?_
      refine AW.reg ?_
      refine SeqK.q (q_mvC rfl rfl) rfl rfl rfl ?_
      refine SeqK.q (q_asC rfl rfl) rfl rfl rfl ?_
      refine SeqK.nil ?_
      refine AW.ret ?_
      exact fin_x (x := .c _) (H) (.tmp rfl .nil) rfl (fun _ _ h => h) (⟨sCe (by first | (rw [fmtL_of hcond, hfull, bas, List.length_map, hfz]; done) | (rw [fmtL_no hcond, hfull])), rfl⟩)
    ·
      refine SeqK.on (q_fieldL _ rfl Fx.fl42_1 rfl rfl) rfl rfl rfl rfl rfl ?_
      refine SeqK.rOn (b_load (r := .a _) rfl Fx.ty40 rfl rfl rfl rfl rfl rfl) rfl rfl rfl ?_
      refine SeqK.on (q_len rfl Fx.un40 rfl) rfl rfl rfl rfl rfl ?_
      refine SeqK.on (q_eql rfl rfl rfl) rfl rfl rfl rfl rfl ?_
      refine SeqK.q (q_pkF rfl rfl rfl) rfl rfl rfl ?_
      refine SeqK.nil ?_
      refine AW.condD rfl (fun h72 => ?_) (fun h72 => ?_)
      ·
        have hcond : f.c ≠ 0 ∨ f.cs.length = 0 := by simp only [List.length_map] at *; omega
        refine AW.draw Fx.mo ?_
        refine LexK.q (q_mvC rfl rfl) rfl rfl rfl ?_
        refine LexK.q (q_fieldL _ rfl Fx.fl42_1 rfl rfl) rfl rfl rfl ?_
        refine LexK.r (b_load (r := .a _) rfl Fx.ty40 rfl rfl rfl rfl rfl rfl) rfl ?_
        refine LexK.q (q_len rfl Fx.un40 rfl) rfl rfl rfl ?_
        refine LexK.q (q_eql rfl rfl rfl) rfl rfl rfl ?_
        refine LexK.q (q_fieldL _ rfl Fx.fl42_0 rfl rfl) rfl rfl rfl ?_
        refine LexK.r (b_load (r := .a _) rfl Fx.ty2 rfl rfl rfl rfl rfl rfl) rfl ?_
        refine LexK.q (q_lss rfl rfl rfl) rfl rfl rfl ?_
        refine LexK.q (q_fieldL _ rfl Fx.fl42_0 rfl rfl) rfl rfl rfl ?_
        refine LexK.r (b_load (r := .a _) rfl Fx.ty2 rfl rfl rfl rfl rfl rfl) rfl ?_
        refine LexK.q (q_call _ rfl Fx.fn65 rfl (rabs13 _ (by omega)) rfl) rfl rfl rfl ?_
        refine LexK.q (q_call _ rfl Fx.fn27 rfl (digits_any _ hn.c.1) rfl) rfl rfl rfl ?_
        refine LexK.q (q_call _ rfl Fx.fn66 rfl (element_any _ _ _ (by omega)) rfl) rfl rfl rfl ?_
        refine LexK.q (q_addS rfl rfl rfl (by have := sep_size (decide ((((f.cs.map ptT).length : Nat) : Int) = 0)) (decide (f.c < 0)); simp only [ByteArray.size_append] at *; first | omega | (rw [hfull]; omega))) rfl rfl rfl ?_
        refine LexK.q (q_asC rfl rfl) rfl rfl rfl ?_
        refine LexK.nil (by kernel_rfl) ?_
        refine AW.seq ?_
        refine AW.reg ?_
        refine SeqK.q (q_mvC rfl rfl) rfl rfl rfl ?_
        refine SeqK.q (q_asC rfl rfl) rfl rfl rfl ?_
        refine SeqK.nil ?_
        refine AW.ret ?_
        exact fin_x (x := .c _) (H) (.tmp rfl .nil) rfl (fun _ _ h => h) (⟨sCe (by first | (rw [fmtL_of hcond, hfull, bas, List.length_map, hfz]; done) | (rw [fmtL_no hcond, hfull])), rfl⟩)
      ·
        have hcond : ¬ (f.c ≠ 0 ∨ f.cs.length = 0) := by simp only [List.length_map] at *; omega
        refine AW.skip ?_
        refine AW.seq ?_
        refine AW.reg ?_
        refine SeqK.q (q_mvC rfl rfl) rfl rfl rfl ?_
        refine SeqK.q (q_asC rfl rfl) rfl rfl rfl ?_
        refine SeqK.nil ?_
        refine AW.ret ?_
        exact fin_x (x := .c _) (H) (.tmp rfl .nil) rfl (fun _ _ h => h) (⟨sCe (by first | (rw [fmtL_of hcond, hfull, bas, List.length_map, hfz]; done) | (rw [fmtL_no hcond, hfull])), rfl⟩)

set_option maxHeartbeats 8000000 in
set_option maxRecDepth 20000 in
theorem rlinear_any (f : Lf) (hn : NumL f) : Pure Tryz.prog 26 [lfC f] (.c (sC (fmtL f))) := by
  intro H
  refine Spec.enter Tryz.func26 rfl ?_
  refine AW.wk (Wk.keep 35 [(0, .c (lfC f))] [] (H) rfl ⟨rfl, trivial⟩ trivial (fun _ _ h => h) rfl) ?_
  refine AW.seq ?_
  refine AW.reg ?_
  refine SeqK.r (b_box (r := [_, _]) rfl rfl rfl rfl rfl rfl) rfl ?_
  refine SeqK.q (q_asC rfl rfl) rfl rfl rfl ?_
  refine SeqK.nil ?_
  refine AW.seq ?_
  refine AW.reg ?_
  refine SeqK.q (q_fieldL _ rfl Fx.fl61_0 rfl rfl) rfl rfl rfl ?_
  refine SeqK.r (b_load (r := .a _) rfl Fx.ty2 rfl rfl rfl rfl rfl rfl) rfl ?_
  refine SeqK.q (q_build2 (zs := [_, _]) (r := [_, _]) [(0, 1), (1, 1)] _ rfl Fx.ze42 rfl Fx.bp42 rfl rfl rfl rfl) rfl rfl rfl ?_
  refine SeqK.r (b_alloc (r := [_, _]) rfl rfl Fx.ze42 rfl rfl rfl rfl) rfl ?_
  refine SeqK.r (b_store (r := [_, _]) rfl rfl Fx.ty42 rfl rfl rfl rfl rfl rfl) rfl ?_
  refine SeqK.nil ?_
  refine AW.seq ?_
  refine AW.seq ?_
  refine AW.reg ?_
  refine SeqK.q (q_asC rfl rfl) rfl rfl rfl ?_
  refine SeqK.nil ?_
  refine AW.block ?_
  refine AW.tipL 3 1 39 5 rfl rfl (fun k0 hk0 => ?_)
  refine AW.loop (fun (i : Nat) s => ∃ (kt : Nat) (zs : List (List E.T)), (i ≤ f.cs.length ∧ H kt = none ∧ zs = (f.cs.take i).map ptT) ∧ s = ⟨35, sp [(1, .lp 1 0), (2, .c (sC ⟨#[]⟩)), (3, .lp 3 0), (4, iX .i64 ((i : Nat) : Int))], lv [(1, .box [.t (.v (.int .i64 f.c)), .t (.sl .un 2 (f.cs.map cfT))]), (3, .box [.t (.v (.int .i64 f.c)), .ts kt .ne 5 zs])], upd H kt (some (.tip 39 5 zs.length))⟩) (fun i => f.cs.length - i) 0 ⟨_, Wk.keep 35 [(1, .lp 1 0), (2, .c (sC ⟨#[]⟩)), (3, .lp 3 0), (4, iX .i64 ((((0 : Nat)) : Nat) : Int))] [(1, .box [.t (.v (.int .i64 f.c)), .t (.sl .un 2 (f.cs.map cfT))]), (3, .box [.t (.v (.int .i64 f.c)), .ts (k0) .ne 5 ([])])] (upd H (k0) (some (.tip 39 5 ([]).length))) rfl ⟨rfl, rfl, rfl, rfl, trivial⟩ ⟨rfl, rfl, trivial⟩ (fun _ _ h => h) rfl, k0, [], ⟨Nat.zero_le _, hk0, rfl⟩, rfl⟩ (fun i s hs => ?_)
  obtain ⟨kt, zs, ⟨hi0, hkt, hzs⟩, rfl⟩ := hs
  refine AW.seq ?_
  refine AW.seq ?_
  refine AW.reg ?_
  refine SeqK.q (q_mvC rfl rfl) rfl rfl rfl ?_
  refine SeqK.q (q_fieldL _ rfl Fx.fl61_1 rfl rfl) rfl rfl rfl ?_
  refine SeqK.r (b_load (r := .a _) rfl Fx.ty59 rfl rfl rfl rfl rfl rfl) rfl ?_
  refine SeqK.q (q_len rfl Fx.un59 rfl) rfl rfl rfl ?_
  refine SeqK.q (q_lss rfl rfl rfl) rfl rfl rfl ?_
  refine SeqK.nil ?_
  refine AW.condD rfl (fun h12 => ?_) (fun h12 => ?_)
  ·
    have hi : i < f.cs.length := by rw [List.length_map] at h12; omega
    have hl := hn.l
    refine AW.skip ?_
    refine AW.seq ?_
    refine AW.block ?_
    refine AW.drawO [0, 1, 2, 3, 4, 5, 6, 7, 8, 9, 10, 11, 12, 13, 14, 15, 16, 17, 18] Fx.mo (by kernel_rfl) ?_
    refine LexO.q rfl (by kernel_rfl) (q_fieldL _ rfl Fx.fl42_1 rfl rfl) rfl rfl rfl ?_
    refine LexO.r rfl (by kernel_rfl) (b_load (r := .a _) rfl Fx.ty40 rfl rfl rfl rfl rfl rfl) rfl ?_
    refine LexO.q rfl (by kernel_rfl) (q_fieldL _ rfl Fx.fl61_1 rfl rfl) rfl rfl rfl ?_
    refine LexO.r rfl (by kernel_rfl) (b_load (r := .a _) rfl Fx.ty59 rfl rfl rfl rfl rfl rfl) rfl ?_
    refine LexO.q rfl (by kernel_rfl) (q_mvC rfl rfl) rfl rfl rfl ?_
    refine LexO.q rfl (by kernel_rfl) (q_index _ rfl Fx.sl59 rfl rfl (by omega) (idx_map (f := cfT) hi)) rfl rfl rfl ?_
    refine LexO.q rfl (by kernel_rfl) (q_fieldP _ rfl Fx.fl96_1 rfl rfl) rfl rfl rfl ?_
    refine LexO.q rfl (by kernel_rfl) (q_load (.a _) rfl Fx.ty2 rfl rfl rfl) rfl rfl rfl ?_
    refine LexO.q rfl (by kernel_rfl) (q_fieldL _ rfl Fx.fl61_1 rfl rfl) rfl rfl rfl ?_
    refine LexO.r rfl (by kernel_rfl) (b_load (r := .a _) rfl Fx.ty59 rfl rfl rfl rfl rfl rfl) rfl ?_
    refine LexO.q rfl (by kernel_rfl) (q_mvC rfl rfl) rfl rfl rfl ?_
    refine LexO.q rfl (by kernel_rfl) (q_index _ rfl Fx.sl59 rfl rfl (by omega) (idx_map (f := cfT) hi)) rfl rfl rfl ?_
    refine LexO.q rfl (by kernel_rfl) (q_fieldP _ rfl Fx.fl96_0 rfl rfl) rfl rfl rfl ?_
    refine LexO.q rfl (by kernel_rfl) (q_load (.a _) rfl Fx.ty3 rfl rfl rfl) rfl rfl rfl ?_
    refine LexO.q rfl (by kernel_rfl) (q_build2 (zs := [_, _, _, _, _]) (r := [_, _, _, _, _]) [(0, 1), (1, 1), (2, 1), (3, 1), (4, 1)] _ rfl Fx.ze39 rfl Fx.bp39 rfl rfl rfl rfl) rfl rfl rfl ?_
    refine LexO.q rfl (by kernel_rfl) (q_buildSlice _ rfl Fx.el40 rfl (by decide) rfl) rfl rfl rfl ?_
    refine LexO.app1 rfl (by kernel_rfl) (by kernel_rfl) (by kernel_rfl) rfl (hkt) rfl Fx.el40 rfl rfl (by simp [hzs]; omega) rfl rfl (fun k31 hk31 => ?_)
    refine LexO.q rfl (by kernel_rfl) (q_fieldL _ rfl Fx.fl42_1 rfl rfl) rfl rfl rfl ?_
    refine LexO.r rfl (by kernel_rfl) (b_store (r := [_, _]) rfl rfl Fx.ty40 rfl rfl rfl rfl rfl rfl) rfl ?_
    refine LexO.nil (by kernel_rfl) ?_
    refine AW.reg ?_
    refine SeqK.q (q_mvC rfl rfl) rfl rfl rfl ?_
    refine SeqK.q (q_add _ rfl rfl rfl (w64 (by omega) (by omega))) rfl rfl rfl ?_
    refine SeqK.q (q_asC rfl rfl) rfl rfl rfl ?_
    refine SeqK.nil ?_
    exact ⟨i + 1, _, Wk.keep 35 [(1, .lp 1 0), (2, .c (sC ⟨#[]⟩)), (3, .lp 3 0), (4, iX .i64 (((i + 1) : Nat) : Int))] [(1, .box [.t (.v (.int .i64 f.c)), .t (.sl .un 2 (f.cs.map cfT))]), (3, .box [.t (.v (.int .i64 f.c)), .ts (k31) .ne 5 (zs ++ [ptT f.cs[i]])])] (upd H (k31) (some (.tip 39 5 (zs ++ [ptT f.cs[i]]).length))) rfl ⟨rfl, rfl, rfl, rfl, trivial⟩ ⟨rfl, rfl, trivial⟩ (fun _ _ h => h) rfl, by omega, k31, zs ++ [ptT f.cs[i]], ⟨hi, hk31, by rw [hzs, take_put hi, List.map_append]; rfl⟩, rfl⟩
  ·
    refine AW.exit ?_
    refine eth_e ?_
    refine eth_e ?_
    refine exit_here ?_
    refine AW.seq ?_
    obtain rfl : i = f.cs.length := by rw [List.length_map] at h12; omega
    rw [List.take_length] at hzs
    refine AW.reg ?_
    refine SeqK.r (b_load (r := .g [_, _]) rfl Fx.ty42 rfl rfl rfl rfl rfl rfl) rfl ?_
    refine SeqK.xw 33 rfl (XW.g (.cons XW.reA (.cons (XW.ts.trans (XW.es hzs)) .nil))) ?_
    refine SeqK.q (q_call _ rfl Fx.fn48 rfl (format13_any f hn) rfl) rfl rfl rfl ?_
    refine SeqK.q (q_asC rfl rfl) rfl rfl rfl ?_
    refine SeqK.nil ?_
    refine AW.ret ?_
    exact fin_x (x := .c _) (H) (.tmp rfl .nil) rfl ((fun j o h => upd_sub hkt j o h)) (⟨rfl, rfl⟩)

end Go.Proofs.YtnmfjojhgfipcaaGreatDoor.W
namespace Go.Proofs.YtnmfjojhgfipcaaGreatDoor.W
open Go.RowKit E
set_option linter.unusedVariables false
set_option linter.unusedSimpArgs false
set_option linter.unusedSectionVars false
/-! tests: signs, quoted texts -/
abbrev sgB (k : Int) (n : Bool) : ByteArray := if n then [(⟨#[60, 62]⟩ : ByteArray), (⟨#[78, 79, 84, 32, 76, 73, 75, 69]⟩ : ByteArray), (⟨#[62, 61]⟩ : ByteArray), (⟨#[62]⟩ : ByteArray)].getD k.toNat ⟨#[]⟩ else [(⟨#[61]⟩ : ByteArray), (⟨#[76, 73, 75, 69]⟩ : ByteArray), (⟨#[60]⟩ : ByteArray), (⟨#[60, 61]⟩ : ByteArray)].getD k.toNat ⟨#[]⟩
theorem k4 {k : Int} (h : 0 ≤ k ∧ k ≤ 3) : k = 0 ∨ k = 1 ∨ k = 2 ∨ k = 3 := by omega
theorem sgB_size {k : Int} (h : 0 ≤ k ∧ k ≤ 3) (n : Bool) : (sgB k n).size ≤ 8 := by rcases k4 h with h | h | h | h <;> rw [h] <;> cases n <;> decide

set_option maxRecDepth 20000 in
theorem signT (v k : Int) (u : ByteArray) (hk : 0 ≤ k ∧ k ≤ 3) : Pure Tryz.prog 21 [tsC ⟨v, k, true, u⟩] (.c (sC (sgB k true))) := by
  intro H
  refine Spec.enter Tryz.func21 rfl ?_
  refine AW.wk (Wk.keep 21 [(0, .c (tsC ⟨v, k, true, u⟩))] [] (H) rfl ⟨rfl, trivial⟩ trivial (fun _ _ h => h) rfl) ?_
  refine AW.seq ?_
  refine AW.reg ?_
  refine SeqK.r (b_box (r := [_, _, _, _]) rfl rfl rfl rfl rfl rfl) rfl ?_
  refine SeqK.q (q_asC rfl rfl) rfl rfl rfl ?_
  refine SeqK.nil ?_
  refine AW.seq ?_
  refine AW.reg ?_
  refine SeqK.q (q_build2 (zs := [_, _]) (r := [_, _]) [(0, 1), (1, 1)] _ rfl Fx.ze101 rfl Fx.bp101 rfl rfl rfl rfl) rfl rfl rfl ?_
  refine SeqK.q (q_build2 (zs := [_, _]) (r := [_, _]) [(0, 1), (1, 1)] _ rfl Fx.ze101 rfl Fx.bp101 rfl rfl rfl rfl) rfl rfl rfl ?_
  refine SeqK.q (q_build2 (zs := [_, _]) (r := [_, _]) [(0, 1), (1, 1)] _ rfl Fx.ze101 rfl Fx.bp101 rfl rfl rfl rfl) rfl rfl rfl ?_
  refine SeqK.q (q_build2 (zs := [_, _]) (r := [_, _]) [(0, 1), (1, 1)] _ rfl Fx.ze101 rfl Fx.bp101 rfl rfl rfl rfl) rfl rfl rfl ?_
  refine SeqK.q (q_build2 (zs := [_, _, _, _, _, _, _, _]) (r := [_, _, _, _, _, _, _, _]) [(0, 2), (2, 2), (4, 2), (6, 2)] _ rfl Fx.ze102 rfl Fx.bp102 rfl rfl rfl rfl) rfl rfl rfl ?_
  refine SeqK.r (b_alloc (r := [_, _, _, _, _, _, _, _]) rfl rfl Fx.ze102 rfl rfl rfl rfl) rfl ?_
  refine SeqK.r (b_store (r := [_, _, _, _, _, _, _, _]) rfl rfl Fx.ty102 rfl rfl rfl rfl rfl rfl) rfl ?_
  refine SeqK.nil ?_
  refine AW.seq ?_
  refine AW.seq ?_
  refine AW.reg ?_
  refine SeqK.q (q_fieldL _ rfl Fx.fl44_2 rfl rfl) rfl rfl rfl ?_
  refine SeqK.r (b_load (r := .a _) rfl Fx.ty4 rfl rfl rfl rfl rfl rfl) rfl ?_
  refine SeqK.nil ?_
  refine AW.condT rfl ?_
  refine AW.seq ?_
  refine AW.reg ?_
  refine SeqK.q (q_fieldL _ rfl Fx.fl44_1 rfl rfl) rfl rfl rfl ?_
  refine SeqK.r (b_load (r := .a _) rfl Fx.ty3 rfl rfl rfl rfl rfl rfl) rfl ?_
  refine SeqK.q (q_indexL _ rfl Fx.ar102 rfl rfl (by exact hk.1) (by show k.toNat < 4; omega) rfl) rfl rfl rfl ?_
  refine SeqK.q (q_indexL _ rfl Fx.ar101 rfl rfl (by omega) (by omega) rfl) rfl rfl rfl ?_
  refine SeqK.r (b_load (r := .a (.t (.v (.string (sgB k true))))) rfl Fx.ty9 rfl rfl (by rcases k4 hk with h | h | h | h <;> rw [h] <;> rfl) (by rcases k4 hk with h | h | h | h <;> rw [h] <;> rfl) rfl rfl) rfl ?_
  refine SeqK.q (q_asC rfl rfl) rfl rfl rfl ?_
  refine SeqK.nil ?_
  refine AW.ret ?_
  exact fin_x (x := .c _) H (.tmp rfl .nil) rfl (fun _ _ h => h) ⟨rfl, rfl⟩

set_option maxRecDepth 20000 in
theorem signF (v k : Int) (u : ByteArray) (hk : 0 ≤ k ∧ k ≤ 3) : Pure Tryz.prog 21 [tsC ⟨v, k, false, u⟩] (.c (sC (sgB k false))) := by
  intro H
  refine Spec.enter Tryz.func21 rfl ?_
  refine AW.wk (Wk.keep 21 [(0, .c (tsC ⟨v, k, false, u⟩))] [] (H) rfl ⟨rfl, trivial⟩ trivial (fun _ _ h => h) rfl) ?_
  refine AW.seq ?_
  refine AW.reg ?_
  refine SeqK.r (b_box (r := [_, _, _, _]) rfl rfl rfl rfl rfl rfl) rfl ?_
  refine SeqK.q (q_asC rfl rfl) rfl rfl rfl ?_
  refine SeqK.nil ?_
  refine AW.seq ?_
  refine AW.reg ?_
  refine SeqK.q (q_build2 (zs := [_, _]) (r := [_, _]) [(0, 1), (1, 1)] _ rfl Fx.ze101 rfl Fx.bp101 rfl rfl rfl rfl) rfl rfl rfl ?_
  refine SeqK.q (q_build2 (zs := [_, _]) (r := [_, _]) [(0, 1), (1, 1)] _ rfl Fx.ze101 rfl Fx.bp101 rfl rfl rfl rfl) rfl rfl rfl ?_
  refine SeqK.q (q_build2 (zs := [_, _]) (r := [_, _]) [(0, 1), (1, 1)] _ rfl Fx.ze101 rfl Fx.bp101 rfl rfl rfl rfl) rfl rfl rfl ?_
  refine SeqK.q (q_build2 (zs := [_, _]) (r := [_, _]) [(0, 1), (1, 1)] _ rfl Fx.ze101 rfl Fx.bp101 rfl rfl rfl rfl) rfl rfl rfl ?_
  refine SeqK.q (q_build2 (zs := [_, _, _, _, _, _, _, _]) (r := [_, _, _, _, _, _, _, _]) [(0, 2), (2, 2), (4, 2), (6, 2)] _ rfl Fx.ze102 rfl Fx.bp102 rfl rfl rfl rfl) rfl rfl rfl ?_
  refine SeqK.r (b_alloc (r := [_, _, _, _, _, _, _, _]) rfl rfl Fx.ze102 rfl rfl rfl rfl) rfl ?_
  refine SeqK.r (b_store (r := [_, _, _, _, _, _, _, _]) rfl rfl Fx.ty102 rfl rfl rfl rfl rfl rfl) rfl ?_
  refine SeqK.nil ?_
  refine AW.seq ?_
  refine AW.seq ?_
  refine AW.reg ?_
  refine SeqK.q (q_fieldL _ rfl Fx.fl44_2 rfl rfl) rfl rfl rfl ?_
  refine SeqK.r (b_load (r := .a _) rfl Fx.ty4 rfl rfl rfl rfl rfl rfl) rfl ?_
  refine SeqK.nil ?_
  refine AW.condF rfl ?_
  refine AW.skip ?_
  refine AW.seq ?_
  refine AW.reg ?_
  refine SeqK.q (q_fieldL _ rfl Fx.fl44_1 rfl rfl) rfl rfl rfl ?_
  refine SeqK.r (b_load (r := .a _) rfl Fx.ty3 rfl rfl rfl rfl rfl rfl) rfl ?_
  refine SeqK.q (q_indexL _ rfl Fx.ar102 rfl rfl (by exact hk.1) (by show k.toNat < 4; omega) rfl) rfl rfl rfl ?_
  refine SeqK.q (q_indexL _ rfl Fx.ar101 rfl rfl (by omega) (by omega) rfl) rfl rfl rfl ?_
  refine SeqK.r (b_load (r := .a (.t (.v (.string (sgB k false))))) rfl Fx.ty9 rfl rfl (by rcases k4 hk with h | h | h | h <;> rw [h] <;> rfl) (by rcases k4 hk with h | h | h | h <;> rw [h] <;> rfl) rfl rfl) rfl ?_
  refine SeqK.q (q_asC rfl rfl) rfl rfl rfl ?_
  refine SeqK.nil ?_
  refine AW.ret ?_
  exact fin_x (x := .c _) H (.tmp rfl .nil) rfl (fun _ _ h => h) ⟨rfl, rfl⟩

theorem sign_any (t : Ts) (hk : 0 ≤ t.k ∧ t.k ≤ 3) : Pure Tryz.prog 21 [tsC t] (.c (sC (sgB t.k t.n))) := by
  obtain ⟨v, k, n, s⟩ := t
  cases n
  · exact signF v k s hk
  · exact signT v k s hk
def qtX (s : ByteArray) : ByteArray := ⟨#[39]⟩ ++ qtB s ++ ⟨#[39]⟩
theorem qtX_size {s : ByteArray} (h : s.size ≤ 16) : (qtX s).size ≤ 34 := by
  have h1 := qtB_size (u := s)
  have e : (⟨#[39]⟩ : ByteArray).size = 1 := rfl
  rw [qtX, ByteArray.size_append, ByteArray.size_append]; omega

set_option maxRecDepth 20000 in
theorem printable_any (u : ByteArray) (hp : prnP u) (hz : u.size ≤ 16) : Pure Tryz.prog 61 [sC u] (.c (bC true)) := by
  intro H
  refine Spec.enter Tryz.func61 rfl ?_
  refine AW.wk (Wk.keep 23 [(0, .c (sC u))] [] (H) rfl ⟨rfl, trivial⟩ trivial (fun _ _ h => h) rfl) ?_
  refine AW.seq ?_
  refine AW.reg ?_
  refine SeqK.q (q_asC rfl rfl) rfl rfl rfl ?_
  refine SeqK.nil ?_
  refine AW.seq ?_
  refine AW.seq ?_
  have hl := ba_len u
  refine AW.reg ?_
  refine SeqK.q (q_mvC rfl rfl) rfl rfl rfl ?_
  refine SeqK.q (q_lenS rfl Fx.un9 rfl) rfl rfl rfl ?_
  refine SeqK.q (q_mvC rfl rfl) rfl rfl rfl ?_
  refine SeqK.nil ?_
  refine AW.block ?_
  refine AW.loop (fun (i : Nat) s => (i ≤ u.size) ∧ s = ⟨23, sp [(0, .c (sC u)), (2, .c (bC false)), (5, iX .i64 ((u.size : Nat) : Int)), (6, iX .i64 ((i : Nat) : Int))], lv [], H⟩) (fun i => u.size - i) 0 ⟨_, Wk.keep 23 [(0, .c (sC u)), (2, .c (bC false)), (5, iX .i64 ((u.size : Nat) : Int)), (6, iX .i64 ((((0 : Nat)) : Nat) : Int))] [] (H) rfl ⟨rfl, rfl, rfl, rfl, trivial⟩ trivial (fun _ _ h => h) rfl, Nat.zero_le _, rfl⟩ (fun i s hs => ?_)
  obtain ⟨hi0, rfl⟩ := hs
  refine AW.seq ?_
  refine AW.reg ?_
  refine SeqK.q (q_lss rfl rfl rfl) rfl rfl rfl ?_
  refine SeqK.nil ?_
  refine AW.seq ?_
  refine AW.condD rfl (fun h7 => ?_) (fun h7 => ?_)
  ·
    have hi : i < u.data.toList.length := by omega
    have hb := hp i hi
    refine AW.skip ?_
    refine AW.seq ?_
    refine AW.block ?_
    refine AW.seq ?_
    refine AW.reg ?_
    refine SeqK.q (q_mvC rfl rfl) rfl rfl rfl ?_
    refine SeqK.q (q_asC rfl rfl) rfl rfl rfl ?_
    refine SeqK.nil ?_
    refine AW.seq ?_
    refine AW.reg ?_
    refine SeqK.q (q_mvC rfl rfl) rfl rfl rfl ?_
    refine SeqK.q (q_mvC rfl rfl) rfl rfl rfl ?_
    refine SeqK.q (q_indexS _ rfl Fx.un9 rfl rfl (by omega) (idx_ba hi)) rfl rfl rfl ?_
    refine SeqK.q (q_lss rfl rfl rfl) rfl rfl rfl ?_
    refine SeqK.qD (q_mvC rfl rfl) rfl rfl rfl (fun g13 => ?_) (fun g13 => ?_)
    ·
      exfalso; omega
    ·
      refine SeqK.on (q_mvC rfl rfl) rfl rfl rfl rfl rfl ?_
      refine SeqK.on (q_mvC rfl rfl) rfl rfl rfl rfl rfl ?_
      refine SeqK.on (q_indexS _ rfl Fx.un9 rfl rfl (by omega) (idx_ba hi)) rfl rfl rfl rfl rfl ?_
      refine SeqK.on (q_gtr rfl rfl rfl) rfl rfl rfl rfl rfl ?_
      refine SeqK.q (q_pkF rfl rfl rfl) rfl rfl rfl ?_
      refine SeqK.nil ?_
      refine AW.condD rfl (fun h18 => ?_) (fun h18 => ?_)
      ·
        exfalso; omega
      ·
        refine AW.skip ?_
        refine AW.reg ?_
        refine SeqK.q (q_add _ rfl rfl rfl (w64 (by omega) (by omega))) rfl rfl rfl ?_
        refine SeqK.q (q_mvC rfl rfl) rfl rfl rfl ?_
        refine SeqK.nil ?_
        exact ⟨i + 1, _, Wk.keep 23 [(0, .c (sC u)), (2, .c (bC false)), (5, iX .i64 ((u.size : Nat) : Int)), (6, iX .i64 (((i + 1) : Nat) : Int))] [] (H) rfl ⟨rfl, rfl, rfl, rfl, trivial⟩ trivial (fun _ _ h => h) rfl, by omega, by omega, rfl⟩
  ·
    refine AW.exit ?_
    refine eth_e ?_
    refine eth_e ?_
    refine exit_here ?_
    refine AW.seq ?_
    refine AW.reg ?_
    refine SeqK.q (q_mvC rfl rfl) rfl rfl rfl ?_
    refine SeqK.q (q_lenS rfl Fx.un9 rfl) rfl rfl rfl ?_
    refine SeqK.q (q_leq rfl rfl rfl) rfl rfl rfl ?_
    refine SeqK.q (q_asC rfl rfl) rfl rfl rfl ?_
    refine SeqK.nil ?_
    refine AW.ret ?_
    exact fin_x (x := .c _) (H) (.tmp rfl .nil) rfl (fun _ _ h => h) (⟨bCe (decide_eq_true (by omega)), rfl⟩)

set_option maxRecDepth 20000 in
theorem text09_any (u : ByteArray) (hp : prnP u) (hz : u.size ≤ 16) : Pure Tryz.prog 67 [sC u] (.c (bC true)) := by
  intro H
  refine Spec.enter Tryz.func67 rfl ?_
  refine AW.wk (Wk.keep 23 [(0, .c (sC u))] [] (H) rfl ⟨rfl, trivial⟩ trivial (fun _ _ h => h) rfl) ?_
  refine AW.seq ?_
  refine AW.reg ?_
  refine SeqK.q (q_asC rfl rfl) rfl rfl rfl ?_
  refine SeqK.nil ?_
  refine AW.seq ?_
  refine AW.seq ?_
  have hl := ba_len u
  refine AW.reg ?_
  refine SeqK.q (q_asC rfl rfl) rfl rfl rfl ?_
  refine SeqK.nil ?_
  refine AW.block ?_
  refine AW.loop (fun (i : Nat) s => (i ≤ u.size) ∧ s = ⟨23, sp [(0, .c (sC u)), (2, .c (bC false)), (3, iX .i64 ((i : Nat) : Int))], lv [], H⟩) (fun i => u.size - i) 0 ⟨_, Wk.keep 23 [(0, .c (sC u)), (2, .c (bC false)), (3, iX .i64 ((((0 : Nat)) : Nat) : Int))] [] (H) rfl ⟨rfl, rfl, rfl, trivial⟩ trivial (fun _ _ h => h) rfl, Nat.zero_le _, rfl⟩ (fun i s hs => ?_)
  obtain ⟨hi0, rfl⟩ := hs
  refine AW.seq ?_
  refine AW.seq ?_
  refine AW.reg ?_
  refine SeqK.q (q_mvC rfl rfl) rfl rfl rfl ?_
  refine SeqK.q (q_mvC rfl rfl) rfl rfl rfl ?_
  refine SeqK.q (q_lenS rfl Fx.un9 rfl) rfl rfl rfl ?_
  refine SeqK.q (q_lss rfl rfl rfl) rfl rfl rfl ?_
  refine SeqK.nil ?_
  refine AW.condD rfl (fun h7 => ?_) (fun h7 => ?_)
  ·
    have hi : i < u.data.toList.length := by omega
    have hb := hp i hi
    refine AW.skip ?_
    refine AW.seq ?_
    refine AW.block ?_
    refine AW.seq ?_
    refine AW.reg ?_
    refine SeqK.q (q_mvC rfl rfl) rfl rfl rfl ?_
    refine SeqK.q (q_mvC rfl rfl) rfl rfl rfl ?_
    refine SeqK.q (q_indexS _ rfl Fx.un9 rfl rfl (by omega) (idx_ba hi)) rfl rfl rfl ?_
    refine SeqK.q (q_lss rfl rfl rfl) rfl rfl rfl ?_
    refine SeqK.qD (q_mvC rfl rfl) rfl rfl rfl (fun g14 => ?_) (fun g14 => ?_)
    ·
      exfalso; omega
    ·
      refine SeqK.on (q_mvC rfl rfl) rfl rfl rfl rfl rfl ?_
      refine SeqK.on (q_mvC rfl rfl) rfl rfl rfl rfl rfl ?_
      refine SeqK.on (q_indexS _ rfl Fx.un9 rfl rfl (by omega) (idx_ba hi)) rfl rfl rfl rfl rfl ?_
      refine SeqK.on (q_gtr rfl rfl rfl) rfl rfl rfl rfl rfl ?_
      refine SeqK.q (q_pkF rfl rfl rfl) rfl rfl rfl ?_
      refine SeqK.nil ?_
      refine AW.condD rfl (fun h19 => ?_) (fun h19 => ?_)
      ·
        exfalso; omega
      ·
        refine AW.skip ?_
        refine AW.reg ?_
        refine SeqK.q (q_mvC rfl rfl) rfl rfl rfl ?_
        refine SeqK.q (q_add _ rfl rfl rfl (w64 (by omega) (by omega))) rfl rfl rfl ?_
        refine SeqK.q (q_asC rfl rfl) rfl rfl rfl ?_
        refine SeqK.nil ?_
        exact ⟨i + 1, _, Wk.keep 23 [(0, .c (sC u)), (2, .c (bC false)), (3, iX .i64 (((i + 1) : Nat) : Int))] [] (H) rfl ⟨rfl, rfl, rfl, trivial⟩ trivial (fun _ _ h => h) rfl, by omega, by omega, rfl⟩
  ·
    refine AW.exit ?_
    refine eth_e ?_
    refine eth_e ?_
    refine exit_here ?_
    refine AW.seq ?_
    refine AW.reg ?_
    refine SeqK.q (q_mvC rfl rfl) rfl rfl rfl ?_
    refine SeqK.q (q_lenS rfl Fx.un9 rfl) rfl rfl rfl ?_
    refine SeqK.q (q_leq rfl rfl rfl) rfl rfl rfl ?_
    refine SeqK.q (q_asC rfl rfl) rfl rfl rfl ?_
    refine SeqK.nil ?_
    refine AW.ret ?_
    exact fin_x (x := .c _) (H) (.tmp rfl .nil) rfl (fun _ _ h => h) (⟨bCe (decide_eq_true (by omega)), rfl⟩)

set_option maxRecDepth 20000 in
theorem valueValid_any (u : ByteArray) (hp : prnP u) (hz : u.size ≤ 16) : Pure Tryz.prog 43 [.g [.t (.v (.int .i64 2)), .t (.v (.int .i64 0)), .t (.v (.string u))]] (.c (bC true)) := by
  intro H
  refine Spec.enter Tryz.func43 rfl ?_
  refine AW.wk (Wk.keep 25 [(0, .c (.g [.t (.v (.int .i64 2)), .t (.v (.int .i64 0)), .t (.v (.string u))]))] [] (H) rfl ⟨rfl, trivial⟩ trivial (fun _ _ h => h) rfl) ?_
  refine AW.seq ?_
  refine AW.reg ?_
  refine SeqK.r (b_box (r := [_, _, _]) rfl rfl rfl rfl rfl rfl) rfl ?_
  refine SeqK.q (q_asC rfl rfl) rfl rfl rfl ?_
  refine SeqK.nil ?_
  refine AW.seq ?_
  refine AW.seq ?_
  refine AW.reg ?_
  refine SeqK.q (q_fieldL _ rfl Fx.fl55_0 rfl rfl) rfl rfl rfl ?_
  refine SeqK.r (b_load (r := .a _) rfl Fx.ty3 rfl rfl rfl rfl rfl rfl) rfl ?_
  refine SeqK.nil ?_
  refine AW.block ?_
  refine AW.seq ?_
  refine AW.reg ?_
  refine SeqK.q (q_eql rfl rfl rfl) rfl rfl rfl ?_
  refine SeqK.q (q_asC rfl rfl) rfl rfl rfl ?_
  refine SeqK.nil ?_
  refine AW.condF rfl ?_
  refine AW.seq ?_
  refine AW.reg ?_
  refine SeqK.q (q_eql rfl rfl rfl) rfl rfl rfl ?_
  refine SeqK.q (q_asC rfl rfl) rfl rfl rfl ?_
  refine SeqK.nil ?_
  refine AW.condF rfl ?_
  refine AW.seq ?_
  refine AW.reg ?_
  refine SeqK.q (q_eql rfl rfl rfl) rfl rfl rfl ?_
  refine SeqK.q (q_asC rfl rfl) rfl rfl rfl ?_
  refine SeqK.nil ?_
  refine AW.condT rfl ?_
  refine AW.seq ?_
  refine AW.reg ?_
  refine SeqK.q (q_fieldL _ rfl Fx.fl55_1 rfl rfl) rfl rfl rfl ?_
  refine SeqK.r (b_load (r := .a _) rfl Fx.ty2 rfl rfl rfl rfl rfl rfl) rfl ?_
  refine SeqK.q (q_eql rfl rfl rfl) rfl rfl rfl ?_
  refine SeqK.q (q_mvC rfl rfl) rfl rfl rfl ?_
  refine SeqK.on (q_fieldL _ rfl Fx.fl55_2 rfl rfl) rfl rfl rfl rfl rfl ?_
  refine SeqK.rOn (b_load (r := .a _) rfl Fx.ty9 rfl rfl rfl rfl rfl rfl) rfl rfl rfl ?_
  refine SeqK.on (q_call _ rfl Fx.fn61 rfl (printable_any u hp hz) rfl) rfl rfl rfl rfl rfl ?_
  refine SeqK.q (q_pkT rfl rfl rfl) rfl rfl rfl ?_
  refine SeqK.q (q_asC rfl rfl) rfl rfl rfl ?_
  refine SeqK.nil ?_
  refine AW.ret ?_
  exact fin_x (x := .c _) H (.tmp rfl .nil) rfl (fun _ _ h => h) ⟨rfl, rfl⟩

set_option maxRecDepth 20000 in
theorem valueText_any (u : ByteArray) : Pure Tryz.prog 23 [sC u] (.c (.g [.t (.v (.int .i64 2)), .t (.v (.int .i64 0)), .t (.v (.string u))])) := by
  intro H
  refine Spec.enter Tryz.func23 rfl ?_
  refine AW.wk (Wk.keep 5 [(0, .c (sC u))] [] (H) rfl ⟨rfl, trivial⟩ trivial (fun _ _ h => h) rfl) ?_
  refine AW.seq ?_
  refine AW.reg ?_
  refine SeqK.r (b_alloc (r := [_, _, _]) rfl rfl Fx.ze55 rfl rfl rfl rfl) rfl ?_
  refine SeqK.nil ?_
  refine AW.seq ?_
  refine AW.reg ?_
  refine SeqK.q (q_mvC rfl rfl) rfl rfl rfl ?_
  refine SeqK.q (q_build2 (zs := [_, _, _]) (r := [_, _, _]) [(0, 1), (1, 1), (2, 1)] _ rfl Fx.ze55 rfl Fx.bp55 rfl rfl rfl rfl) rfl rfl rfl ?_
  refine SeqK.r (b_store (r := [_, _, _]) rfl rfl Fx.ty55 rfl rfl rfl rfl rfl rfl) rfl ?_
  refine SeqK.nil ?_
  refine AW.ret ?_
  exact fin_x (x := .c _) H (.cellL rfl rfl Fx.ty55 rfl rfl .nil) rfl (fun _ _ h => h) ⟨rfl, rfl⟩

set_option maxRecDepth 20000 in
theorem valueFormat_any (u : ByteArray) (hp : prnP u) (hz : u.size ≤ 16) : Pure Tryz.prog 22 [.g [.t (.v (.int .i64 2)), .t (.v (.int .i64 0)), .t (.v (.string u))]] (.c (sC (qtX u))) := by
  have e : (⟨#[39]⟩ : ByteArray).size = 1 := rfl
  have h1 := qtB_size (u := u)
  intro H
  refine Spec.enter Tryz.func22 rfl ?_
  refine AW.wk (Wk.keep 20 [(0, .c (.g [.t (.v (.int .i64 2)), .t (.v (.int .i64 0)), .t (.v (.string u))]))] [] (H) rfl ⟨rfl, trivial⟩ trivial (fun _ _ h => h) rfl) ?_
  refine AW.seq ?_
  refine AW.reg ?_
  refine SeqK.r (b_box (r := [_, _, _]) rfl rfl rfl rfl rfl rfl) rfl ?_
  refine SeqK.q (q_asC rfl rfl) rfl rfl rfl ?_
  refine SeqK.nil ?_
  refine AW.seq ?_
  refine AW.seq ?_
  refine AW.reg ?_
  refine SeqK.r (b_load (r := .g [_, _, _]) rfl Fx.ty55 rfl rfl rfl rfl rfl rfl) rfl ?_
  refine SeqK.q (q_call _ rfl Fx.fn43 rfl (valueValid_any u hp hz) rfl) rfl rfl rfl ?_
  refine SeqK.q (q_not rfl rfl) rfl rfl rfl ?_
  refine SeqK.nil ?_
  refine AW.condF rfl ?_
  refine AW.skip ?_
  refine AW.seq ?_
  refine AW.seq ?_
  refine AW.reg ?_
  refine SeqK.q (q_fieldL _ rfl Fx.fl55_0 rfl rfl) rfl rfl rfl ?_
  refine SeqK.r (b_load (r := .a _) rfl Fx.ty3 rfl rfl rfl rfl rfl rfl) rfl ?_
  refine SeqK.nil ?_
  refine AW.block ?_
  refine AW.seq ?_
  refine AW.reg ?_
  refine SeqK.q (q_eql rfl rfl rfl) rfl rfl rfl ?_
  refine SeqK.q (q_asC rfl rfl) rfl rfl rfl ?_
  refine SeqK.nil ?_
  refine AW.condF rfl ?_
  refine AW.seq ?_
  refine AW.reg ?_
  refine SeqK.q (q_eql rfl rfl rfl) rfl rfl rfl ?_
  refine SeqK.q (q_asC rfl rfl) rfl rfl rfl ?_
  refine SeqK.nil ?_
  refine AW.condF rfl ?_
  refine AW.skip ?_
  refine AW.seq ?_
  refine AW.reg ?_
  refine SeqK.q (q_fieldL _ rfl Fx.fl55_2 rfl rfl) rfl rfl rfl ?_
  refine SeqK.r (b_load (r := .a _) rfl Fx.ty9 rfl rfl rfl rfl rfl rfl) rfl ?_
  refine SeqK.q (q_call _ rfl Fx.fn44 rfl (replace_b (by omega)) rfl) rfl rfl rfl ?_
  refine SeqK.q (q_addS rfl rfl rfl (by first | omega | (simp only [ByteArray.size_append]; omega))) rfl rfl rfl ?_
  refine SeqK.q (q_addS rfl rfl rfl (by first | omega | (simp only [ByteArray.size_append]; omega))) rfl rfl rfl ?_
  refine SeqK.q (q_asC rfl rfl) rfl rfl rfl ?_
  refine SeqK.nil ?_
  refine AW.ret ?_
  exact fin_x (x := .c _) H (.tmp rfl .nil) rfl (fun _ _ h => h) ⟨rfl, rfl⟩

set_option maxHeartbeats 8000000 in
set_option maxRecDepth 20000 in
theorem quote_any (u : ByteArray) (hp : prnP u) (hz : u.size ≤ 16) : Pure Tryz.prog 49 [sC u] (.c (sC (qtX u))) := by
  have hl := ba_len u
  intro H
  refine Spec.enter Tryz.func49 rfl ?_
  refine AW.wk (Wk.keep 29 [(0, .c (sC u))] [] (H) rfl ⟨rfl, trivial⟩ trivial (fun _ _ h => h) rfl) ?_
  refine AW.seq ?_
  refine AW.reg ?_
  refine SeqK.q (q_asC rfl rfl) rfl rfl rfl ?_
  refine SeqK.nil ?_
  refine AW.seq ?_
  refine AW.seq ?_
  refine AW.reg ?_
  refine SeqK.q (q_mvC rfl rfl) rfl rfl rfl ?_
  refine SeqK.q (q_call _ rfl Fx.fn67 rfl (text09_any u hp hz) rfl) rfl rfl rfl ?_
  refine SeqK.q (q_not rfl rfl) rfl rfl rfl ?_
  refine SeqK.nil ?_
  refine AW.condF rfl ?_
  refine AW.skip ?_
  refine AW.seq ?_
  refine AW.reg ?_
  refine SeqK.q (q_asC rfl rfl) rfl rfl rfl ?_
  refine SeqK.nil ?_
  refine AW.seq ?_
  refine AW.seq ?_
  refine AW.reg ?_
  refine SeqK.q (q_asC rfl rfl) rfl rfl rfl ?_
  refine SeqK.nil ?_
  refine AW.block ?_
  refine AW.loop (fun (i : Nat) s => ∃ (tt : ByteArray), (i ≤ u.data.toList.length ∧ tt = (qS (u.data.toList.take i))) ∧ s = ⟨29, sp [(0, .c (sC u)), (2, .c (sC ⟨#[]⟩)), (3, .c (sC tt)), (4, iX .i64 ((i : Nat) : Int))], lv [], H⟩) (fun i => u.data.toList.length - i) 0 ⟨_, Wk.keep 29 [(0, .c (sC u)), (2, .c (sC ⟨#[]⟩)), (3, .c (sC (⟨#[39]⟩))), (4, iX .i64 ((((0 : Nat)) : Nat) : Int))] [] (H) rfl ⟨rfl, rfl, rfl, rfl, trivial⟩ trivial (fun _ _ h => h) rfl, ⟨#[39]⟩, ⟨Nat.zero_le _, rfl⟩, rfl⟩ (fun i s hs => ?_)
  obtain ⟨tt, ⟨hi0, htt⟩, rfl⟩ := hs
  refine AW.seq ?_
  refine AW.seq ?_
  refine AW.reg ?_
  refine SeqK.q (q_mvC rfl rfl) rfl rfl rfl ?_
  refine SeqK.q (q_mvC rfl rfl) rfl rfl rfl ?_
  refine SeqK.q (q_lenS rfl Fx.un9 rfl) rfl rfl rfl ?_
  refine SeqK.q (q_lss rfl rfl rfl) rfl rfl rfl ?_
  refine SeqK.nil ?_
  refine AW.condD rfl (fun h11 => ?_) (fun h11 => ?_)
  ·
    have hi : i < u.data.toList.length := by omega
    have hq := qtL_len (u.data.toList.take i)
    rw [List.length_take] at hq
    have hsz : tt.size ≤ 200 := by rw [htt]; show (List.toArray _).size ≤ _; rw [List.size_toArray, List.length_cons]; omega
    have hs1 : (⟨#[39]⟩ : ByteArray).size = 1 := rfl
    have hs2 : (u.extract i (i + 1)).size = 1 := by rw [cut1 hi]; rfl
    refine AW.skip ?_
    refine AW.seq ?_
    refine AW.block ?_
    refine AW.seq ?_
    refine AW.reg ?_
    refine SeqK.q (q_mvC rfl rfl) rfl rfl rfl ?_
    refine SeqK.q (q_mvC rfl rfl) rfl rfl rfl ?_
    refine SeqK.q (q_mvC rfl rfl) rfl rfl rfl ?_
    refine SeqK.q (q_mvC rfl rfl) rfl rfl rfl ?_
    refine SeqK.q (q_add _ rfl rfl rfl ((by rw [w64 (by omega) (by omega)]; rfl : IntKind.i64.wrap _ = ((i + 1 : Nat) : Int)))) rfl rfl rfl ?_
    refine SeqK.q (q_cutS i (i + 1) (u.extract i (i + 1)) rfl Fx.un9 rfl (by first | rfl | exact ⟨_, rfl⟩) (by first | rfl | exact ⟨_, rfl⟩) (by omega) (by omega) rfl) rfl rfl rfl ?_
    refine SeqK.q (q_addS rfl rfl rfl (by first | omega | (simp only [ByteArray.size_append]; omega))) rfl rfl rfl ?_
    refine SeqK.q (q_asC rfl rfl) rfl rfl rfl ?_
    refine SeqK.nil ?_
    refine AW.seq ?_
    refine AW.reg ?_
    refine SeqK.q (q_mvC rfl rfl) rfl rfl rfl ?_
    refine SeqK.q (q_mvC rfl rfl) rfl rfl rfl ?_
    refine SeqK.q (q_indexS _ rfl Fx.un9 rfl rfl (by omega) (idx_ba hi)) rfl rfl rfl ?_
    refine SeqK.q (q_eql rfl rfl rfl) rfl rfl rfl ?_
    refine SeqK.nil ?_
    refine AW.condD rfl (fun h24 => ?_) (fun h24 => ?_)
    ·
      have hb : u.data.toList[i] = 39 := UInt8.toNat_inj.1 (by show _ = 39; omega)
      refine AW.reg ?_
      refine SeqK.q (q_mvC rfl rfl) rfl rfl rfl ?_
      refine SeqK.q (q_addS rfl rfl rfl (by first | omega | (simp only [ByteArray.size_append]; omega))) rfl rfl rfl ?_
      refine SeqK.q (q_asC rfl rfl) rfl rfl rfl ?_
      refine SeqK.nil ?_
      refine AW.reg ?_
      refine SeqK.q (q_mvC rfl rfl) rfl rfl rfl ?_
      refine SeqK.q (q_add _ rfl rfl rfl (w64 (by omega) (by omega))) rfl rfl rfl ?_
      refine SeqK.q (q_asC rfl rfl) rfl rfl rfl ?_
      refine SeqK.nil ?_
      exact ⟨i + 1, _, Wk.keep 29 [(0, .c (sC u)), (2, .c (sC ⟨#[]⟩)), (3, .c (sC (tt ++ u.extract i (i + 1) ++ ⟨#[39]⟩))), (4, iX .i64 (((i + 1) : Nat) : Int))] [] (H) rfl ⟨rfl, rfl, rfl, rfl, trivial⟩ trivial (fun _ _ h => h) rfl, by omega, tt ++ u.extract i (i + 1) ++ ⟨#[39]⟩, ⟨hi, by rw [htt, cut1 hi, hb, qS, qS, qtL_take hi, if_pos hb]; exact (congrArg (· ++ _) (ba_app _ _)).trans ((ba_app _ _).trans (by simp))⟩, rfl⟩
    ·
      have hb : u.data.toList[i] ≠ 39 := fun e => h24 (by rw [e]; rfl)
      refine AW.skip ?_
      refine AW.reg ?_
      refine SeqK.q (q_mvC rfl rfl) rfl rfl rfl ?_
      refine SeqK.q (q_add _ rfl rfl rfl (w64 (by omega) (by omega))) rfl rfl rfl ?_
      refine SeqK.q (q_asC rfl rfl) rfl rfl rfl ?_
      refine SeqK.nil ?_
      exact ⟨i + 1, _, Wk.keep 29 [(0, .c (sC u)), (2, .c (sC ⟨#[]⟩)), (3, .c (sC (tt ++ u.extract i (i + 1)))), (4, iX .i64 (((i + 1) : Nat) : Int))] [] (H) rfl ⟨rfl, rfl, rfl, rfl, trivial⟩ trivial (fun _ _ h => h) rfl, by omega, tt ++ u.extract i (i + 1), ⟨hi, by rw [htt, cut1 hi, qS, qS, qtL_take hi, if_neg hb]; exact (ba_app _ _).trans (by simp)⟩, rfl⟩
  ·
    refine AW.exit ?_
    refine eth_e ?_
    refine eth_e ?_
    refine exit_here ?_
    refine AW.seq ?_
    have hq := qtL_len (u.data.toList.take i)
    rw [List.length_take] at hq
    have hsz : tt.size ≤ 200 := by rw [htt]; show (List.toArray _).size ≤ _; rw [List.size_toArray, List.length_cons]; omega
    have hs1 : (⟨#[39]⟩ : ByteArray).size = 1 := rfl
    refine AW.reg ?_
    refine SeqK.q (q_mvC rfl rfl) rfl rfl rfl ?_
    refine SeqK.q (q_addS rfl rfl rfl (by first | omega | (simp only [ByteArray.size_append]; omega))) rfl rfl rfl ?_
    refine SeqK.q (q_asC rfl rfl) rfl rfl rfl ?_
    refine SeqK.nil ?_
    refine AW.ret ?_
    exact fin_x (x := .c _) (H) (.tmp rfl .nil) rfl (fun _ _ h => h) (⟨by rw [htt, List.take_of_length_le (by omega)]; exact sCe (by rw [qtX, show (⟨#[39]⟩ : ByteArray) ++ qtB u = qS u.data.toList from ba_app [39] _]), rfl⟩)

def opB (k : Int) (n : Bool) : ByteArray := ⟨#[32]⟩ ++ sgB k n ++ ⟨#[32]⟩
/-- the text of a test -/
abbrev tsX (t : Ts) : ByteArray := nmB t.v ++ opB t.k t.n ++ qtX t.s
theorem opB_size {k : Int} (h : 0 ≤ k ∧ k ≤ 3) (n : Bool) : (opB k n).size ≤ 10 := by rcases k4 h with h | h | h | h <;> rw [h] <;> cases n <;> decide

set_option maxRecDepth 20000 in
theorem rtestT (u : ByteArray) (hp : prnP u) (hz : u.size ≤ 16) (v k : Int) (hv : 0 ≤ v) (hn : N63 v.toNat) (hk : 0 ≤ k ∧ k ≤ 3) : Pure Tryz.prog 28 [tsC ⟨v, k, true, u⟩] (.c (sC (tsX ⟨v, k, true, u⟩))) := by
  have h1 := nmB_size hn
  have h2 := qtX_size hz
  have h3 := opB_size hk true
  intro H
  refine Spec.enter Tryz.func28 rfl ?_
  refine AW.wk (Wk.keep 20 [(0, .c (tsC ⟨v, k, true, u⟩))] [] (H) rfl ⟨rfl, trivial⟩ trivial (fun _ _ h => h) rfl) ?_
  refine AW.seq ?_
  refine AW.reg ?_
  refine SeqK.r (b_box (r := [_, _, _, _]) rfl rfl rfl rfl rfl rfl) rfl ?_
  refine SeqK.q (q_asC rfl rfl) rfl rfl rfl ?_
  refine SeqK.nil ?_
  refine AW.seq ?_
  refine AW.reg ?_
  refine SeqK.q (q_build2 (zs := [_, _, _, _]) (r := [_, _, _, _]) [(0, 1), (1, 1), (2, 1), (3, 1)] _ rfl Fx.ze116 rfl Fx.bp116 rfl rfl rfl rfl) rfl rfl rfl ?_
  refine SeqK.r (b_alloc (r := [_, _, _, _]) rfl rfl Fx.ze116 rfl rfl rfl rfl) rfl ?_
  refine SeqK.r (b_store (r := [_, _, _, _]) rfl rfl Fx.ty116 rfl rfl rfl rfl rfl rfl) rfl ?_
  refine SeqK.nil ?_
  refine AW.seq ?_
  refine AW.seq ?_
  refine AW.reg ?_
  refine SeqK.q (q_fieldL _ rfl Fx.fl44_2 rfl rfl) rfl rfl rfl ?_
  refine SeqK.r (b_load (r := .a _) rfl Fx.ty4 rfl rfl rfl rfl rfl rfl) rfl ?_
  refine SeqK.nil ?_
  refine AW.condT rfl ?_
  refine AW.reg ?_
  refine SeqK.q (q_build2 (zs := [_, _, _, _]) (r := [_, _, _, _]) [(0, 1), (1, 1), (2, 1), (3, 1)] _ rfl Fx.ze116 rfl Fx.bp116 rfl rfl rfl rfl) rfl rfl rfl ?_
  refine SeqK.r (b_store (r := [_, _, _, _]) rfl rfl Fx.ty116 rfl rfl rfl rfl rfl rfl) rfl ?_
  refine SeqK.nil ?_
  refine AW.seq ?_
  refine AW.draw Fx.mo ?_
  refine LexK.q (q_fieldL _ rfl Fx.fl44_0 rfl rfl) rfl rfl rfl ?_
  refine LexK.r (b_load (r := .a _) rfl Fx.ty3 rfl rfl rfl rfl rfl rfl) rfl ?_
  refine LexK.q (q_call _ rfl Fx.fn25 rfl (name_any _ hv hn) rfl) rfl rfl rfl ?_
  refine LexK.q (q_fieldL _ rfl Fx.fl44_1 rfl rfl) rfl rfl rfl ?_
  refine LexK.r (b_load (r := .a _) rfl Fx.ty3 rfl rfl rfl rfl rfl rfl) rfl ?_
  refine LexK.q (q_indexL _ rfl Fx.ar116 rfl rfl (by exact hk.1) (by show k.toNat < 4; omega) rfl) rfl rfl rfl ?_
  refine LexK.r (b_load (r := .a (.t (.v (.string (opB k true))))) rfl Fx.ty9 rfl rfl (by rcases k4 hk with h | h | h | h <;> rw [h] <;> rfl) (by rcases k4 hk with h | h | h | h <;> rw [h] <;> rfl) rfl rfl) rfl ?_
  refine LexK.q (q_addS rfl rfl rfl (by have q1 : (nmB v).size + (opB k true).size ≤ 1000 := (by omega); exact Nat.le_trans q1 (by decide))) rfl rfl rfl ?_
  refine LexK.q (q_fieldL _ rfl Fx.fl44_3 rfl rfl) rfl rfl rfl ?_
  refine LexK.r (b_load (r := .a _) rfl Fx.ty9 rfl rfl rfl rfl rfl rfl) rfl ?_
  refine LexK.q (q_call _ rfl Fx.fn49 rfl (quote_any _ hp hz) rfl) rfl rfl rfl ?_
  refine LexK.q (q_addS rfl rfl rfl (by have q1 : (nmB v ++ opB k true).size + (qtX u).size ≤ 1000 := (by rw [ByteArray.size_append]; omega); exact Nat.le_trans q1 (by decide))) rfl rfl rfl ?_
  refine LexK.q (q_asC rfl rfl) rfl rfl rfl ?_
  refine LexK.nil (by kernel_rfl) ?_
  refine AW.ret ?_
  exact fin_x (x := .c _) H (.tmp rfl .nil) rfl (fun _ _ h => h) ⟨rfl, rfl⟩

set_option maxRecDepth 20000 in
theorem rtestF (u : ByteArray) (hp : prnP u) (hz : u.size ≤ 16) (v k : Int) (hv : 0 ≤ v) (hn : N63 v.toNat) (hk : 0 ≤ k ∧ k ≤ 3) : Pure Tryz.prog 28 [tsC ⟨v, k, false, u⟩] (.c (sC (tsX ⟨v, k, false, u⟩))) := by
  have h1 := nmB_size hn
  have h2 := qtX_size hz
  have h3 := opB_size hk false
  intro H
  refine Spec.enter Tryz.func28 rfl ?_
  refine AW.wk (Wk.keep 20 [(0, .c (tsC ⟨v, k, false, u⟩))] [] (H) rfl ⟨rfl, trivial⟩ trivial (fun _ _ h => h) rfl) ?_
  refine AW.seq ?_
  refine AW.reg ?_
  refine SeqK.r (b_box (r := [_, _, _, _]) rfl rfl rfl rfl rfl rfl) rfl ?_
  refine SeqK.q (q_asC rfl rfl) rfl rfl rfl ?_
  refine SeqK.nil ?_
  refine AW.seq ?_
  refine AW.reg ?_
  refine SeqK.q (q_build2 (zs := [_, _, _, _]) (r := [_, _, _, _]) [(0, 1), (1, 1), (2, 1), (3, 1)] _ rfl Fx.ze116 rfl Fx.bp116 rfl rfl rfl rfl) rfl rfl rfl ?_
  refine SeqK.r (b_alloc (r := [_, _, _, _]) rfl rfl Fx.ze116 rfl rfl rfl rfl) rfl ?_
  refine SeqK.r (b_store (r := [_, _, _, _]) rfl rfl Fx.ty116 rfl rfl rfl rfl rfl rfl) rfl ?_
  refine SeqK.nil ?_
  refine AW.seq ?_
  refine AW.seq ?_
  refine AW.reg ?_
  refine SeqK.q (q_fieldL _ rfl Fx.fl44_2 rfl rfl) rfl rfl rfl ?_
  refine SeqK.r (b_load (r := .a _) rfl Fx.ty4 rfl rfl rfl rfl rfl rfl) rfl ?_
  refine SeqK.nil ?_
  refine AW.condF rfl ?_
  refine AW.skip ?_
  refine AW.seq ?_
  refine AW.draw Fx.mo ?_
  refine LexK.q (q_fieldL _ rfl Fx.fl44_0 rfl rfl) rfl rfl rfl ?_
  refine LexK.r (b_load (r := .a _) rfl Fx.ty3 rfl rfl rfl rfl rfl rfl) rfl ?_
  refine LexK.q (q_call _ rfl Fx.fn25 rfl (name_any _ hv hn) rfl) rfl rfl rfl ?_
  refine LexK.q (q_fieldL _ rfl Fx.fl44_1 rfl rfl) rfl rfl rfl ?_
  refine LexK.r (b_load (r := .a _) rfl Fx.ty3 rfl rfl rfl rfl rfl rfl) rfl ?_
  refine LexK.q (q_indexL _ rfl Fx.ar116 rfl rfl (by exact hk.1) (by show k.toNat < 4; omega) rfl) rfl rfl rfl ?_
  refine LexK.r (b_load (r := .a (.t (.v (.string (opB k false))))) rfl Fx.ty9 rfl rfl (by rcases k4 hk with h | h | h | h <;> rw [h] <;> rfl) (by rcases k4 hk with h | h | h | h <;> rw [h] <;> rfl) rfl rfl) rfl ?_
  refine LexK.q (q_addS rfl rfl rfl (by have q1 : (nmB v).size + (opB k false).size ≤ 1000 := (by omega); exact Nat.le_trans q1 (by decide))) rfl rfl rfl ?_
  refine LexK.q (q_fieldL _ rfl Fx.fl44_3 rfl rfl) rfl rfl rfl ?_
  refine LexK.r (b_load (r := .a _) rfl Fx.ty9 rfl rfl rfl rfl rfl rfl) rfl ?_
  refine LexK.q (q_call _ rfl Fx.fn49 rfl (quote_any _ hp hz) rfl) rfl rfl rfl ?_
  refine LexK.q (q_addS rfl rfl rfl (by have q1 : (nmB v ++ opB k false).size + (qtX u).size ≤ 1000 := (by rw [ByteArray.size_append]; omega); exact Nat.le_trans q1 (by decide))) rfl rfl rfl ?_
  refine LexK.q (q_asC rfl rfl) rfl rfl rfl ?_
  refine LexK.nil (by kernel_rfl) ?_
  refine AW.ret ?_
  exact fin_x (x := .c _) H (.tmp rfl .nil) rfl (fun _ _ h => h) ⟨rfl, rfl⟩

theorem rtest_any (t : Ts) (hp : prnP t.s) (hz : t.s.size ≤ 16) (hv : 0 ≤ t.v) (hn : N63 t.v.toNat) (hk : 0 ≤ t.k ∧ t.k ≤ 3) : Pure Tryz.prog 28 [tsC t] (.c (sC (tsX t))) := by
  obtain ⟨v, k, n, s⟩ := t
  cases n
  · exact rtestF s hp hz v k hv hn hk
  · exact rtestT s hp hz v k hv hn hk

end Go.Proofs.YtnmfjojhgfipcaaGreatDoor.W
namespace Go.Proofs.YtnmfjojhgfipcaaGreatDoor.W
open Go.RowKit E
set_option linter.unusedVariables false
set_option linter.unusedSimpArgs false
set_option linter.unusedSectionVars false
/-! the text of a clause -/
theorem join_snoc (l : List ByteArray) (x sep : ByteArray) : joinB (l ++ [x]) sep = if l = [] then x else joinB l sep ++ sep ++ x := by
  apply ByteArray.ext
  apply Array.toList_inj.1
  show Lib.join ((l ++ [x]).map (·.data.toList)) sep.data.toList = _
  unfold Lib.join
  by_cases h : l = []
  · rw [if_pos h, h]; simp
  · rw [if_neg h]
    have key : ∀ (s : List UInt8) (a : List (List UInt8)) (b : List UInt8), a ≠ [] → s.intercalate (a ++ [b]) = s.intercalate a ++ s ++ b := by
      intro s a b ha
      induction a with
      | nil => exact absurd rfl ha
      | cons c r ih =>
        cases r with
        | nil => simp [List.intercalate]
        | cons d r =>
          have := ih (by simp)
          simp [List.intercalate] at this ⊢
          rw [this]
    rw [List.map_append, List.map_singleton, key _ _ _ (by simpa using h)]
    simp [ByteArray.data_append, joinB, Lib.join]
theorem join_size (sep : ByteArray) (N : Nat) : ∀ l : List ByteArray, (∀ x ∈ l, x.size ≤ N) → (joinB l sep).size ≤ l.length * (N + sep.size) := by
  intro l h
  have key : ∀ k, k ≤ l.length → (joinB (l.take k) sep).size ≤ k * (N + sep.size) := by
    intro k
    induction k with
    | zero => intro _; rw [List.take_zero]; show (0 : Nat) ≤ _; omega
    | succ k ih =>
      intro hk
      have h1 := ih (by omega)
      have h2 := h l[k] (List.getElem_mem (by omega))
      rw [take_put (by omega), join_snoc, Nat.add_mul]
      split
      · omega
      · rw [ByteArray.size_append, ByteArray.size_append]; omega
  have := key l.length (Nat.le_refl _)
  rwa [List.take_length] at this

abbrev andB : ByteArray := ⟨#[32, 65, 78, 68, 32]⟩
abbrev nlX (v : Int) : ByteArray := nmB v ++ ⟨#[32, 73, 83, 32, 78, 85, 76, 76]⟩
abbrev nnX (v : Int) : ByteArray := nmB v ++ ⟨#[32, 73, 83, 32, 78, 79, 84, 32, 78, 85, 76, 76]⟩
abbrev axD (a : Ax) : ByteArray := if a.b ≠ 0 then ⟨#[100, 105, 118, 40]⟩ ++ fmtL a.f ++ ⟨#[44, 32]⟩ ++ decB a.b.toNat ++ ⟨#[41]⟩ else ⟨#[108, 101, 110, 103, 116, 104, 40]⟩ ++ nmB a.t ++ ⟨#[41]⟩
abbrev axX (n : Nat) (i : Nat) (a : Ax) : ByteArray := nmB ((n : Int) + (i : Int)) ++ ⟨#[32, 61, 32]⟩ ++ axD a
abbrev isX (k : Ct) : ByteArray := fmtL k.f ++ if k.e then ⟨#[32, 61, 32, 48]⟩ else ⟨#[32, 60, 61, 32, 48]⟩
abbrev smX (p : Int × Int) : ByteArray := nmB p.1 ++ ⟨#[32, 61, 32]⟩ ++ nmB p.2
abbrev dfX (p : Int × Int) : ByteArray := nmB p.1 ++ ⟨#[32, 60, 62, 32]⟩ ++ nmB p.2
abbrev pre1 (c : Cl) : List ByteArray := c.nl.map nlX
abbrev pre2 (c : Cl) : List ByteArray := pre1 c ++ c.nn.map nnX
abbrev pre3 (c : Cl) (n : Nat) : List ByteArray := pre2 c ++ c.ax.mapIdx (axX n)
abbrev pre4 (c : Cl) (n : Nat) : List ByteArray := pre3 c n ++ c.is.map isX
abbrev pre5 (c : Cl) (n : Nat) : List ByteArray := pre4 c n ++ c.ts.map tsX
abbrev pre6 (c : Cl) (n : Nat) : List ByteArray := pre5 c n ++ c.sm.map smX
abbrev pre7 (c : Cl) (n : Nat) : List ByteArray := pre6 c n ++ c.df.map dfX
def fmtC (c : Cl) (n : Nat) : ByteArray := if pre7 c n = [] then ⟨#[84, 82, 85, 69]⟩ else joinB (pre7 c n) andB
abbrev vOk (v : Int) : Prop := 0 ≤ v ∧ N63 v.toNat
structure okFm (c : Cl) (n : Nat) : Prop where
  nl : ∀ v ∈ c.nl, vOk v
  nn : ∀ v ∈ c.nn, vOk v
  ax : ∀ a ∈ c.ax, NumL a.f ∧ vOk a.t ∧ vOk a.b
  is : ∀ k ∈ c.is, NumL k.f
  ts : ∀ t ∈ c.ts, prnP t.s ∧ t.s.size ≤ 16 ∧ vOk t.v ∧ 0 ≤ t.k ∧ t.k ≤ 3
  sm : ∀ p ∈ c.sm, vOk p.1 ∧ vOk p.2
  df : ∀ p ∈ c.df, vOk p.1 ∧ vOk p.2
  tot : lenN c ≤ 80
  n : n ≤ 1000
theorem pre_len (c : Cl) (n : Nat) : (pre7 c n).length = lenN c := by
  unfold lenN
  simp only [pre7, pre6, pre5, pre4, pre3, pre2, pre1, List.length_append, List.length_map, List.length_mapIdx]
theorem mem_mapIdx {α β : Type} {f : Nat → α → β} {l : List α} {x : β} (h : x ∈ l.mapIdx f) : ∃ i, ∃ hi : i < l.length, x = f i l[i] := by
  obtain ⟨i, hi, e⟩ := List.mem_iff_getElem.1 h
  rw [List.length_mapIdx] at hi
  exact ⟨i, hi, by rw [← e, List.getElem_mapIdx]⟩
theorem vN {n i : Nat} (h : n ≤ 1000) (hi : i ≤ 80) : vOk ((n : Int) + (i : Int)) := ⟨by omega, by show ((n : Int) + (i : Int)).toNat < _; omega⟩
theorem axD_size {a : Ax} (h : NumL a.f) (h1 : vOk a.t) (h2 : vOk a.b) : (axD a).size ≤ 18200 := by
  have c0 : (⟨#[32, 73, 83, 32, 78, 85, 76, 76]⟩ : ByteArray).size = 8 := rfl
  have c1 : (⟨#[32, 73, 83, 32, 78, 79, 84, 32, 78, 85, 76, 76]⟩ : ByteArray).size = 12 := rfl
  have c2 : (⟨#[108, 101, 110, 103, 116, 104, 40]⟩ : ByteArray).size = 7 := rfl
  have c3 : (⟨#[41]⟩ : ByteArray).size = 1 := rfl
  have c4 : (⟨#[100, 105, 118, 40]⟩ : ByteArray).size = 4 := rfl
  have c5 : (⟨#[44, 32]⟩ : ByteArray).size = 2 := rfl
  have c6 : (⟨#[32, 61, 32]⟩ : ByteArray).size = 3 := rfl
  have c7 : (⟨#[32, 60, 61, 32, 48]⟩ : ByteArray).size = 5 := rfl
  have c8 : (⟨#[32, 61, 32, 48]⟩ : ByteArray).size = 4 := rfl
  have c9 : (⟨#[32]⟩ : ByteArray).size = 1 := rfl
  have c10 : (⟨#[32, 60, 62, 32]⟩ : ByteArray).size = 4 := rfl
  have c11 : (⟨#[32, 65, 78, 68, 32]⟩ : ByteArray).size = 5 := rfl
  have c12 : (⟨#[32, 61, 32, 108, 101, 110, 103, 116, 104, 40]⟩ : ByteArray).size = 10 := rfl
  have c13 : (⟨#[32, 61, 32, 100, 105, 118, 40]⟩ : ByteArray).size = 7 := rfl
  have k1 := fmtL_size h
  have k2 := nmB_size h1.2
  have k3 := decB_size h2.2
  unfold axD
  split
  · simp only [ByteArray.size_append]; omega
  · simp only [ByteArray.size_append]; omega
theorem line_size {c : Cl} {n : Nat} (h : okFm c n) : ∀ x ∈ pre7 c n, x.size ≤ 20000 := by
  have c0 : (⟨#[32, 73, 83, 32, 78, 85, 76, 76]⟩ : ByteArray).size = 8 := rfl
  have c1 : (⟨#[32, 73, 83, 32, 78, 79, 84, 32, 78, 85, 76, 76]⟩ : ByteArray).size = 12 := rfl
  have c2 : (⟨#[108, 101, 110, 103, 116, 104, 40]⟩ : ByteArray).size = 7 := rfl
  have c3 : (⟨#[41]⟩ : ByteArray).size = 1 := rfl
  have c4 : (⟨#[100, 105, 118, 40]⟩ : ByteArray).size = 4 := rfl
  have c5 : (⟨#[44, 32]⟩ : ByteArray).size = 2 := rfl
  have c6 : (⟨#[32, 61, 32]⟩ : ByteArray).size = 3 := rfl
  have c7 : (⟨#[32, 60, 61, 32, 48]⟩ : ByteArray).size = 5 := rfl
  have c8 : (⟨#[32, 61, 32, 48]⟩ : ByteArray).size = 4 := rfl
  have c9 : (⟨#[32]⟩ : ByteArray).size = 1 := rfl
  have c10 : (⟨#[32, 60, 62, 32]⟩ : ByteArray).size = 4 := rfl
  have c11 : (⟨#[32, 65, 78, 68, 32]⟩ : ByteArray).size = 5 := rfl
  have c12 : (⟨#[32, 61, 32, 108, 101, 110, 103, 116, 104, 40]⟩ : ByteArray).size = 10 := rfl
  have c13 : (⟨#[32, 61, 32, 100, 105, 118, 40]⟩ : ByteArray).size = 7 := rfl
  intro x hx
  have ht := h.tot
  unfold lenN at ht
  simp only [pre7, pre6, pre5, pre4, pre3, pre2, pre1, List.mem_append, List.mem_map] at hx
  rcases hx with (((((⟨v, hv, rfl⟩ | ⟨v, hv, rfl⟩) | hx) | ⟨k, hk, rfl⟩) | ⟨t, ht, rfl⟩) | ⟨p, hp, rfl⟩) | ⟨p, hp, rfl⟩
  · have := nmB_size (h.nl v hv).2; simp only [nlX, ByteArray.size_append] at *; omega
  · have := nmB_size (h.nn v hv).2; simp only [nnX, ByteArray.size_append] at *; omega
  · obtain ⟨i, hi, rfl⟩ := mem_mapIdx hx
    obtain ⟨q1, q2, q3⟩ := h.ax _ (List.getElem_mem hi)
    have h1 := axD_size q1 q2 q3
    have h2 := nmB_size (vN (i := i) h.n (by omega)).2
    simp only [axX, ByteArray.size_append] at *; omega
  · have := fmtL_size (h.is k hk); simp only [isX, ByteArray.size_append]; split <;> omega
  · obtain ⟨q1, q2, q3, q4⟩ := h.ts t ht
    have h1 := nmB_size q3.2
    have h2 := opB_size q4 t.n
    have h3 := qtX_size q2
    have e : (tsX t).size = (nmB t.v).size + (opB t.k t.n).size + (qtX t.s).size := by rw [tsX, ByteArray.size_append, ByteArray.size_append]
    omega
  · have h1 := nmB_size (h.sm p hp).1.2; have h2 := nmB_size (h.sm p hp).2.2; simp only [smX, ByteArray.size_append] at *; omega
  · have h1 := nmB_size (h.df p hp).1.2; have h2 := nmB_size (h.df p hp).2.2; simp only [dfX, ByteArray.size_append] at *; omega
theorem all_size {c : Cl} {n : Nat} (h : okFm c n) (k : Nat) : (joinB ((pre7 c n).take k) andB).size ≤ 2000000 := by
  have h1 := join_size andB 20000 ((pre7 c n).take k) (fun x hx => line_size h x (List.mem_of_mem_take hx))
  have h2 := pre_len c n
  have h3 := h.tot
  have e : andB.size = 5 := rfl
  have h4 : ((pre7 c n).take k).length ≤ 80 := by rw [List.length_take]; omega
  have h5 := Nat.mul_le_mul_right (20000 + andB.size) h4
  omega
theorem join_any (l : List ByteArray) (z : Nz) (hN : l.length ≤ 1000) (hl : (joinB l andB).size ≤ 10000000) : Pure Tryz.prog 24 [.a (.t (.sl z 1 (l.map txT))), sC andB] (.c (sC (joinB l andB))) :=
  Pure.join (fun a c sep w => Tryz.strings_Join_none a c sep w) (fun bk o c xs sep w h1 h2 h3 h4 h5 => Tryz.strings_Join bk o c xs sep w h1 h2 h3 h4 h5) z l andB (by omega) (by omega)
theorem idx_take {α β : Type} {f : Nat → α → β} {l : List α} {i : Nat} (hi : i < l.length) : (l.take (i + 1)).mapIdx f = (l.take i).mapIdx f ++ [f i l[i]] := by
  rw [take_put hi, List.mapIdx_concat, List.length_take, Nat.min_eq_left (by omega)]

set_option maxHeartbeats 8000000 in
set_option maxRecDepth 20000 in
theorem format_any (c : Cl) (n : Nat) (hF : okFm c n) : Pure Tryz.prog 8 [clC c, iC (n : Int)] (.c (sC (fmtC c n))) := by
  have c0 : (⟨#[32, 73, 83, 32, 78, 85, 76, 76]⟩ : ByteArray).size = 8 := rfl
  have c1 : (⟨#[32, 73, 83, 32, 78, 79, 84, 32, 78, 85, 76, 76]⟩ : ByteArray).size = 12 := rfl
  have c2 : (⟨#[108, 101, 110, 103, 116, 104, 40]⟩ : ByteArray).size = 7 := rfl
  have c3 : (⟨#[41]⟩ : ByteArray).size = 1 := rfl
  have c4 : (⟨#[100, 105, 118, 40]⟩ : ByteArray).size = 4 := rfl
  have c5 : (⟨#[44, 32]⟩ : ByteArray).size = 2 := rfl
  have c6 : (⟨#[32, 61, 32]⟩ : ByteArray).size = 3 := rfl
  have c7 : (⟨#[32, 60, 61, 32, 48]⟩ : ByteArray).size = 5 := rfl
  have c8 : (⟨#[32, 61, 32, 48]⟩ : ByteArray).size = 4 := rfl
  have c9 : (⟨#[32]⟩ : ByteArray).size = 1 := rfl
  have c10 : (⟨#[32, 60, 62, 32]⟩ : ByteArray).size = 4 := rfl
  have c11 : (⟨#[32, 65, 78, 68, 32]⟩ : ByteArray).size = 5 := rfl
  have c12 : (⟨#[32, 61, 32, 108, 101, 110, 103, 116, 104, 40]⟩ : ByteArray).size = 10 := rfl
  have c13 : (⟨#[32, 61, 32, 100, 105, 118, 40]⟩ : ByteArray).size = 7 := rfl
  have hn := hF.n
  have hN0 := hF.tot
  have hN : lenN c = c.nl.length + c.nn.length + c.ax.length + c.is.length + c.ts.length + c.sm.length + c.df.length := rfl
  intro H
  refine Spec.enter Tryz.func8 rfl ?_
  refine AW.wk (Wk.keep 172 [(0, .c (clC c)), (1, .c (iC (n : Int)))] [] (H) rfl ⟨rfl, rfl, trivial⟩ trivial (fun _ _ h => h) rfl) ?_
  refine AW.seq ?_
  refine AW.reg ?_
  refine SeqK.r (b_box (r := [_, _, _, _, _, _, _]) rfl rfl rfl rfl rfl rfl) rfl ?_
  refine SeqK.q (q_asC rfl rfl) rfl rfl rfl ?_
  refine SeqK.nil ?_
  refine AW.seq ?_
  refine AW.reg ?_
  refine SeqK.q (q_asC rfl rfl) rfl rfl rfl ?_
  refine SeqK.nil ?_
  refine AW.seq ?_
  refine AW.seq ?_
  refine AW.tip 5 9 1 rfl (fun k0 hk0 => ?_)
  refine AW.reg ?_
  refine SeqK.q (q_fieldL _ rfl Fx.fl28_0 rfl rfl) rfl rfl rfl ?_
  refine SeqK.r (b_load (r := .a _) rfl Fx.ty22 rfl rfl rfl rfl rfl rfl) rfl ?_
  refine SeqK.q (q_len rfl Fx.un22 rfl) rfl rfl rfl ?_
  refine SeqK.q (q_mvC rfl rfl) rfl rfl rfl ?_
  refine SeqK.nil ?_
  refine AW.block ?_
  refine AW.loop (fun (i : Nat) s => ∃ (kt : Nat) (zs : List (List E.T)), (i ≤ c.nl.length ∧ H kt = none ∧ zs = (([] : List ByteArray) ++ (c.nl.take i).map nlX).map txT) ∧ s = ⟨172, sp [(1, .c (iC (n : Int))), (2, .lp 2 0), (4, .c (sC ⟨#[]⟩)), (5, .c (.a (.ts kt .ne 1 zs))), (23, .c (iL .un c.nl)), (24, iX .i64 (((c.nl.map i64T).length : Nat) : Int)), (25, iX .i64 ((i : Nat) : Int))], lv [(2, .box [.t (.sl .un 1 (c.nl.map i64T)), .t (.sl .un 1 (c.nn.map i64T)), .t (.sl .un 4 (c.ax.map axT)), .t (.sl .un 3 (c.is.map ctT)), .t (.sl .un 4 (c.ts.map tsT)), .t (.sl .un 2 (c.sm.map prT)), .t (.sl .un 2 (c.df.map prT))])], upd H kt (some (.tip 9 1 zs.length))⟩) (fun i => c.nl.length - i) 0 ⟨_, Wk.keep 172 [(1, .c (iC (n : Int))), (2, .lp 2 0), (4, .c (sC ⟨#[]⟩)), (5, .c (.a (.ts (k0) .ne 1 ([])))), (23, .c (iL .un c.nl)), (24, iX .i64 (((c.nl.map i64T).length : Nat) : Int)), (25, iX .i64 ((((0 : Nat)) : Nat) : Int))] [(2, .box [.t (.sl .un 1 (c.nl.map i64T)), .t (.sl .un 1 (c.nn.map i64T)), .t (.sl .un 4 (c.ax.map axT)), .t (.sl .un 3 (c.is.map ctT)), .t (.sl .un 4 (c.ts.map tsT)), .t (.sl .un 2 (c.sm.map prT)), .t (.sl .un 2 (c.df.map prT))])] (upd H (k0) (some (.tip 9 1 ([]).length))) rfl ⟨rfl, rfl, rfl, rfl, rfl, rfl, rfl, trivial⟩ ⟨rfl, trivial⟩ (fun _ _ h => h) rfl, k0, [], ⟨Nat.zero_le _, hk0, by simp⟩, rfl⟩ (fun i s hs => ?_)
  obtain ⟨kt, zs, ⟨hi0, hkt, hzs⟩, rfl⟩ := hs
  refine AW.seq ?_
  refine AW.reg ?_
  refine SeqK.q (q_lss rfl rfl rfl) rfl rfl rfl ?_
  refine SeqK.nil ?_
  refine AW.seq ?_
  refine AW.condD rfl (fun h26 => ?_) (fun h26 => ?_)
  ·
    have hi : i < c.nl.length := by rw [List.length_map] at h26; omega
    have hm := List.getElem_mem hi
    have hq := hF.nl _ hm
    have hs1 := nmB_size hq.2
    refine AW.skip ?_
    refine AW.seq ?_
    refine AW.block ?_
    refine AW.seq ?_
    refine AW.reg ?_
    refine SeqK.q (q_index _ rfl Fx.sl22 rfl rfl (by omega) (idx_map (f := i64T) hi)) rfl rfl rfl ?_
    refine SeqK.q (q_load (.a _) rfl Fx.ty3 rfl rfl rfl) rfl rfl rfl ?_
    refine SeqK.q (q_asC rfl rfl) rfl rfl rfl ?_
    refine SeqK.nil ?_
    refine AW.reg ?_
    refine SeqK.q (q_mvC rfl rfl) rfl rfl rfl ?_
    refine SeqK.q (q_mvC rfl rfl) rfl rfl rfl ?_
    refine SeqK.q (q_call _ rfl Fx.fn18 rfl (variable_any _ hq.1 hq.2) rfl) rfl rfl rfl ?_
    refine SeqK.q (q_addS rfl rfl rfl (by first | omega | (simp only [ByteArray.size_append]; omega))) rfl rfl rfl ?_
    refine SeqK.q (q_buildSlice _ rfl Fx.el73 rfl (by decide) rfl) rfl rfl rfl ?_
    refine SeqK.app1 rfl (hkt) rfl Fx.el73 rfl rfl (by have hN := hF.tot; unfold lenN at hN; simp [hzs, pre7, pre6, pre5, pre4, pre3, pre2, pre1]; omega) rfl rfl (fun k34 hk34 => ?_)
    refine SeqK.q (q_asC rfl rfl) rfl rfl rfl ?_
    refine SeqK.nil ?_
    refine AW.reg ?_
    refine SeqK.q (q_add _ rfl rfl rfl (w64 (by omega) (by omega))) rfl rfl rfl ?_
    refine SeqK.q (q_mvC rfl rfl) rfl rfl rfl ?_
    refine SeqK.nil ?_
    exact ⟨i + 1, _, Wk.keep 172 [(1, .c (iC (n : Int))), (2, .lp 2 0), (4, .c (sC ⟨#[]⟩)), (5, .c (.a (.ts (k34) .ne 1 (zs ++ [txT (nlX c.nl[i])])))), (23, .c (iL .un c.nl)), (24, iX .i64 (((c.nl.map i64T).length : Nat) : Int)), (25, iX .i64 (((i + 1) : Nat) : Int))] [(2, .box [.t (.sl .un 1 (c.nl.map i64T)), .t (.sl .un 1 (c.nn.map i64T)), .t (.sl .un 4 (c.ax.map axT)), .t (.sl .un 3 (c.is.map ctT)), .t (.sl .un 4 (c.ts.map tsT)), .t (.sl .un 2 (c.sm.map prT)), .t (.sl .un 2 (c.df.map prT))])] (upd H (k34) (some (.tip 9 1 (zs ++ [txT (nlX c.nl[i])]).length))) rfl ⟨rfl, rfl, rfl, rfl, rfl, rfl, rfl, trivial⟩ ⟨rfl, trivial⟩ (fun _ _ h => h) rfl, by omega, k34, zs ++ [txT (nlX c.nl[i])], ⟨hi, hk34, by rw [hzs, take_put hi]; simp only [List.map_append, List.map_cons, List.map_nil]; simp only [List.append_assoc, List.map_nil, List.nil_append]⟩, rfl⟩
  ·
    refine AW.exit ?_
    refine eth_e ?_
    refine eth_e ?_
    refine exit_here ?_
    refine AW.seq ?_
    refine AW.seq ?_
    obtain rfl : i = c.nl.length := by rw [List.length_map] at h26; omega
    rw [List.take_length] at hzs
    have hzs : zs = (pre1 c).map txT := by rw [hzs]; rfl
    refine AW.reg ?_
    refine SeqK.q (q_fieldL _ rfl Fx.fl28_1 rfl rfl) rfl rfl rfl ?_
    refine SeqK.r (b_load (r := .a _) rfl Fx.ty22 rfl rfl rfl rfl rfl rfl) rfl ?_
    refine SeqK.q (q_len rfl Fx.un22 rfl) rfl rfl rfl ?_
    refine SeqK.q (q_mvC rfl rfl) rfl rfl rfl ?_
    refine SeqK.nil ?_
    refine AW.block ?_
    refine AW.loop (fun (i : Nat) s => ∃ (kt : Nat) (zs : List (List E.T)), (i ≤ c.nn.length ∧ H kt = none ∧ zs = (pre1 c ++ (c.nn.take i).map nnX).map txT) ∧ s = ⟨172, sp [(1, .c (iC (n : Int))), (2, .lp 2 0), (4, .c (sC ⟨#[]⟩)), (5, .c (.a (.ts kt .ne 1 zs))), (37, .c (iL .un c.nn)), (38, iX .i64 (((c.nn.map i64T).length : Nat) : Int)), (39, iX .i64 ((i : Nat) : Int))], lv [(2, .box [.t (.sl .un 1 (c.nl.map i64T)), .t (.sl .un 1 (c.nn.map i64T)), .t (.sl .un 4 (c.ax.map axT)), .t (.sl .un 3 (c.is.map ctT)), .t (.sl .un 4 (c.ts.map tsT)), .t (.sl .un 2 (c.sm.map prT)), .t (.sl .un 2 (c.df.map prT))])], upd H kt (some (.tip 9 1 zs.length))⟩) (fun i => c.nn.length - i) 0 ⟨_, Wk.keep 172 [(1, .c (iC (n : Int))), (2, .lp 2 0), (4, .c (sC ⟨#[]⟩)), (5, .c (.a (.ts (kt) .ne 1 (zs)))), (37, .c (iL .un c.nn)), (38, iX .i64 (((c.nn.map i64T).length : Nat) : Int)), (39, iX .i64 ((((0 : Nat)) : Nat) : Int))] [(2, .box [.t (.sl .un 1 (c.nl.map i64T)), .t (.sl .un 1 (c.nn.map i64T)), .t (.sl .un 4 (c.ax.map axT)), .t (.sl .un 3 (c.is.map ctT)), .t (.sl .un 4 (c.ts.map tsT)), .t (.sl .un 2 (c.sm.map prT)), .t (.sl .un 2 (c.df.map prT))])] (upd H (kt) (some (.tip 9 1 (zs).length))) rfl ⟨rfl, rfl, rfl, rfl, rfl, rfl, rfl, trivial⟩ ⟨rfl, trivial⟩ (fun _ _ h => h) rfl, kt, zs, ⟨Nat.zero_le _, hkt, by rw [hzs, List.take_zero]; simp⟩, rfl⟩ (fun i s hs => ?_)
    obtain ⟨kt, zs, ⟨hi0, hkt, hzs⟩, rfl⟩ := hs
    refine AW.seq ?_
    refine AW.reg ?_
    refine SeqK.q (q_lss rfl rfl rfl) rfl rfl rfl ?_
    refine SeqK.nil ?_
    refine AW.seq ?_
    refine AW.condD rfl (fun h40 => ?_) (fun h40 => ?_)
    ·
      have hi : i < c.nn.length := by rw [List.length_map] at h40; omega
      have hm := List.getElem_mem hi
      have hq := hF.nn _ hm
      have hs1 := nmB_size hq.2
      refine AW.skip ?_
      refine AW.seq ?_
      refine AW.block ?_
      refine AW.seq ?_
      refine AW.reg ?_
      refine SeqK.q (q_index _ rfl Fx.sl22 rfl rfl (by omega) (idx_map (f := i64T) hi)) rfl rfl rfl ?_
      refine SeqK.q (q_load (.a _) rfl Fx.ty3 rfl rfl rfl) rfl rfl rfl ?_
      refine SeqK.q (q_asC rfl rfl) rfl rfl rfl ?_
      refine SeqK.nil ?_
      refine AW.reg ?_
      refine SeqK.q (q_mvC rfl rfl) rfl rfl rfl ?_
      refine SeqK.q (q_mvC rfl rfl) rfl rfl rfl ?_
      refine SeqK.q (q_call _ rfl Fx.fn18 rfl (variable_any _ hq.1 hq.2) rfl) rfl rfl rfl ?_
      refine SeqK.q (q_addS rfl rfl rfl (by first | omega | (simp only [ByteArray.size_append]; omega))) rfl rfl rfl ?_
      refine SeqK.q (q_buildSlice _ rfl Fx.el73 rfl (by decide) rfl) rfl rfl rfl ?_
      refine SeqK.app1 rfl (hkt) rfl Fx.el73 rfl rfl (by have hN := hF.tot; unfold lenN at hN; simp [hzs, pre7, pre6, pre5, pre4, pre3, pre2, pre1]; omega) rfl rfl (fun k48 hk48 => ?_)
      refine SeqK.q (q_asC rfl rfl) rfl rfl rfl ?_
      refine SeqK.nil ?_
      refine AW.reg ?_
      refine SeqK.q (q_add _ rfl rfl rfl (w64 (by omega) (by omega))) rfl rfl rfl ?_
      refine SeqK.q (q_mvC rfl rfl) rfl rfl rfl ?_
      refine SeqK.nil ?_
      exact ⟨i + 1, _, Wk.keep 172 [(1, .c (iC (n : Int))), (2, .lp 2 0), (4, .c (sC ⟨#[]⟩)), (5, .c (.a (.ts (k48) .ne 1 (zs ++ [txT (nnX c.nn[i])])))), (37, .c (iL .un c.nn)), (38, iX .i64 (((c.nn.map i64T).length : Nat) : Int)), (39, iX .i64 (((i + 1) : Nat) : Int))] [(2, .box [.t (.sl .un 1 (c.nl.map i64T)), .t (.sl .un 1 (c.nn.map i64T)), .t (.sl .un 4 (c.ax.map axT)), .t (.sl .un 3 (c.is.map ctT)), .t (.sl .un 4 (c.ts.map tsT)), .t (.sl .un 2 (c.sm.map prT)), .t (.sl .un 2 (c.df.map prT))])] (upd H (k48) (some (.tip 9 1 (zs ++ [txT (nnX c.nn[i])]).length))) rfl ⟨rfl, rfl, rfl, rfl, rfl, rfl, rfl, trivial⟩ ⟨rfl, trivial⟩ (fun _ _ h => h) rfl, by omega, k48, zs ++ [txT (nnX c.nn[i])], ⟨hi, hk48, by rw [hzs, take_put hi]; simp only [List.map_append, List.map_cons, List.map_nil]; simp only [List.append_assoc, List.map_nil, List.nil_append]⟩, rfl⟩
    ·
      refine AW.exit ?_
      refine eth_e ?_
      refine eth_e ?_
      refine exit_here ?_
      refine AW.seq ?_
      refine AW.seq ?_
      obtain rfl : i = c.nn.length := by rw [List.length_map] at h40; omega
      rw [List.take_length] at hzs
      have hzs : zs = (pre2 c).map txT := hzs
      refine AW.reg ?_
      refine SeqK.q (q_fieldL _ rfl Fx.fl28_2 rfl rfl) rfl rfl rfl ?_
      refine SeqK.r (b_load (r := .a _) rfl Fx.ty23 rfl rfl rfl rfl rfl rfl) rfl ?_
      refine SeqK.q (q_len rfl Fx.un23 rfl) rfl rfl rfl ?_
      refine SeqK.q (q_mvC rfl rfl) rfl rfl rfl ?_
      refine SeqK.nil ?_
      refine AW.block ?_
      refine AW.loop (fun (i : Nat) s => ∃ (kt : Nat) (zs : List (List E.T)), (i ≤ c.ax.length ∧ H kt = none ∧ zs = (pre2 c ++ (c.ax.take i).mapIdx (axX n)).map txT) ∧ s = ⟨172, sp [(1, .c (iC (n : Int))), (2, .lp 2 0), (4, .c (sC ⟨#[]⟩)), (5, .c (.a (.ts kt .ne 1 zs))), (51, .c (axsC .un c.ax)), (52, iX .i64 (((c.ax.map axT).length : Nat) : Int)), (53, iX .i64 ((i : Nat) : Int))], lv [(2, .box [.t (.sl .un 1 (c.nl.map i64T)), .t (.sl .un 1 (c.nn.map i64T)), .t (.sl .un 4 (c.ax.map axT)), .t (.sl .un 3 (c.is.map ctT)), .t (.sl .un 4 (c.ts.map tsT)), .t (.sl .un 2 (c.sm.map prT)), .t (.sl .un 2 (c.df.map prT))])], upd H kt (some (.tip 9 1 zs.length))⟩) (fun i => c.ax.length - i) 0 ⟨_, Wk.keep 172 [(1, .c (iC (n : Int))), (2, .lp 2 0), (4, .c (sC ⟨#[]⟩)), (5, .c (.a (.ts (kt) .ne 1 (zs)))), (51, .c (axsC .un c.ax)), (52, iX .i64 (((c.ax.map axT).length : Nat) : Int)), (53, iX .i64 ((((0 : Nat)) : Nat) : Int))] [(2, .box [.t (.sl .un 1 (c.nl.map i64T)), .t (.sl .un 1 (c.nn.map i64T)), .t (.sl .un 4 (c.ax.map axT)), .t (.sl .un 3 (c.is.map ctT)), .t (.sl .un 4 (c.ts.map tsT)), .t (.sl .un 2 (c.sm.map prT)), .t (.sl .un 2 (c.df.map prT))])] (upd H (kt) (some (.tip 9 1 (zs).length))) rfl ⟨rfl, rfl, rfl, rfl, rfl, rfl, rfl, trivial⟩ ⟨rfl, trivial⟩ (fun _ _ h => h) rfl, kt, zs, ⟨Nat.zero_le _, hkt, by rw [hzs, List.take_zero]; simp⟩, rfl⟩ (fun i s hs => ?_)
      obtain ⟨kt, zs, ⟨hi0, hkt, hzs⟩, rfl⟩ := hs
      refine AW.seq ?_
      refine AW.reg ?_
      refine SeqK.q (q_lss rfl rfl rfl) rfl rfl rfl ?_
      refine SeqK.nil ?_
      refine AW.seq ?_
      refine AW.condD rfl (fun h54 => ?_) (fun h54 => ?_)
      ·
        have hi : i < c.ax.length := by rw [List.length_map] at h54; omega
        have hm := List.getElem_mem hi
        have hq := hF.ax _ hm
        have hs1 := nmB_size hq.2.1.2
        have hvn := vN (i := i) hn (by omega)
        have hs2 := nmB_size hvn.2
        have hs3 := fmtL_size hq.1
        have hs4 := decB_size hq.2.2.2
        refine AW.skip ?_
        refine AW.seq ?_
        refine AW.block ?_
        refine AW.seq ?_
        refine AW.reg ?_
        refine SeqK.q (q_mvC rfl rfl) rfl rfl rfl ?_
        refine SeqK.q (q_index _ rfl Fx.sl23 rfl rfl (by omega) (idx_map (f := axT) hi)) rfl rfl rfl ?_
        refine SeqK.q (q_load (.g [_, _, _, _]) rfl Fx.ty63 rfl rfl rfl) rfl rfl rfl ?_
        refine SeqK.r (b_alloc (r := [_, _, _, _]) rfl rfl Fx.ze63 rfl rfl rfl rfl) rfl ?_
        refine SeqK.q (q_asC rfl rfl) rfl rfl rfl ?_
        refine SeqK.r (b_store (r := [_, _, _, _]) rfl rfl Fx.ty63 rfl rfl rfl rfl rfl rfl) rfl ?_
        refine SeqK.nil ?_
        refine AW.seq ?_
        refine AW.reg ?_
        refine SeqK.q (q_fieldL _ rfl Fx.fl63_2 rfl rfl) rfl rfl rfl ?_
        refine SeqK.r (b_load (r := .a _) rfl Fx.ty3 rfl rfl rfl rfl rfl rfl) rfl ?_
        refine SeqK.q (q_call _ rfl Fx.fn18 rfl (variable_any _ hq.2.1.1 hq.2.1.2) rfl) rfl rfl rfl ?_
        refine SeqK.q (q_addS rfl rfl rfl (by first | omega | (simp only [ByteArray.size_append]; omega))) rfl rfl rfl ?_
        refine SeqK.q (q_addS rfl rfl rfl (by first | omega | (simp only [ByteArray.size_append]; omega))) rfl rfl rfl ?_
        refine SeqK.q (q_asC rfl rfl) rfl rfl rfl ?_
        refine SeqK.nil ?_
        refine AW.seq ?_
        refine AW.seq ?_
        refine AW.reg ?_
        refine SeqK.q (q_fieldL _ rfl Fx.fl63_1 rfl rfl) rfl rfl rfl ?_
        refine SeqK.r (b_load (r := .a _) rfl Fx.ty2 rfl rfl rfl rfl rfl rfl) rfl ?_
        refine SeqK.q (q_neq rfl rfl rfl) rfl rfl rfl ?_
        refine SeqK.nil ?_
        refine AW.condD rfl (fun h65 => ?_) (fun h65 => ?_)
        ·
          refine AW.draw Fx.mo ?_
          refine LexK.q (q_fieldL _ rfl Fx.fl63_0 rfl rfl) rfl rfl rfl ?_
          refine LexK.r (b_load (r := .g [_, _]) rfl Fx.ty61 rfl rfl rfl rfl rfl rfl) rfl ?_
          refine LexK.q (q_call _ rfl Fx.fn19 rfl (formatLinear_any _ hq.1) rfl) rfl rfl rfl ?_
          refine LexK.q (q_addS rfl rfl rfl (by first | omega | (simp only [ByteArray.size_append]; omega))) rfl rfl rfl ?_
          refine LexK.q (q_addS rfl rfl rfl (by first | omega | (simp only [ByteArray.size_append]; omega))) rfl rfl rfl ?_
          refine LexK.q (q_fieldL _ rfl Fx.fl63_1 rfl rfl) rfl rfl rfl ?_
          refine LexK.r (b_load (r := .a _) rfl Fx.ty2 rfl rfl rfl rfl rfl rfl) rfl ?_
          refine LexK.q (q_call _ rfl Fx.fn20 rfl (fintI hq.2.2.1 hq.2.2.2) rfl) rfl rfl rfl ?_
          refine LexK.q (q_addS rfl rfl rfl (by first | omega | (simp only [ByteArray.size_append]; omega))) rfl rfl rfl ?_
          refine LexK.q (q_addS rfl rfl rfl (by first | omega | (simp only [ByteArray.size_append]; omega))) rfl rfl rfl ?_
          refine LexK.q (q_asC rfl rfl) rfl rfl rfl ?_
          refine LexK.nil (by kernel_rfl) ?_
          refine AW.reg ?_
          refine SeqK.q (q_mvC rfl rfl) rfl rfl rfl ?_
          refine SeqK.q (q_mvC rfl rfl) rfl rfl rfl ?_
          refine SeqK.q (q_mvC rfl rfl) rfl rfl rfl ?_
          refine SeqK.q (q_add _ rfl rfl rfl (w64 (by omega) (by omega))) rfl rfl rfl ?_
          refine SeqK.q (q_call _ rfl Fx.fn18 rfl (variable_any _ hvn.1 hvn.2) rfl) rfl rfl rfl ?_
          refine SeqK.q (q_addS rfl rfl rfl (by first | omega | (simp only [ByteArray.size_append]; omega))) rfl rfl rfl ?_
          refine SeqK.q (q_mvC rfl rfl) rfl rfl rfl ?_
          refine SeqK.q (q_addS rfl rfl rfl (by first | omega | (simp only [ByteArray.size_append]; omega))) rfl rfl rfl ?_
          refine SeqK.q (q_buildSlice _ rfl Fx.el73 rfl (by decide) rfl) rfl rfl rfl ?_
          refine SeqK.app1 rfl (hkt) rfl Fx.el73 rfl rfl (by have hN := hF.tot; unfold lenN at hN; simp [hzs, pre7, pre6, pre5, pre4, pre3, pre2, pre1]; omega) rfl rfl (fun k85 hk85 => ?_)
          refine SeqK.q (q_asC rfl rfl) rfl rfl rfl ?_
          refine SeqK.nil ?_
          refine AW.reg ?_
          refine SeqK.q (q_add _ rfl rfl rfl (w64 (by omega) (by omega))) rfl rfl rfl ?_
          refine SeqK.q (q_mvC rfl rfl) rfl rfl rfl ?_
          refine SeqK.nil ?_
          exact ⟨i + 1, _, Wk.keep 172 [(1, .c (iC (n : Int))), (2, .lp 2 0), (4, .c (sC ⟨#[]⟩)), (5, .c (.a (.ts (k85) .ne 1 (zs ++ [txT (nmB ((n : Int) + (i : Int)) ++ ⟨#[32, 61, 32]⟩ ++ (⟨#[100, 105, 118, 40]⟩ ++ fmtL c.ax[i].f ++ ⟨#[44, 32]⟩ ++ decB c.ax[i].b.toNat ++ ⟨#[41]⟩))])))), (51, .c (axsC .un c.ax)), (52, iX .i64 (((c.ax.map axT).length : Nat) : Int)), (53, iX .i64 (((i + 1) : Nat) : Int))] [(2, .box [.t (.sl .un 1 (c.nl.map i64T)), .t (.sl .un 1 (c.nn.map i64T)), .t (.sl .un 4 (c.ax.map axT)), .t (.sl .un 3 (c.is.map ctT)), .t (.sl .un 4 (c.ts.map tsT)), .t (.sl .un 2 (c.sm.map prT)), .t (.sl .un 2 (c.df.map prT))])] (upd H (k85) (some (.tip 9 1 (zs ++ [txT (nmB ((n : Int) + (i : Int)) ++ ⟨#[32, 61, 32]⟩ ++ (⟨#[100, 105, 118, 40]⟩ ++ fmtL c.ax[i].f ++ ⟨#[44, 32]⟩ ++ decB c.ax[i].b.toNat ++ ⟨#[41]⟩))]).length))) rfl ⟨rfl, rfl, rfl, rfl, rfl, rfl, rfl, trivial⟩ ⟨rfl, trivial⟩ (fun _ _ h => h) rfl, by omega, k85, zs ++ [txT (nmB ((n : Int) + (i : Int)) ++ ⟨#[32, 61, 32]⟩ ++ (⟨#[100, 105, 118, 40]⟩ ++ fmtL c.ax[i].f ++ ⟨#[44, 32]⟩ ++ decB c.ax[i].b.toNat ++ ⟨#[41]⟩))], ⟨hi, hk85, by rw [hzs, idx_take hi]; simp only [List.map_append, List.map_cons, List.map_nil]; rw [axX, axD, if_pos h65]; simp only [List.append_assoc, List.map_nil, List.nil_append]⟩, rfl⟩
        ·
          refine AW.skip ?_
          refine AW.reg ?_
          refine SeqK.q (q_mvC rfl rfl) rfl rfl rfl ?_
          refine SeqK.q (q_mvC rfl rfl) rfl rfl rfl ?_
          refine SeqK.q (q_mvC rfl rfl) rfl rfl rfl ?_
          refine SeqK.q (q_add _ rfl rfl rfl (w64 (by omega) (by omega))) rfl rfl rfl ?_
          refine SeqK.q (q_call _ rfl Fx.fn18 rfl (variable_any _ hvn.1 hvn.2) rfl) rfl rfl rfl ?_
          refine SeqK.q (q_addS rfl rfl rfl (by first | omega | (simp only [ByteArray.size_append]; omega))) rfl rfl rfl ?_
          refine SeqK.q (q_mvC rfl rfl) rfl rfl rfl ?_
          refine SeqK.q (q_addS rfl rfl rfl (by first | omega | (simp only [ByteArray.size_append]; omega))) rfl rfl rfl ?_
          refine SeqK.q (q_buildSlice _ rfl Fx.el73 rfl (by decide) rfl) rfl rfl rfl ?_
          refine SeqK.app1 rfl (hkt) rfl Fx.el73 rfl rfl (by have hN := hF.tot; unfold lenN at hN; simp [hzs, pre7, pre6, pre5, pre4, pre3, pre2, pre1]; omega) rfl rfl (fun k85 hk85 => ?_)
          refine SeqK.q (q_asC rfl rfl) rfl rfl rfl ?_
          refine SeqK.nil ?_
          refine AW.reg ?_
          refine SeqK.q (q_add _ rfl rfl rfl (w64 (by omega) (by omega))) rfl rfl rfl ?_
          refine SeqK.q (q_mvC rfl rfl) rfl rfl rfl ?_
          refine SeqK.nil ?_
          exact ⟨i + 1, _, Wk.keep 172 [(1, .c (iC (n : Int))), (2, .lp 2 0), (4, .c (sC ⟨#[]⟩)), (5, .c (.a (.ts (k85) .ne 1 (zs ++ [txT (nmB ((n : Int) + (i : Int)) ++ ⟨#[32, 61, 32]⟩ ++ (⟨#[108, 101, 110, 103, 116, 104, 40]⟩ ++ nmB c.ax[i].t ++ ⟨#[41]⟩))])))), (51, .c (axsC .un c.ax)), (52, iX .i64 (((c.ax.map axT).length : Nat) : Int)), (53, iX .i64 (((i + 1) : Nat) : Int))] [(2, .box [.t (.sl .un 1 (c.nl.map i64T)), .t (.sl .un 1 (c.nn.map i64T)), .t (.sl .un 4 (c.ax.map axT)), .t (.sl .un 3 (c.is.map ctT)), .t (.sl .un 4 (c.ts.map tsT)), .t (.sl .un 2 (c.sm.map prT)), .t (.sl .un 2 (c.df.map prT))])] (upd H (k85) (some (.tip 9 1 (zs ++ [txT (nmB ((n : Int) + (i : Int)) ++ ⟨#[32, 61, 32]⟩ ++ (⟨#[108, 101, 110, 103, 116, 104, 40]⟩ ++ nmB c.ax[i].t ++ ⟨#[41]⟩))]).length))) rfl ⟨rfl, rfl, rfl, rfl, rfl, rfl, rfl, trivial⟩ ⟨rfl, trivial⟩ (fun _ _ h => h) rfl, by omega, k85, zs ++ [txT (nmB ((n : Int) + (i : Int)) ++ ⟨#[32, 61, 32]⟩ ++ (⟨#[108, 101, 110, 103, 116, 104, 40]⟩ ++ nmB c.ax[i].t ++ ⟨#[41]⟩))], ⟨hi, hk85, by rw [hzs, idx_take hi]; simp only [List.map_append, List.map_cons, List.map_nil]; rw [axX, axD, if_neg h65]; simp only [List.append_assoc, List.map_nil, List.nil_append]⟩, rfl⟩
      ·
        refine AW.exit ?_
        refine eth_e ?_
        refine eth_e ?_
        refine exit_here ?_
        refine AW.seq ?_
        refine AW.seq ?_
        obtain rfl : i = c.ax.length := by rw [List.length_map] at h54; omega
        rw [List.take_length] at hzs
        have hzs : zs = (pre3 c n).map txT := hzs
        refine AW.reg ?_
        refine SeqK.q (q_fieldL _ rfl Fx.fl28_3 rfl rfl) rfl rfl rfl ?_
        refine SeqK.r (b_load (r := .a _) rfl Fx.ty24 rfl rfl rfl rfl rfl rfl) rfl ?_
        refine SeqK.q (q_len rfl Fx.un24 rfl) rfl rfl rfl ?_
        refine SeqK.q (q_mvC rfl rfl) rfl rfl rfl ?_
        refine SeqK.nil ?_
        refine AW.block ?_
        refine AW.loop (fun (i : Nat) s => ∃ (kt : Nat) (zs : List (List E.T)), (i ≤ c.is.length ∧ H kt = none ∧ zs = (pre3 c n ++ (c.is.take i).map isX).map txT) ∧ s = ⟨172, sp [(1, .c (iC (n : Int))), (2, .lp 2 0), (4, .c (sC ⟨#[]⟩)), (5, .c (.a (.ts kt .ne 1 zs))), (88, .c (.a (.t (.sl .un 3 (c.is.map ctT))))), (89, iX .i64 (((c.is.map ctT).length : Nat) : Int)), (90, iX .i64 ((i : Nat) : Int))], lv [(2, .box [.t (.sl .un 1 (c.nl.map i64T)), .t (.sl .un 1 (c.nn.map i64T)), .t (.sl .un 4 (c.ax.map axT)), .t (.sl .un 3 (c.is.map ctT)), .t (.sl .un 4 (c.ts.map tsT)), .t (.sl .un 2 (c.sm.map prT)), .t (.sl .un 2 (c.df.map prT))])], upd H kt (some (.tip 9 1 zs.length))⟩) (fun i => c.is.length - i) 0 ⟨_, Wk.keep 172 [(1, .c (iC (n : Int))), (2, .lp 2 0), (4, .c (sC ⟨#[]⟩)), (5, .c (.a (.ts (kt) .ne 1 (zs)))), (88, .c (.a (.t (.sl .un 3 (c.is.map ctT))))), (89, iX .i64 (((c.is.map ctT).length : Nat) : Int)), (90, iX .i64 ((((0 : Nat)) : Nat) : Int))] [(2, .box [.t (.sl .un 1 (c.nl.map i64T)), .t (.sl .un 1 (c.nn.map i64T)), .t (.sl .un 4 (c.ax.map axT)), .t (.sl .un 3 (c.is.map ctT)), .t (.sl .un 4 (c.ts.map tsT)), .t (.sl .un 2 (c.sm.map prT)), .t (.sl .un 2 (c.df.map prT))])] (upd H (kt) (some (.tip 9 1 (zs).length))) rfl ⟨rfl, rfl, rfl, rfl, rfl, rfl, rfl, trivial⟩ ⟨rfl, trivial⟩ (fun _ _ h => h) rfl, kt, zs, ⟨Nat.zero_le _, hkt, by rw [hzs, List.take_zero]; simp⟩, rfl⟩ (fun i s hs => ?_)
        obtain ⟨kt, zs, ⟨hi0, hkt, hzs⟩, rfl⟩ := hs
        refine AW.seq ?_
        refine AW.reg ?_
        refine SeqK.q (q_lss rfl rfl rfl) rfl rfl rfl ?_
        refine SeqK.nil ?_
        refine AW.seq ?_
        refine AW.condD rfl (fun h91 => ?_) (fun h91 => ?_)
        ·
          have hi : i < c.is.length := by rw [List.length_map] at h91; omega
          have hm := List.getElem_mem hi
          have hq := hF.is _ hm
          have hs3 := fmtL_size hq
          refine AW.skip ?_
          refine AW.seq ?_
          refine AW.block ?_
          refine AW.seq ?_
          refine AW.reg ?_
          refine SeqK.q (q_index _ rfl Fx.sl24 rfl rfl (by omega) (idx_map (f := ctT) hi)) rfl rfl rfl ?_
          refine SeqK.q (q_load (.g [_, _, _]) rfl Fx.ty65 rfl rfl rfl) rfl rfl rfl ?_
          refine SeqK.r (b_alloc (r := [_, _, _]) rfl rfl Fx.ze65 rfl rfl rfl rfl) rfl ?_
          refine SeqK.r (b_store (r := [_, _, _]) rfl rfl Fx.ty65 rfl rfl rfl rfl rfl rfl) rfl ?_
          refine SeqK.nil ?_
          refine AW.seq ?_
          refine AW.reg ?_
          refine SeqK.q (q_asC rfl rfl) rfl rfl rfl ?_
          refine SeqK.nil ?_
          refine AW.seq ?_
          refine AW.seq ?_
          refine AW.reg ?_
          refine SeqK.q (q_fieldL _ rfl Fx.fl65_1 rfl rfl) rfl rfl rfl ?_
          refine SeqK.r (b_load (r := .a _) rfl Fx.ty4 rfl rfl rfl rfl rfl rfl) rfl ?_
          refine SeqK.nil ?_
          refine AW.cond _ rfl (fun h95 => ?_) (fun h95 => ?_)
          ·
            refine AW.reg ?_
            refine SeqK.q (q_asC rfl rfl) rfl rfl rfl ?_
            refine SeqK.nil ?_
            refine AW.reg ?_
            refine SeqK.q (q_mvC rfl rfl) rfl rfl rfl ?_
            refine SeqK.q (q_fieldL _ rfl Fx.fl65_0 rfl rfl) rfl rfl rfl ?_
            refine SeqK.r (b_load (r := .g [_, _]) rfl Fx.ty61 rfl rfl rfl rfl rfl rfl) rfl ?_
            refine SeqK.q (q_call _ rfl Fx.fn19 rfl (formatLinear_any _ hq) rfl) rfl rfl rfl ?_
            refine SeqK.q (q_mvC rfl rfl) rfl rfl rfl ?_
            refine SeqK.q (q_addS rfl rfl rfl (by first | omega | (simp only [ByteArray.size_append]; omega))) rfl rfl rfl ?_
            refine SeqK.q (q_buildSlice _ rfl Fx.el73 rfl (by decide) rfl) rfl rfl rfl ?_
            refine SeqK.app1 rfl (hkt) rfl Fx.el73 rfl rfl (by have hN := hF.tot; unfold lenN at hN; simp [hzs, pre7, pre6, pre5, pre4, pre3, pre2, pre1]; omega) rfl rfl (fun k103 hk103 => ?_)
            refine SeqK.q (q_asC rfl rfl) rfl rfl rfl ?_
            refine SeqK.nil ?_
            refine AW.reg ?_
            refine SeqK.q (q_add _ rfl rfl rfl (w64 (by omega) (by omega))) rfl rfl rfl ?_
            refine SeqK.q (q_mvC rfl rfl) rfl rfl rfl ?_
            refine SeqK.nil ?_
            exact ⟨i + 1, _, Wk.keep 172 [(1, .c (iC (n : Int))), (2, .lp 2 0), (4, .c (sC ⟨#[]⟩)), (5, .c (.a (.ts (k103) .ne 1 (zs ++ [txT (fmtL c.is[i].f ++ ⟨#[32, 61, 32, 48]⟩)])))), (88, .c (.a (.t (.sl .un 3 (c.is.map ctT))))), (89, iX .i64 (((c.is.map ctT).length : Nat) : Int)), (90, iX .i64 (((i + 1) : Nat) : Int))] [(2, .box [.t (.sl .un 1 (c.nl.map i64T)), .t (.sl .un 1 (c.nn.map i64T)), .t (.sl .un 4 (c.ax.map axT)), .t (.sl .un 3 (c.is.map ctT)), .t (.sl .un 4 (c.ts.map tsT)), .t (.sl .un 2 (c.sm.map prT)), .t (.sl .un 2 (c.df.map prT))])] (upd H (k103) (some (.tip 9 1 (zs ++ [txT (fmtL c.is[i].f ++ ⟨#[32, 61, 32, 48]⟩)]).length))) rfl ⟨rfl, rfl, rfl, rfl, rfl, rfl, rfl, trivial⟩ ⟨rfl, trivial⟩ (fun _ _ h => h) rfl, by omega, k103, zs ++ [txT (fmtL c.is[i].f ++ ⟨#[32, 61, 32, 48]⟩)], ⟨hi, hk103, by rw [hzs, take_put hi]; simp only [List.map_append, List.map_cons, List.map_nil]; rw [isX, if_pos h95]; simp only [List.append_assoc, List.map_nil, List.nil_append]⟩, rfl⟩
          ·
            refine AW.skip ?_
            refine AW.reg ?_
            refine SeqK.q (q_mvC rfl rfl) rfl rfl rfl ?_
            refine SeqK.q (q_fieldL _ rfl Fx.fl65_0 rfl rfl) rfl rfl rfl ?_
            refine SeqK.r (b_load (r := .g [_, _]) rfl Fx.ty61 rfl rfl rfl rfl rfl rfl) rfl ?_
            refine SeqK.q (q_call _ rfl Fx.fn19 rfl (formatLinear_any _ hq) rfl) rfl rfl rfl ?_
            refine SeqK.q (q_mvC rfl rfl) rfl rfl rfl ?_
            refine SeqK.q (q_addS rfl rfl rfl (by first | omega | (simp only [ByteArray.size_append]; omega))) rfl rfl rfl ?_
            refine SeqK.q (q_buildSlice _ rfl Fx.el73 rfl (by decide) rfl) rfl rfl rfl ?_
            refine SeqK.app1 rfl (hkt) rfl Fx.el73 rfl rfl (by have hN := hF.tot; unfold lenN at hN; simp [hzs, pre7, pre6, pre5, pre4, pre3, pre2, pre1]; omega) rfl rfl (fun k103 hk103 => ?_)
            refine SeqK.q (q_asC rfl rfl) rfl rfl rfl ?_
            refine SeqK.nil ?_
            refine AW.reg ?_
            refine SeqK.q (q_add _ rfl rfl rfl (w64 (by omega) (by omega))) rfl rfl rfl ?_
            refine SeqK.q (q_mvC rfl rfl) rfl rfl rfl ?_
            refine SeqK.nil ?_
            exact ⟨i + 1, _, Wk.keep 172 [(1, .c (iC (n : Int))), (2, .lp 2 0), (4, .c (sC ⟨#[]⟩)), (5, .c (.a (.ts (k103) .ne 1 (zs ++ [txT (fmtL c.is[i].f ++ ⟨#[32, 60, 61, 32, 48]⟩)])))), (88, .c (.a (.t (.sl .un 3 (c.is.map ctT))))), (89, iX .i64 (((c.is.map ctT).length : Nat) : Int)), (90, iX .i64 (((i + 1) : Nat) : Int))] [(2, .box [.t (.sl .un 1 (c.nl.map i64T)), .t (.sl .un 1 (c.nn.map i64T)), .t (.sl .un 4 (c.ax.map axT)), .t (.sl .un 3 (c.is.map ctT)), .t (.sl .un 4 (c.ts.map tsT)), .t (.sl .un 2 (c.sm.map prT)), .t (.sl .un 2 (c.df.map prT))])] (upd H (k103) (some (.tip 9 1 (zs ++ [txT (fmtL c.is[i].f ++ ⟨#[32, 60, 61, 32, 48]⟩)]).length))) rfl ⟨rfl, rfl, rfl, rfl, rfl, rfl, rfl, trivial⟩ ⟨rfl, trivial⟩ (fun _ _ h => h) rfl, by omega, k103, zs ++ [txT (fmtL c.is[i].f ++ ⟨#[32, 60, 61, 32, 48]⟩)], ⟨hi, hk103, by rw [hzs, take_put hi]; simp only [List.map_append, List.map_cons, List.map_nil]; rw [isX, if_neg (by simp [h95])]; simp only [List.append_assoc, List.map_nil, List.nil_append]⟩, rfl⟩
        ·
          refine AW.exit ?_
          refine eth_e ?_
          refine eth_e ?_
          refine exit_here ?_
          refine AW.seq ?_
          refine AW.seq ?_
          obtain rfl : i = c.is.length := by rw [List.length_map] at h91; omega
          rw [List.take_length] at hzs
          have hzs : zs = (pre4 c n).map txT := hzs
          refine AW.reg ?_
          refine SeqK.q (q_fieldL _ rfl Fx.fl28_4 rfl rfl) rfl rfl rfl ?_
          refine SeqK.r (b_load (r := .a _) rfl Fx.ty25 rfl rfl rfl rfl rfl rfl) rfl ?_
          refine SeqK.q (q_len rfl Fx.un25 rfl) rfl rfl rfl ?_
          refine SeqK.q (q_mvC rfl rfl) rfl rfl rfl ?_
          refine SeqK.nil ?_
          refine AW.block ?_
          refine AW.loop (fun (i : Nat) s => ∃ (kt : Nat) (zs : List (List E.T)), (i ≤ c.ts.length ∧ H kt = none ∧ zs = (pre4 c n ++ (c.ts.take i).map tsX).map txT) ∧ s = ⟨172, sp [(1, .c (iC (n : Int))), (2, .lp 2 0), (4, .c (sC ⟨#[]⟩)), (5, .c (.a (.ts kt .ne 1 zs))), (106, .c (.a (.t (.sl .un 4 (c.ts.map tsT))))), (107, iX .i64 (((c.ts.map tsT).length : Nat) : Int)), (108, iX .i64 ((i : Nat) : Int))], lv [(2, .box [.t (.sl .un 1 (c.nl.map i64T)), .t (.sl .un 1 (c.nn.map i64T)), .t (.sl .un 4 (c.ax.map axT)), .t (.sl .un 3 (c.is.map ctT)), .t (.sl .un 4 (c.ts.map tsT)), .t (.sl .un 2 (c.sm.map prT)), .t (.sl .un 2 (c.df.map prT))])], upd H kt (some (.tip 9 1 zs.length))⟩) (fun i => c.ts.length - i) 0 ⟨_, Wk.keep 172 [(1, .c (iC (n : Int))), (2, .lp 2 0), (4, .c (sC ⟨#[]⟩)), (5, .c (.a (.ts (kt) .ne 1 (zs)))), (106, .c (.a (.t (.sl .un 4 (c.ts.map tsT))))), (107, iX .i64 (((c.ts.map tsT).length : Nat) : Int)), (108, iX .i64 ((((0 : Nat)) : Nat) : Int))] [(2, .box [.t (.sl .un 1 (c.nl.map i64T)), .t (.sl .un 1 (c.nn.map i64T)), .t (.sl .un 4 (c.ax.map axT)), .t (.sl .un 3 (c.is.map ctT)), .t (.sl .un 4 (c.ts.map tsT)), .t (.sl .un 2 (c.sm.map prT)), .t (.sl .un 2 (c.df.map prT))])] (upd H (kt) (some (.tip 9 1 (zs).length))) rfl ⟨rfl, rfl, rfl, rfl, rfl, rfl, rfl, trivial⟩ ⟨rfl, trivial⟩ (fun _ _ h => h) rfl, kt, zs, ⟨Nat.zero_le _, hkt, by rw [hzs, List.take_zero]; simp⟩, rfl⟩ (fun i s hs => ?_)
          obtain ⟨kt, zs, ⟨hi0, hkt, hzs⟩, rfl⟩ := hs
          refine AW.seq ?_
          refine AW.reg ?_
          refine SeqK.q (q_lss rfl rfl rfl) rfl rfl rfl ?_
          refine SeqK.nil ?_
          refine AW.seq ?_
          refine AW.condD rfl (fun h109 => ?_) (fun h109 => ?_)
          ·
            have hi : i < c.ts.length := by rw [List.length_map] at h109; omega
            have hm := List.getElem_mem hi
            have hq := hF.ts _ hm
            obtain ⟨q1, q2, q3, q4⟩ := hq
            have hs1 := nmB_size q3.2
            have hs2 := sgB_size q4 c.ts[i].n
            have hs3 := qtX_size q2
            refine AW.skip ?_
            refine AW.seq ?_
            refine AW.block ?_
            refine AW.seq ?_
            refine AW.reg ?_
            refine SeqK.q (q_index _ rfl Fx.sl25 rfl rfl (by omega) (idx_map (f := tsT) hi)) rfl rfl rfl ?_
            refine SeqK.q (q_load (.g [_, _, _, _]) rfl Fx.ty44 rfl rfl rfl) rfl rfl rfl ?_
            refine SeqK.r (b_alloc (r := [_, _, _, _]) rfl rfl Fx.ze44 rfl rfl rfl rfl) rfl ?_
            refine SeqK.r (b_store (r := [_, _, _, _]) rfl rfl Fx.ty44 rfl rfl rfl rfl rfl rfl) rfl ?_
            refine SeqK.nil ?_
            refine AW.drawO [0, 1, 2, 3, 4, 5, 6, 7, 8, 9, 10, 11, 12, 13, 14, 15, 16] Fx.mo (by kernel_rfl) ?_
            refine LexO.q rfl (by kernel_rfl) (q_mvC rfl rfl) rfl rfl rfl ?_
            refine LexO.q rfl (by kernel_rfl) (q_fieldL _ rfl Fx.fl44_0 rfl rfl) rfl rfl rfl ?_
            refine LexO.r rfl (by kernel_rfl) (b_load (r := .a _) rfl Fx.ty3 rfl rfl rfl rfl rfl rfl) rfl ?_
            refine LexO.q rfl (by kernel_rfl) (q_call _ rfl Fx.fn18 rfl (variable_any _ q3.1 q3.2) rfl) rfl rfl rfl ?_
            refine LexO.q rfl (by kernel_rfl) (q_addS rfl rfl rfl (by first | omega | (simp only [ByteArray.size_append]; omega))) rfl rfl rfl ?_
            refine LexO.r rfl (by kernel_rfl) (b_load (r := .g [_, _, _, _]) rfl Fx.ty44 rfl rfl rfl rfl rfl rfl) rfl ?_
            refine LexO.q rfl (by kernel_rfl) (q_call _ rfl Fx.fn21 rfl (sign_any _ q4) rfl) rfl rfl rfl ?_
            refine LexO.q rfl (by kernel_rfl) (q_addS rfl rfl rfl (by first | omega | (simp only [ByteArray.size_append]; omega))) rfl rfl rfl ?_
            refine LexO.q rfl (by kernel_rfl) (q_addS rfl rfl rfl (by first | omega | (simp only [ByteArray.size_append]; omega))) rfl rfl rfl ?_
            refine LexO.q rfl (by kernel_rfl) (q_fieldL _ rfl Fx.fl44_3 rfl rfl) rfl rfl rfl ?_
            refine LexO.r rfl (by kernel_rfl) (b_load (r := .a _) rfl Fx.ty9 rfl rfl rfl rfl rfl rfl) rfl ?_
            refine LexO.q rfl (by kernel_rfl) (q_call _ rfl Fx.fn23 rfl (valueText_any _) rfl) rfl rfl rfl ?_
            refine LexO.q rfl (by kernel_rfl) (q_call _ rfl Fx.fn22 rfl (valueFormat_any _ q1 q2) rfl) rfl rfl rfl ?_
            refine LexO.q rfl (by kernel_rfl) (q_addS rfl rfl rfl (by first | omega | (simp only [ByteArray.size_append]; omega))) rfl rfl rfl ?_
            refine LexO.q rfl (by kernel_rfl) (q_buildSlice _ rfl Fx.el73 rfl (by decide) rfl) rfl rfl rfl ?_
            refine LexO.app1 rfl (by kernel_rfl) (by kernel_rfl) (by kernel_rfl) rfl (hkt) rfl Fx.el73 rfl rfl (by have hN := hF.tot; unfold lenN at hN; simp [hzs, pre7, pre6, pre5, pre4, pre3, pre2, pre1]; omega) rfl rfl (fun k127 hk127 => ?_)
            refine LexO.q rfl (by kernel_rfl) (q_asC rfl rfl) rfl rfl rfl ?_
            refine LexO.nil (by kernel_rfl) ?_
            refine AW.reg ?_
            refine SeqK.q (q_add _ rfl rfl rfl (w64 (by omega) (by omega))) rfl rfl rfl ?_
            refine SeqK.q (q_mvC rfl rfl) rfl rfl rfl ?_
            refine SeqK.nil ?_
            exact ⟨i + 1, _, Wk.keep 172 [(1, .c (iC (n : Int))), (2, .lp 2 0), (4, .c (sC ⟨#[]⟩)), (5, .c (.a (.ts (k127) .ne 1 (zs ++ [txT (nmB c.ts[i].v ++ ⟨#[32]⟩ ++ sgB c.ts[i].k c.ts[i].n ++ ⟨#[32]⟩ ++ qtX c.ts[i].s)])))), (106, .c (.a (.t (.sl .un 4 (c.ts.map tsT))))), (107, iX .i64 (((c.ts.map tsT).length : Nat) : Int)), (108, iX .i64 (((i + 1) : Nat) : Int))] [(2, .box [.t (.sl .un 1 (c.nl.map i64T)), .t (.sl .un 1 (c.nn.map i64T)), .t (.sl .un 4 (c.ax.map axT)), .t (.sl .un 3 (c.is.map ctT)), .t (.sl .un 4 (c.ts.map tsT)), .t (.sl .un 2 (c.sm.map prT)), .t (.sl .un 2 (c.df.map prT))])] (upd H (k127) (some (.tip 9 1 (zs ++ [txT (nmB c.ts[i].v ++ ⟨#[32]⟩ ++ sgB c.ts[i].k c.ts[i].n ++ ⟨#[32]⟩ ++ qtX c.ts[i].s)]).length))) rfl ⟨rfl, rfl, rfl, rfl, rfl, rfl, rfl, trivial⟩ ⟨rfl, trivial⟩ (fun _ _ h => h) rfl, by omega, k127, zs ++ [txT (nmB c.ts[i].v ++ ⟨#[32]⟩ ++ sgB c.ts[i].k c.ts[i].n ++ ⟨#[32]⟩ ++ qtX c.ts[i].s)], ⟨hi, hk127, by rw [hzs, take_put hi]; simp only [List.map_append, List.map_cons, List.map_nil]; simp only [List.append_assoc, tsX, opB, ByteArray.append_assoc]⟩, rfl⟩
          ·
            refine AW.exit ?_
            refine eth_e ?_
            refine eth_e ?_
            refine exit_here ?_
            refine AW.seq ?_
            refine AW.seq ?_
            obtain rfl : i = c.ts.length := by rw [List.length_map] at h109; omega
            rw [List.take_length] at hzs
            have hzs : zs = (pre5 c n).map txT := hzs
            refine AW.reg ?_
            refine SeqK.q (q_fieldL _ rfl Fx.fl28_5 rfl rfl) rfl rfl rfl ?_
            refine SeqK.r (b_load (r := .a _) rfl Fx.ty26 rfl rfl rfl rfl rfl rfl) rfl ?_
            refine SeqK.q (q_len rfl Fx.un26 rfl) rfl rfl rfl ?_
            refine SeqK.q (q_mvC rfl rfl) rfl rfl rfl ?_
            refine SeqK.nil ?_
            refine AW.block ?_
            refine AW.loop (fun (i : Nat) s => ∃ (kt : Nat) (zs : List (List E.T)), (i ≤ c.sm.length ∧ H kt = none ∧ zs = (pre5 c n ++ (c.sm.take i).map smX).map txT) ∧ s = ⟨172, sp [(1, .c (iC (n : Int))), (2, .lp 2 0), (4, .c (sC ⟨#[]⟩)), (5, .c (.a (.ts kt .ne 1 zs))), (130, .c (prsC .un c.sm)), (131, iX .i64 (((c.sm.map prT).length : Nat) : Int)), (132, iX .i64 ((i : Nat) : Int))], lv [(2, .box [.t (.sl .un 1 (c.nl.map i64T)), .t (.sl .un 1 (c.nn.map i64T)), .t (.sl .un 4 (c.ax.map axT)), .t (.sl .un 3 (c.is.map ctT)), .t (.sl .un 4 (c.ts.map tsT)), .t (.sl .un 2 (c.sm.map prT)), .t (.sl .un 2 (c.df.map prT))])], upd H kt (some (.tip 9 1 zs.length))⟩) (fun i => c.sm.length - i) 0 ⟨_, Wk.keep 172 [(1, .c (iC (n : Int))), (2, .lp 2 0), (4, .c (sC ⟨#[]⟩)), (5, .c (.a (.ts (kt) .ne 1 (zs)))), (130, .c (prsC .un c.sm)), (131, iX .i64 (((c.sm.map prT).length : Nat) : Int)), (132, iX .i64 ((((0 : Nat)) : Nat) : Int))] [(2, .box [.t (.sl .un 1 (c.nl.map i64T)), .t (.sl .un 1 (c.nn.map i64T)), .t (.sl .un 4 (c.ax.map axT)), .t (.sl .un 3 (c.is.map ctT)), .t (.sl .un 4 (c.ts.map tsT)), .t (.sl .un 2 (c.sm.map prT)), .t (.sl .un 2 (c.df.map prT))])] (upd H (kt) (some (.tip 9 1 (zs).length))) rfl ⟨rfl, rfl, rfl, rfl, rfl, rfl, rfl, trivial⟩ ⟨rfl, trivial⟩ (fun _ _ h => h) rfl, kt, zs, ⟨Nat.zero_le _, hkt, by rw [hzs, List.take_zero]; simp⟩, rfl⟩ (fun i s hs => ?_)
            obtain ⟨kt, zs, ⟨hi0, hkt, hzs⟩, rfl⟩ := hs
            refine AW.seq ?_
            refine AW.reg ?_
            refine SeqK.q (q_lss rfl rfl rfl) rfl rfl rfl ?_
            refine SeqK.nil ?_
            refine AW.seq ?_
            refine AW.condD rfl (fun h133 => ?_) (fun h133 => ?_)
            ·
              have hi : i < c.sm.length := by rw [List.length_map] at h133; omega
              have hm := List.getElem_mem hi
              have hq := hF.sm _ hm
              have hs1 := nmB_size hq.1.2
              have hs2 := nmB_size hq.2.2
              refine AW.skip ?_
              refine AW.seq ?_
              refine AW.block ?_
              refine AW.seq ?_
              refine AW.reg ?_
              refine SeqK.q (q_index _ rfl Fx.sl26 rfl rfl (by omega) (idx_map (f := prT) hi)) rfl rfl rfl ?_
              refine SeqK.q (q_load (.g [_, _]) rfl Fx.ty80 rfl rfl rfl) rfl rfl rfl ?_
              refine SeqK.r (b_alloc (r := [_, _]) rfl rfl Fx.ze80 rfl rfl rfl rfl) rfl ?_
              refine SeqK.r (b_store (r := [_, _]) rfl rfl Fx.ty80 rfl rfl rfl rfl rfl rfl) rfl ?_
              refine SeqK.nil ?_
              refine AW.drawO [0, 1, 2, 3, 4, 5, 6, 7, 8, 9, 10, 11] Fx.mo (by kernel_rfl) ?_
              refine LexO.q rfl (by kernel_rfl) (q_mvC rfl rfl) rfl rfl rfl ?_
              refine LexO.q rfl (by kernel_rfl) (q_indexL _ rfl Fx.ar80 rfl rfl (by omega) (by omega) rfl) rfl rfl rfl ?_
              refine LexO.r rfl (by kernel_rfl) (b_load (r := .a _) rfl Fx.ty3 rfl rfl rfl rfl rfl rfl) rfl ?_
              refine LexO.q rfl (by kernel_rfl) (q_call _ rfl Fx.fn18 rfl (variable_any _ hq.1.1 hq.1.2) rfl) rfl rfl rfl ?_
              refine LexO.q rfl (by kernel_rfl) (q_addS rfl rfl rfl (by first | omega | (simp only [ByteArray.size_append]; omega))) rfl rfl rfl ?_
              refine LexO.q rfl (by kernel_rfl) (q_indexL _ rfl Fx.ar80 rfl rfl (by omega) (by omega) rfl) rfl rfl rfl ?_
              refine LexO.r rfl (by kernel_rfl) (b_load (r := .a _) rfl Fx.ty3 rfl rfl rfl rfl rfl rfl) rfl ?_
              refine LexO.q rfl (by kernel_rfl) (q_call _ rfl Fx.fn18 rfl (variable_any _ hq.2.1 hq.2.2) rfl) rfl rfl rfl ?_
              refine LexO.q rfl (by kernel_rfl) (q_addS rfl rfl rfl (by first | omega | (simp only [ByteArray.size_append]; omega))) rfl rfl rfl ?_
              refine LexO.q rfl (by kernel_rfl) (q_buildSlice _ rfl Fx.el73 rfl (by decide) rfl) rfl rfl rfl ?_
              refine LexO.app1 rfl (by kernel_rfl) (by kernel_rfl) (by kernel_rfl) rfl (hkt) rfl Fx.el73 rfl rfl (by have hN := hF.tot; unfold lenN at hN; simp [hzs, pre7, pre6, pre5, pre4, pre3, pre2, pre1]; omega) rfl rfl (fun k146 hk146 => ?_)
              refine LexO.q rfl (by kernel_rfl) (q_asC rfl rfl) rfl rfl rfl ?_
              refine LexO.nil (by kernel_rfl) ?_
              refine AW.reg ?_
              refine SeqK.q (q_add _ rfl rfl rfl (w64 (by omega) (by omega))) rfl rfl rfl ?_
              refine SeqK.q (q_mvC rfl rfl) rfl rfl rfl ?_
              refine SeqK.nil ?_
              exact ⟨i + 1, _, Wk.keep 172 [(1, .c (iC (n : Int))), (2, .lp 2 0), (4, .c (sC ⟨#[]⟩)), (5, .c (.a (.ts (k146) .ne 1 (zs ++ [txT (smX c.sm[i])])))), (130, .c (prsC .un c.sm)), (131, iX .i64 (((c.sm.map prT).length : Nat) : Int)), (132, iX .i64 (((i + 1) : Nat) : Int))] [(2, .box [.t (.sl .un 1 (c.nl.map i64T)), .t (.sl .un 1 (c.nn.map i64T)), .t (.sl .un 4 (c.ax.map axT)), .t (.sl .un 3 (c.is.map ctT)), .t (.sl .un 4 (c.ts.map tsT)), .t (.sl .un 2 (c.sm.map prT)), .t (.sl .un 2 (c.df.map prT))])] (upd H (k146) (some (.tip 9 1 (zs ++ [txT (smX c.sm[i])]).length))) rfl ⟨rfl, rfl, rfl, rfl, rfl, rfl, rfl, trivial⟩ ⟨rfl, trivial⟩ (fun _ _ h => h) rfl, by omega, k146, zs ++ [txT (smX c.sm[i])], ⟨hi, hk146, by rw [hzs, take_put hi]; simp only [List.map_append, List.map_cons, List.map_nil]; simp only [List.append_assoc, List.map_nil, List.nil_append]⟩, rfl⟩
            ·
              refine AW.exit ?_
              refine eth_e ?_
              refine eth_e ?_
              refine exit_here ?_
              refine AW.seq ?_
              refine AW.seq ?_
              obtain rfl : i = c.sm.length := by rw [List.length_map] at h133; omega
              rw [List.take_length] at hzs
              have hzs : zs = (pre6 c n).map txT := hzs
              refine AW.reg ?_
              refine SeqK.q (q_fieldL _ rfl Fx.fl28_6 rfl rfl) rfl rfl rfl ?_
              refine SeqK.r (b_load (r := .a _) rfl Fx.ty26 rfl rfl rfl rfl rfl rfl) rfl ?_
              refine SeqK.q (q_len rfl Fx.un26 rfl) rfl rfl rfl ?_
              refine SeqK.q (q_mvC rfl rfl) rfl rfl rfl ?_
              refine SeqK.nil ?_
              refine AW.block ?_
              refine AW.loop (fun (i : Nat) s => ∃ (kt : Nat) (zs : List (List E.T)), (i ≤ c.df.length ∧ H kt = none ∧ zs = (pre6 c n ++ (c.df.take i).map dfX).map txT) ∧ s = ⟨172, sp [(1, .c (iC (n : Int))), (2, .lp 2 0), (4, .c (sC ⟨#[]⟩)), (5, .c (.a (.ts kt .ne 1 zs))), (149, .c (prsC .un c.df)), (150, iX .i64 (((c.df.map prT).length : Nat) : Int)), (151, iX .i64 ((i : Nat) : Int))], lv [(2, .box [.t (.sl .un 1 (c.nl.map i64T)), .t (.sl .un 1 (c.nn.map i64T)), .t (.sl .un 4 (c.ax.map axT)), .t (.sl .un 3 (c.is.map ctT)), .t (.sl .un 4 (c.ts.map tsT)), .t (.sl .un 2 (c.sm.map prT)), .t (.sl .un 2 (c.df.map prT))])], upd H kt (some (.tip 9 1 zs.length))⟩) (fun i => c.df.length - i) 0 ⟨_, Wk.keep 172 [(1, .c (iC (n : Int))), (2, .lp 2 0), (4, .c (sC ⟨#[]⟩)), (5, .c (.a (.ts (kt) .ne 1 (zs)))), (149, .c (prsC .un c.df)), (150, iX .i64 (((c.df.map prT).length : Nat) : Int)), (151, iX .i64 ((((0 : Nat)) : Nat) : Int))] [(2, .box [.t (.sl .un 1 (c.nl.map i64T)), .t (.sl .un 1 (c.nn.map i64T)), .t (.sl .un 4 (c.ax.map axT)), .t (.sl .un 3 (c.is.map ctT)), .t (.sl .un 4 (c.ts.map tsT)), .t (.sl .un 2 (c.sm.map prT)), .t (.sl .un 2 (c.df.map prT))])] (upd H (kt) (some (.tip 9 1 (zs).length))) rfl ⟨rfl, rfl, rfl, rfl, rfl, rfl, rfl, trivial⟩ ⟨rfl, trivial⟩ (fun _ _ h => h) rfl, kt, zs, ⟨Nat.zero_le _, hkt, by rw [hzs, List.take_zero]; simp⟩, rfl⟩ (fun i s hs => ?_)
              obtain ⟨kt, zs, ⟨hi0, hkt, hzs⟩, rfl⟩ := hs
              refine AW.seq ?_
              refine AW.reg ?_
              refine SeqK.q (q_lss rfl rfl rfl) rfl rfl rfl ?_
              refine SeqK.nil ?_
              refine AW.seq ?_
              refine AW.condD rfl (fun h152 => ?_) (fun h152 => ?_)
              ·
                have hi : i < c.df.length := by rw [List.length_map] at h152; omega
                have hm := List.getElem_mem hi
                have hq := hF.df _ hm
                have hs1 := nmB_size hq.1.2
                have hs2 := nmB_size hq.2.2
                refine AW.skip ?_
                refine AW.seq ?_
                refine AW.block ?_
                refine AW.seq ?_
                refine AW.reg ?_
                refine SeqK.q (q_index _ rfl Fx.sl26 rfl rfl (by omega) (idx_map (f := prT) hi)) rfl rfl rfl ?_
                refine SeqK.q (q_load (.g [_, _]) rfl Fx.ty80 rfl rfl rfl) rfl rfl rfl ?_
                refine SeqK.r (b_alloc (r := [_, _]) rfl rfl Fx.ze80 rfl rfl rfl rfl) rfl ?_
                refine SeqK.r (b_store (r := [_, _]) rfl rfl Fx.ty80 rfl rfl rfl rfl rfl rfl) rfl ?_
                refine SeqK.nil ?_
                refine AW.drawO [0, 1, 2, 3, 4, 5, 6, 7, 8, 9, 10, 11] Fx.mo (by kernel_rfl) ?_
                refine LexO.q rfl (by kernel_rfl) (q_mvC rfl rfl) rfl rfl rfl ?_
                refine LexO.q rfl (by kernel_rfl) (q_indexL _ rfl Fx.ar80 rfl rfl (by omega) (by omega) rfl) rfl rfl rfl ?_
                refine LexO.r rfl (by kernel_rfl) (b_load (r := .a _) rfl Fx.ty3 rfl rfl rfl rfl rfl rfl) rfl ?_
                refine LexO.q rfl (by kernel_rfl) (q_call _ rfl Fx.fn18 rfl (variable_any _ hq.1.1 hq.1.2) rfl) rfl rfl rfl ?_
                refine LexO.q rfl (by kernel_rfl) (q_addS rfl rfl rfl (by first | omega | (simp only [ByteArray.size_append]; omega))) rfl rfl rfl ?_
                refine LexO.q rfl (by kernel_rfl) (q_indexL _ rfl Fx.ar80 rfl rfl (by omega) (by omega) rfl) rfl rfl rfl ?_
                refine LexO.r rfl (by kernel_rfl) (b_load (r := .a _) rfl Fx.ty3 rfl rfl rfl rfl rfl rfl) rfl ?_
                refine LexO.q rfl (by kernel_rfl) (q_call _ rfl Fx.fn18 rfl (variable_any _ hq.2.1 hq.2.2) rfl) rfl rfl rfl ?_
                refine LexO.q rfl (by kernel_rfl) (q_addS rfl rfl rfl (by first | omega | (simp only [ByteArray.size_append]; omega))) rfl rfl rfl ?_
                refine LexO.q rfl (by kernel_rfl) (q_buildSlice _ rfl Fx.el73 rfl (by decide) rfl) rfl rfl rfl ?_
                refine LexO.app1 rfl (by kernel_rfl) (by kernel_rfl) (by kernel_rfl) rfl (hkt) rfl Fx.el73 rfl rfl (by have hN := hF.tot; unfold lenN at hN; simp [hzs, pre7, pre6, pre5, pre4, pre3, pre2, pre1]; omega) rfl rfl (fun k165 hk165 => ?_)
                refine LexO.q rfl (by kernel_rfl) (q_asC rfl rfl) rfl rfl rfl ?_
                refine LexO.nil (by kernel_rfl) ?_
                refine AW.reg ?_
                refine SeqK.q (q_add _ rfl rfl rfl (w64 (by omega) (by omega))) rfl rfl rfl ?_
                refine SeqK.q (q_mvC rfl rfl) rfl rfl rfl ?_
                refine SeqK.nil ?_
                exact ⟨i + 1, _, Wk.keep 172 [(1, .c (iC (n : Int))), (2, .lp 2 0), (4, .c (sC ⟨#[]⟩)), (5, .c (.a (.ts (k165) .ne 1 (zs ++ [txT (dfX c.df[i])])))), (149, .c (prsC .un c.df)), (150, iX .i64 (((c.df.map prT).length : Nat) : Int)), (151, iX .i64 (((i + 1) : Nat) : Int))] [(2, .box [.t (.sl .un 1 (c.nl.map i64T)), .t (.sl .un 1 (c.nn.map i64T)), .t (.sl .un 4 (c.ax.map axT)), .t (.sl .un 3 (c.is.map ctT)), .t (.sl .un 4 (c.ts.map tsT)), .t (.sl .un 2 (c.sm.map prT)), .t (.sl .un 2 (c.df.map prT))])] (upd H (k165) (some (.tip 9 1 (zs ++ [txT (dfX c.df[i])]).length))) rfl ⟨rfl, rfl, rfl, rfl, rfl, rfl, rfl, trivial⟩ ⟨rfl, trivial⟩ (fun _ _ h => h) rfl, by omega, k165, zs ++ [txT (dfX c.df[i])], ⟨hi, hk165, by rw [hzs, take_put hi]; simp only [List.map_append, List.map_cons, List.map_nil]; simp only [List.append_assoc, List.map_nil, List.nil_append]⟩, rfl⟩
              ·
                refine AW.exit ?_
                refine eth_e ?_
                refine eth_e ?_
                refine exit_here ?_
                refine AW.seq ?_
                refine AW.seq ?_
                obtain rfl : i = c.df.length := by rw [List.length_map] at h152; omega
                rw [List.take_length] at hzs
                have hzs : zs = (pre7 c n).map txT := hzs
                have hjl := all_size hF (pre7 c n).length
                rw [List.take_length] at hjl
                have hpl := pre_len c n
                refine AW.xw 5 rfl (XW.ts.trans (XW.es hzs)) ?_
                refine AW.reg ?_
                refine SeqK.q (q_mvC rfl rfl) rfl rfl rfl ?_
                refine SeqK.q (q_len rfl Fx.un73 rfl) rfl rfl rfl ?_
                refine SeqK.q (q_eql rfl rfl rfl) rfl rfl rfl ?_
                refine SeqK.nil ?_
                refine AW.condD rfl (fun h169 => ?_) (fun h169 => ?_)
                ·
                  have hnil : pre7 c n = [] := List.length_eq_zero_iff.1 (by rw [List.length_map] at h169; omega)
                  refine AW.seq ?_
                  refine AW.reg ?_
                  refine SeqK.q (q_asC rfl rfl) rfl rfl rfl ?_
                  refine SeqK.nil ?_
                  refine AW.ret ?_
                  exact fin_x (x := .c _) (H) (.tmp rfl .nil) rfl ((fun j o h => upd_sub hkt j o h)) (⟨sCe (by rw [fmtC, if_pos hnil]), rfl⟩)
                ·
                  have hnil : ¬ pre7 c n = [] := fun e => h169 (by rw [e]; rfl)
                  refine AW.skip ?_
                  refine AW.seq ?_
                  refine AW.reg ?_
                  refine SeqK.q (q_mvC rfl rfl) rfl rfl rfl ?_
                  refine SeqK.q (q_call _ rfl Fx.fn24 rfl (join_any _ .un (by rw [pre_len]; omega) (Nat.le_trans hjl (by decide))) rfl) rfl rfl rfl ?_
                  refine SeqK.q (q_asC rfl rfl) rfl rfl rfl ?_
                  refine SeqK.nil ?_
                  refine AW.ret ?_
                  exact fin_x (x := .c _) (H) (.tmp rfl .nil) rfl ((fun j o h => upd_sub hkt j o h)) (⟨sCe (by rw [fmtC, if_neg hnil]), rfl⟩)

end Go.Proofs.YtnmfjojhgfipcaaGreatDoor.W
