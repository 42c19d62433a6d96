/- Parts of the proof, one after the other: W40, W41, W42, W43, W44, W45. No condition. -/
import Derived.Test.YtfbdokfcebpkaaaDoorM16
namespace Go.Proofs.YtfbdokfcebpkaaaDoor.W
open Go.RowKit E M
set_option linter.unusedVariables false
set_option linter.unusedSimpArgs false
set_option linter.unusedSectionVars false
def evO (r : List RV) (ix kind : Int) : Int × Bool :=
  if ix < 0 ∨ (r.length : Int) ≤ ix ∨ (r.getD ix.toNat ⟨0, 0, ⟨#[]⟩⟩).k ≠ kind then (0, false)
  else if kind = 2 then (((r.getD ix.toNat ⟨0, 0, ⟨#[]⟩⟩).s.size : Int), true) else ((r.getD ix.toNat ⟨0, 0, ⟨#[]⟩⟩).n, true)
def lenV (r : List RV) : List Ex → Int × Bool
  | [] => (0, false)
  | a :: _ => if a.op = 1 then ((a.vs.size : Int), true) else evO r a.ix 2
def negV : List (Int × Bool) → Int × Bool
  | [] => (0, false)
  | v :: _ => (w ((0 : Int) - v.1), v.2)
def opV (op a b : Int) : Int := if op = 4 then w (a + b) else if op = 5 then w (a - b) else if op = 6 then w (a * b) else if op = 7 then a / b else w (a - w (b * (a / b)))
def binV (op : Int) : List (Int × Bool) → Int × Bool
  | a :: b :: _ => if a.2 = true ∧ b.2 = true then (opV op a.1 b.1, true) else (0, false)
  | _ => (0, false)
def stepV (r : List RV) (op ix vk vn : Int) (args : List Ex) (vs : List (Int × Bool)) : Int × Bool :=
  if op = 1 then (vn, decide (vk = 1)) else if op = 2 then evO r ix 1 else if op = 9 then lenV r args else if op = 3 then negV vs else binV op vs
mutual
def evE (r : List RV) : Ex → Int × Bool
  | .mk op _ _ ix vk vn _ args => stepV r op ix vk vn args (evEs r args)
def evEs (r : List RV) : List Ex → List (Int × Bool)
  | [] => []
  | a :: l => evE r a :: evEs r l
end
section
variable {r : List RV} {e : Ex}
theorem OkE.one (h : OkE e) (h9 : e.op = 9) : 0 < e.args.length := by
  cases h with
  | lenT a h1 h2 | lenC a h1 h2 => rw [h2]; simp
  | lit h1 | col h1 => omega
  | neg a h1 => omega
  | bin a b h1 => omega
theorem OkE.two (h : OkE e) (h1 : ¬ e.op = 1) (h2 : ¬ e.op = 2) (h9 : ¬ e.op = 9) (h3 : ¬ e.op = 3) : ∃ (h0 : 0 < e.args.length) (h1 : 1 < e.args.length), (ofE e.args[0]).2 = 0 ∧ (ofE e.args[1]).2 = 0 ∧ 4 ≤ e.op ∧ e.op ≤ 8 ∧ ofE e = comb e.op (ofE e.args[0]).1 (ofE e.args[1]).1 := by
  cases h with
  | lenT a h1 h2 | lenC a h1 h2 => omega
  | lit h1 | col h1 => omega
  | neg a h1 h2 h3 => omega
  | bin a b k1 k2 k3 k4 k5 => exact ⟨by rw [k2]; simp, by rw [k2]; simp, by simp only [k2]; exact k3, by simp only [k2]; exact k4, k1.1, k1.2, by simp only [k2]; exact k5⟩
end
/-! the value of the term -/
theorem md.neg {a b : Int} (h : md a b) : md (-a) (-b) := by obtain ⟨k, h⟩ := h; exact ⟨-k, by omega⟩
theorem md.sub {a b c d : Int} (h : md a b) (h' : md c d) : md (a - c) (b - d) := by obtain ⟨k, h⟩ := h; obtain ⟨j, h'⟩ := h'; exact ⟨k - j, by omega⟩
end Go.Proofs.YtfbdokfcebpkaaaDoor.W
namespace Go.Proofs.YtfbdokfcebpkaaaDoor.W
open Go.RowKit E M
set_option linter.unusedVariables false
set_option linter.unusedSimpArgs false
set_option linter.unusedSectionVars false
end Go.Proofs.YtfbdokfcebpkaaaDoor.W
namespace Go.Proofs.YtfbdokfcebpkaaaDoor.W
open Go.RowKit E M
set_option linter.unusedVariables false
set_option linter.unusedSimpArgs false
set_option linter.unusedSectionVars false
open Go.Sort Go.Lib in
theorem holds_zero0 (w : World) (T : TypeId) (nd : Nat) (hs : nd ≤ 24) : Holds (fun (b : UInt8) => Value.int .u8 (b.toNat : Int)) (w.alloc (.cells zeros24 T)) w.heap.size 0 (Array.replicate nd (0 : UInt8)) := fun j hj => by
  have hj' : j < nd := by simpa using hj
  refine ⟨?_, World.frozen?_alloc_new _ _ _ _⟩
  rw [World.cell?_alloc_new, zeros24_at _ (by omega), getElem!_pos _ j hj]
  simp
open Go.Sort Go.Lib in
theorem fin_pos0 (w : World) (o : Obj) (dk : Array UInt8) (k : Nat) : ∃ os, (putRow (fun (b : UInt8) => Value.int .u8 (b.toNat : Int)) (w.alloc o) w.heap.size 0 dk).drewN k = grow (w.drewN k) os := by
  rw [alloc_eq_grow]
  obtain ⟨os', _, e⟩ := putRow_grow_new (fun (b : UInt8) => Value.int .u8 (b.toNat : Int)) w #[o] w.heap.size 0 dk (Nat.le_refl _)
  exact ⟨os', by rw [e]; rfl⟩
open Go.Sort Go.Lib in
set_option maxHeartbeats 6400000 in
set_option maxRecDepth 100000 in
theorem fuint82 (u : Nat) (hu : 100 ≤ u) (hu64 : u < 18446744073709551616) (w : World) (htab : Lib.TabIs Tryd.prog w "internal/strconv.uint64pow10" .u64 Lib.pow10Tab) :
    Calls Tryd.prog 82 #[.int .u64 (u : Int), .int .i64 10] w fun e w' => e = .returned (.string ⟨(Lib.decDigits u).toArray⟩) ∧ ∃ k os, w' = grow (w.drewN k) os := by
  have hu1 : 1 ≤ u := by omega
  have hnd20 : Lib.nDigits u ≤ 20 := by have := Lib.numDigits_eq u hu1 hu64; split at this <;> omega
  have hb3 : Lib.nDigits u ≤ 24 := by omega
  have hal : Tryd.prog.arrayLen 114 = 24 := by simp [Program.arrayLen, Tryd.underlying114]
  have hsl1 : ∀ W, (Instr.sliceAt 114 (.pointer (some ⟨w.heap.size, 0, none⟩)) none (some (.int .i64 (Lib.nDigits u : Int))) none).run Tryd.prog W = .ok (.slice (some ⟨w.heap.size, 0, none⟩) (Lib.nDigits u) 24) W := fun W => by
    rw [run_sliceAt_array_h W 114 ⟨w.heap.size, 0, none⟩ (by simp [Program.arrayLen, Program.elem, Tryd.underlying114]) .i64 (Lib.nDigits u : Int) (by omega) (by rw [hal]; omega)]
    go_simp
  have hH0 := holds_zero0 w 114 (Lib.nDigits u) (by omega)
  have hfmt := Tryd.internal_strconv_formatBase10 w.heap.size 0 24 u (Array.replicate (Lib.nDigits u) 0) (w.alloc (.cells Lib.zeros24 114)) hH0 (by rw [Array.size_replicate]; exact Lib.lt_pow_nDigits u) hu64 (by rw [Array.size_replicate]; omega)
  rw [Array.size_replicate] at hfmt
  have HH0 := Lib.hid hH0
  clear hH0 hal
  go_enter Tryd.func82, Tryd.ntmps82
  go_wp2_with (first
    | (go_at_call 93; refine (Tryd.internal_strconv_numDigits u hu1 hu64 _ (Lib.tabIs_alloc htab _)).mono ?_; rintro e w' ⟨rfl, rfl⟩))
  go_at_call 94
  refine hfmt.mono ?_
  rintro e w' ⟨rfl, k, v', dk, rfl, hF⟩
  have hcv : (convert 68 9 (.slice (some ⟨w.heap.size, 0, none⟩) (Lib.nDigits u) 24)).run Tryd.prog ((putRow (fun (b : UInt8) => Value.int .u8 (b.toNat : Int)) (w.alloc (.cells Lib.zeros24 114)) w.heap.size 0 dk).drewN k) = .ok (.string ⟨(Lib.decDigits u).toArray⟩) ((putRow (fun (b : UInt8) => Value.int .u8 (b.toNat : Int)) (w.alloc (.cells Lib.zeros24 114)) w.heap.size 0 dk).drewN k) := by
    have h := run_convert_bytes_back (P := Tryd.prog) ((putRow (fun (b : UInt8) => Value.int .u8 (b.toNat : Int)) (w.alloc (.cells Lib.zeros24 114)) w.heap.size 0 dk).drewN k) 68 9 5 ⟨w.heap.size, 0, none⟩ 24 (Lib.decDigits u) Tryd.underlying68 Tryd.underlying5 Tryd.underlying9 (fun j hj => by
      rw [Lib.row_is_numeral hF j hj, Lib.add_plain, World.cell?_drewN]
      exact cell?_putRow (fun (b : UInt8) => Value.int .u8 (b.toNat : Int)) _ w.heap.size 0 _ dk HH0.out (by rw [hF.size, Array.size_replicate]) j (by rw [hF.size]; rw [Lib.decDigits_length] at hj; exact hj))
    rw [Lib.decDigits_length] at h
    exact h
  go_wp2
  go_ret
  obtain ⟨os, eo⟩ := fin_pos0 w (.cells Lib.zeros24 114) dk k
  exact ⟨rfl, k, os, eo⟩
theorem tab10 {w : World} (h : TabW w) : Lib.TabIs Tryd.prog w "internal/strconv.uint64pow10" .u64 Lib.pow10Tab := tabIs (g := 0) h (by kernel_rfl) rfl
theorem itoa_b (n : Nat) (h : n < 9223372036854775808) : Pure Tryd.prog 80 [iC (n : Int)] (.c (sC (decB n))) :=
  Pure.of_grow [.int .i64 (n : Int)] (fun w hw => by
    have := Tryd.strconv_Itoa (n : Int) (by omega) (by omega) w (tab10 hw)
    rw [Lib.itoa_nonneg] at this; exact this) fun c => .t (.v rfl)
theorem fint_b (n : Nat) (h : n < 9223372036854775808) : Pure Tryd.prog 81 [iC (n : Int), iC 10] (.c (sC (decB n))) :=
  Pure.of_grow [.int .i64 (n : Int), .int .i64 10] (fun w hw => by
    have := Tryd.strconv_FormatInt_10 (n : Int) (by omega) (by omega) w (tab10 hw)
    rw [Lib.itoa_nonneg] at this; exact this) fun c => .t (.v rfl)
theorem iuint_b (n : Nat) (h : n < 9223372036854775808) : Pure Tryd.prog 82 [u64C n, iC 10] (.c (sC (decB n))) := by
  by_cases h1 : n < 100
  · exact iuint_s n h1
  · exact Pure.of_grow [.int .u64 (n : Int), .int .i64 10] (fun w hw => fuint82 n (by omega) (by omega) w (tab10 hw)) fun c => .t (.v rfl)
theorem decB_size' {n : Nat} (h : n < 9223372036854775808) : (decB n).size ≤ 20 ∧ 1 ≤ (decB n).size := by
  have e : (decB n).size = (Lib.decDigits n).length := by simp [decB, ByteArray.size]
  rw [e, Lib.decDigits_length]
  by_cases h0 : n = 0
  · subst h0; rw [Lib.nDigits_small (by decide)]; decide
  · have h2 : Lib.nDigits n ≤ 20 := by have := Lib.numDigits_eq n (by omega) (by omega); split at this <;> omega
    have h3 : 1 ≤ Lib.nDigits n := by
      by_cases h1 : n < 10
      · rw [Lib.nDigits_small h1]; decide
      · rw [Lib.nDigits_big h1]; omega
    exact ⟨h2, h3⟩

set_option maxRecDepth 20000 in
theorem fuint_b (n : Nat) (h : n < 9223372036854775808) : Pure Tryd.prog 51 [u64C n, iC 10] (.c (sC (decB n))) := by
  intro H
  refine Spec.enter Tryd.func51 rfl ?_
  refine AW.wk (Wk.keep 8 [(0, .c (u64C n)), (1, .c (iC 10))] [] (H) rfl ⟨rfl, rfl, trivial⟩ trivial (fun _ _ h => h) rfl) ?_
  refine AW.seq ?_
  refine AW.reg ?_
  refine SeqK.q (q_asC rfl rfl) rfl rfl rfl ?_
  refine SeqK.nil ?_
  refine AW.seq ?_
  refine AW.reg ?_
  refine SeqK.q (q_mvC rfl rfl) rfl rfl rfl ?_
  refine SeqK.q (q_mvC rfl rfl) rfl rfl rfl ?_
  refine SeqK.q (q_call _ rfl Fx.fn82 rfl (iuint_b n h) rfl) rfl rfl rfl ?_
  refine SeqK.q (q_asC rfl rfl) rfl rfl rfl ?_
  refine SeqK.nil ?_
  refine AW.ret ?_
  exact fin_x (x := .c _) H (.tmp rfl .nil) rfl (fun _ _ h => h) ⟨rfl, rfl⟩

theorem numOk63 : NumOk (· < 9223372036854775808) := ⟨itoa_b, fint_b, fuint_b, fun n h => decB_size' h⟩
theorem num_vld (t : Tm) : rgT t → vldT t = true → numT (· < 9223372036854775808) t := by
  induction t using Tm.ind with
  | h t ih =>
    intro hr hv
    have hr' := (rgT_eq t).1 hr
    have hs := smallB_iff.1 (vldT_small hv)
    refine (numT_eq t).2 ⟨⟨by show t.c.natAbs < 9223372036854775808; omega, (vldT_bok hv).c⟩, fun p hp => ?_⟩
    have hpv := vld_parts hv p hp
    have hpr := (rgP_eq p).1 (hr'.2 p hp)
    have hc := hs.2.1 p hp
    have hb := vldP_bok hpv
    have hk := vldP_vok hpv
    refine ⟨⟨⟨by show p.coef.natAbs < 9223372036854775808; omega, hpr.1⟩, ?_, fun h2 => ?_⟩, fun o ho => ?_⟩
    · have hv0 : 0 ≤ p.var := by
        rw [vldP_eq] at hpv
        split at hpv
        · simp only [Bool.and_eq_true, decide_eq_true_eq] at hpv; omega
        · simp only [Bool.and_eq_true, decide_eq_true_eq] at hpv; omega
      have := hpr.2.2.1.2
      exact ⟨hv0, by show p.var.toNat < 9223372036854775808; omega⟩
    · obtain ⟨d1, d2, _⟩ := hk.dv h2
      have := hpr.2.2.2.1.1.2
      exact ⟨by omega, by show p.dv.toNat < 9223372036854775808; omega, d2⟩
    · refine ih p hp o ho (hpr.2.2.2.2 o ho) ?_
      rw [vldP_eq] at hpv
      split at hpv
      · simp only [Bool.and_eq_true, decide_eq_true_eq] at hpv
        have := hpv.2.2
        rw [List.isEmpty_iff] at this
        rw [this] at ho; cases ho
      · simp only [Bool.and_eq_true, decide_eq_true_eq] at hpv
        have h3 := hpv.2.2
        match hof : p.of, h3 with
        | [o2], h3 =>
          rw [hof] at ho
          simp only [vldO, Bool.and_eq_true] at h3
          rw [List.mem_singleton.1 ho]; exact h3.2

end Go.Proofs.YtfbdokfcebpkaaaDoor.W
namespace Go.Proofs.YtfbdokfcebpkaaaDoor.W
open Go.RowKit E M
set_option linter.unusedVariables false
set_option linter.unusedSimpArgs false
set_option linter.unusedSectionVars false
theorem w8d {n : Int} (h : 0 ≤ n) (h' : n ≤ 255) : IntKind.u8.wrap n = n := by
  simp only [IntKind.wrap, IntKind.bits, IntKind.signed, Bool.false_and, Bool.false_eq_true, if_false]; omega
theorem quo10 {n : Nat} (h : n < 9223372036854775808) : IntKind.i64.wrap ((n : Int).tdiv 10) = ((n / 10 : Nat) : Int) := by
  have h1 : (n : Int).tdiv 10 = ((n / 10 : Nat) : Int) := rfl
  rw [h1, w64 (by omega) (by omega)]
theorem dig_byte {n : Nat} (h : n < 10) : UInt8.ofNat (48 + (n : Int)).toNat = UInt8.ofNat (48 + n) := by
  rw [show (48 + (n : Int)).toNat = 48 + n by omega]
theorem dec_lo {n : Nat} (h : n < 10) : bStr [48 + ((n % 10 : Nat) : Int)] = decB n := by
  rw [decB, Lib.decDigits_one h]
  show ByteArray.empty.push (UInt8.ofNat (48 + ((n % 10 : Nat) : Int)).toNat) = _
  rw [Nat.mod_eq_of_lt h, dig_byte h]; rfl
theorem dec_hi {n : Nat} (h : ¬ n < 10) : decB (n / 10) ++ bStr [48 + ((n % 10 : Nat) : Int)] = decB n := by
  have e : Lib.decDigits n = Lib.decDigits (n / 10) ++ [UInt8.ofNat (48 + n % 10)] := by rw [Lib.decDigits, dif_neg h]
  have e2 : bStr [48 + ((n % 10 : Nat) : Int)] = ⟨#[UInt8.ofNat (48 + n % 10)]⟩ := by
    show ByteArray.empty.push (UInt8.ofNat (48 + ((n % 10 : Nat) : Int)).toNat) = _
    rw [dig_byte (Nat.mod_lt _ (by decide))]; rfl
  rw [e2, decB, decB, e]
  apply ByteArray.ext
  simp [ByteArray.data_append]

set_option maxRecDepth 20000 in
theorem digits_of (n : Nat) (hn : n < 9223372036854775808) (ih : ∀ m : Nat, m < n → Pure Tryd.prog 53 [iC (m : Int)] (.c (sC (decB m)))) : Pure Tryd.prog 53 [iC (n : Int)] (.c (sC (decB n))) := by
  intro H
  refine Spec.enter Tryd.func53 rfl ?_
  refine AW.wk (Wk.keep 18 [(0, .c (iC (n : Int)))] [] (H) rfl ⟨rfl, trivial⟩ trivial (fun _ _ h => h) rfl) ?_
  refine AW.seq ?_
  refine AW.reg ?_
  refine SeqK.q (q_asC rfl rfl) rfl rfl rfl ?_
  refine SeqK.nil ?_
  refine AW.seq ?_
  refine AW.reg ?_
  refine SeqK.q (q_mvC rfl rfl) rfl rfl rfl ?_
  refine SeqK.q (q_remC (c := ((n % 10 : Nat) : Int)) rfl rfl rfl (by decide) rfl) rfl rfl rfl ?_
  refine SeqK.q (q_add _ rfl rfl rfl (w64 (by omega) (by omega))) rfl rfl rfl ?_
  refine SeqK.q (q_conv _ rfl Fx.un5 rfl ((by show IntKind.u8.wrap _ = 48 + ((n % 10 : Nat) : Int); exact w8d (by omega) (by omega))) ⟨_, Fx.un2⟩) rfl rfl rfl ?_
  refine SeqK.q (q_buildSlice _ rfl Fx.el68 rfl (by decide) rfl) rfl rfl rfl ?_
  refine SeqK.q (q_convBS (l := [48 + ((n % 10 : Nat) : Int)]) rfl Fx.un68 Fx.un5 Fx.un9 rfl) rfl rfl rfl ?_
  refine SeqK.q (q_asC rfl rfl) rfl rfl rfl ?_
  refine SeqK.nil ?_
  refine AW.seq ?_
  refine AW.seq ?_
  refine AW.reg ?_
  refine SeqK.q (q_mvC rfl rfl) rfl rfl rfl ?_
  refine SeqK.q (q_lss rfl rfl rfl) rfl rfl rfl ?_
  refine SeqK.nil ?_
  refine AW.condD rfl (fun h11 => ?_) (fun h11 => ?_)
  ·
    refine AW.seq ?_
    refine AW.reg ?_
    refine SeqK.q (q_mvC rfl rfl) rfl rfl rfl ?_
    refine SeqK.q (q_asC rfl rfl) rfl rfl rfl ?_
    refine SeqK.nil ?_
    refine AW.ret ?_
    exact fin_x (x := .c _) (H) (.tmp rfl .nil) rfl (fun _ _ h => h) (⟨by rw [dec_lo (by omega)], rfl⟩)
  ·
    have hds := (decB_size' (n := n / 10) (by omega)).1
    have e1 : (bStr [48 + ((n % 10 : Nat) : Int)]).size = 1 := rfl
    refine AW.skip ?_
    refine AW.seq ?_
    refine AW.reg ?_
    refine SeqK.q (q_mvC rfl rfl) rfl rfl rfl ?_
    refine SeqK.q (q_quo _ rfl rfl rfl (by decide) (quo10 hn)) rfl rfl rfl ?_
    refine SeqK.q (q_call _ rfl Fx.fn53 rfl (ih (n / 10) (by omega)) rfl) rfl rfl rfl ?_
    refine SeqK.q (q_mvC rfl rfl) rfl rfl rfl ?_
    refine SeqK.q (q_addS rfl rfl rfl (by omega)) rfl rfl rfl ?_
    refine SeqK.q (q_asC rfl rfl) rfl rfl rfl ?_
    refine SeqK.nil ?_
    refine AW.ret ?_
    exact fin_x (x := .c _) (H) (.tmp rfl .nil) rfl (fun _ _ h => h) (⟨by rw [dec_hi (by omega)], rfl⟩)

theorem digits_any (n : Nat) : n < 9223372036854775808 → Pure Tryd.prog 53 [iC (n : Int)] (.c (sC (decB n))) := by
  induction n using Nat.strongRecOn with
  | ind n ih => intro h; exact digits_of n h fun m hm => ih m hm (by omega)
theorem digitsI {v : Int} (h0 : 0 ≤ v) (h : v.toNat < 9223372036854775808) : Pure Tryd.prog 53 [iC v] (.c (sC (decB v.toNat))) := by
  obtain ⟨n, rfl⟩ := Int.eq_ofNat_of_zero_le h0
  exact digits_any n h
theorem sCe {a b : ByteArray} (h : a = b) : X.c (sC a) = .c (sC b) := by rw [h]

set_option maxRecDepth 20000 in
theorem element_any (f n : Bool) (s : ByteArray) (hs : s.size ≤ 1000000000000) : Pure Tryd.prog 55 [bC f, bC n, sC s] (.c (sC (sep f n ++ s))) := by
  intro H
  refine Spec.enter Tryd.func55 rfl ?_
  refine AW.wk (Wk.keep 20 [(0, .c (bC f)), (1, .c (bC n)), (2, .c (sC s))] [] (H) rfl ⟨rfl, rfl, rfl, trivial⟩ trivial (fun _ _ h => h) rfl) ?_
  refine AW.seq ?_
  refine AW.reg ?_
  refine SeqK.q (q_asC rfl rfl) rfl rfl rfl ?_
  refine SeqK.nil ?_
  refine AW.seq ?_
  refine AW.seq ?_
  refine AW.reg ?_
  refine SeqK.q (q_mvC rfl rfl) rfl rfl rfl ?_
  refine SeqK.qB (q_mvC rfl rfl) rfl rfl rfl (fun g8 => ?_) (fun g8 => ?_)
  ·
    refine SeqK.on (q_mvC rfl rfl) rfl rfl rfl rfl rfl ?_
    refine SeqK.q (q_pkT rfl rfl rfl) rfl rfl rfl ?_
    refine SeqK.nil ?_
    refine AW.cond _ rfl (fun h10 => ?_) (fun h10 => ?_)
    ·
      refine AW.seq ?_
      refine AW.reg ?_
      refine SeqK.q (q_mvC rfl rfl) rfl rfl rfl ?_
      refine SeqK.q (q_addS rfl rfl rfl (by have e1 : (⟨#[45]⟩ : ByteArray).size = 1 := rfl; omega)) rfl rfl rfl ?_
      refine SeqK.q (q_asC rfl rfl) rfl rfl rfl ?_
      refine SeqK.nil ?_
      refine AW.ret ?_
      exact fin_x (x := .c _) (H) (.tmp rfl .nil) rfl (fun _ _ h => h) (⟨sCe (by cases f <;> cases n <;> first | rfl | contradiction | simp_all), rfl⟩)
    ·
      refine AW.skip ?_
      refine AW.seq ?_
      refine AW.seq ?_
      refine AW.reg ?_
      refine SeqK.q (q_mvC rfl rfl) rfl rfl rfl ?_
      refine SeqK.nil ?_
      refine AW.cond _ rfl (fun h13 => ?_) (fun h13 => ?_)
      ·
        refine AW.seq ?_
        refine AW.reg ?_
        refine SeqK.q (q_mvC rfl rfl) rfl rfl rfl ?_
        refine SeqK.q (q_asC rfl rfl) rfl rfl rfl ?_
        refine SeqK.nil ?_
        refine AW.ret ?_
        exact fin_x (x := .c _) (H) (.tmp rfl .nil) rfl (fun _ _ h => h) (⟨sCe (by cases f <;> cases n <;> first | rfl | contradiction | simp_all), rfl⟩)
      ·
        refine AW.skip ?_
        refine AW.seq ?_
        refine AW.seq ?_
        refine AW.reg ?_
        refine SeqK.q (q_mvC rfl rfl) rfl rfl rfl ?_
        refine SeqK.nil ?_
        refine AW.cond _ rfl (fun h15 => ?_) (fun h15 => ?_)
        ·
          refine AW.seq ?_
          refine AW.reg ?_
          refine SeqK.q (q_mvC rfl rfl) rfl rfl rfl ?_
          refine SeqK.q (q_addS rfl rfl rfl (by have e1 : (⟨#[32, 45, 32]⟩ : ByteArray).size = 3 := rfl; omega)) rfl rfl rfl ?_
          refine SeqK.q (q_asC rfl rfl) rfl rfl rfl ?_
          refine SeqK.nil ?_
          refine AW.ret ?_
          exact fin_x (x := .c _) (H) (.tmp rfl .nil) rfl (fun _ _ h => h) (⟨sCe (by cases f <;> cases n <;> first | rfl | contradiction | simp_all), rfl⟩)
        ·
          refine AW.skip ?_
          refine AW.seq ?_
          refine AW.reg ?_
          refine SeqK.q (q_mvC rfl rfl) rfl rfl rfl ?_
          refine SeqK.q (q_addS rfl rfl rfl (by have e1 : (⟨#[32, 43, 32]⟩ : ByteArray).size = 3 := rfl; omega)) rfl rfl rfl ?_
          refine SeqK.q (q_asC rfl rfl) rfl rfl rfl ?_
          refine SeqK.nil ?_
          refine AW.ret ?_
          exact fin_x (x := .c _) (H) (.tmp rfl .nil) rfl (fun _ _ h => h) (⟨sCe (by cases f <;> cases n <;> first | rfl | contradiction | simp_all), rfl⟩)
  ·
    refine SeqK.off rfl rfl rfl rfl rfl rfl ?_
    refine SeqK.q (q_pkF rfl rfl rfl) rfl rfl rfl ?_
    refine SeqK.nil ?_
    refine AW.condF rfl ?_
    refine AW.skip ?_
    refine AW.seq ?_
    refine AW.seq ?_
    refine AW.reg ?_
    refine SeqK.q (q_mvC rfl rfl) rfl rfl rfl ?_
    refine SeqK.nil ?_
    refine AW.cond _ rfl (fun h13 => ?_) (fun h13 => ?_)
    ·
      refine AW.seq ?_
      refine AW.reg ?_
      refine SeqK.q (q_mvC rfl rfl) rfl rfl rfl ?_
      refine SeqK.q (q_asC rfl rfl) rfl rfl rfl ?_
      refine SeqK.nil ?_
      refine AW.ret ?_
      exact fin_x (x := .c _) (H) (.tmp rfl .nil) rfl (fun _ _ h => h) (⟨sCe (by cases f <;> cases n <;> first | rfl | contradiction | simp_all), rfl⟩)
    ·
      refine AW.skip ?_
      refine AW.seq ?_
      refine AW.seq ?_
      refine AW.reg ?_
      refine SeqK.q (q_mvC rfl rfl) rfl rfl rfl ?_
      refine SeqK.nil ?_
      refine AW.cond _ rfl (fun h15 => ?_) (fun h15 => ?_)
      ·
        refine AW.seq ?_
        refine AW.reg ?_
        refine SeqK.q (q_mvC rfl rfl) rfl rfl rfl ?_
        refine SeqK.q (q_addS rfl rfl rfl (by have e1 : (⟨#[32, 45, 32]⟩ : ByteArray).size = 3 := rfl; omega)) rfl rfl rfl ?_
        refine SeqK.q (q_asC rfl rfl) rfl rfl rfl ?_
        refine SeqK.nil ?_
        refine AW.ret ?_
        exact fin_x (x := .c _) (H) (.tmp rfl .nil) rfl (fun _ _ h => h) (⟨sCe (by cases f <;> cases n <;> first | rfl | contradiction | simp_all), rfl⟩)
      ·
        refine AW.skip ?_
        refine AW.seq ?_
        refine AW.reg ?_
        refine SeqK.q (q_mvC rfl rfl) rfl rfl rfl ?_
        refine SeqK.q (q_addS rfl rfl rfl (by have e1 : (⟨#[32, 43, 32]⟩ : ByteArray).size = 3 := rfl; omega)) rfl rfl rfl ?_
        refine SeqK.q (q_asC rfl rfl) rfl rfl rfl ?_
        refine SeqK.nil ?_
        refine AW.ret ?_
        exact fin_x (x := .c _) (H) (.tmp rfl .nil) rfl (fun _ _ h => h) (⟨sCe (by cases f <;> cases n <;> first | rfl | contradiction | simp_all), rfl⟩)

theorem fS_first {t : Tm} (h : numT (· < 9223372036854775808) t) {i : Nat} (hi : i ≤ t.ps.length) : decide ((i : Int) = 0) = decide ((fS t i).size = 0) := by
  have h1 := fmtPs_pos numOk63 (l := t.ps.take i) (fun p hp => (((numT_eq t).1 h).2 p (List.mem_of_mem_take hp)).1) ByteArray.empty
  have h2 : ByteArray.empty.size = 0 := rfl
  have h3 : (t.ps.take i).length = i := by rw [List.length_take]; omega
  have h4 : fS t i = fmtPs (t.ps.take i) ByteArray.empty := rfl
  by_cases h0 : i = 0
  · subst h0
    have : (fS t 0).size = 0 := by rw [h4, List.take_zero, fmtPs]; rfl
    simp [this]
  · have : (fS t i).size ≠ 0 := by rw [h4]; omega
    simp [this, h0]
theorem bas (a b c : ByteArray) : a ++ (b ++ c) = a ++ b ++ c := (ByteArray.append_assoc).symm
theorem fmtP_k0 {p : Pt} (h : ¬ p.kind = 1) (h2 : ¬ p.kind = 2) : sx ++ decB p.var.toNat = fmtP p := by rw [fmtP_eq, if_neg h, if_neg h2]
theorem fmtP_k1 {p : Pt} (h : p.kind = 1) : (⟨#[108, 101, 110, 103, 116, 104, 40]⟩ : ByteArray) ++ (sx ++ decB p.var.toNat) ++ spar = fmtP p := by
  rw [fmtP_eq, if_pos h, bas]; rfl
theorem fmtP_k2 {p : Pt} (h : ¬ p.kind = 1) (h2 : p.kind = 2) (h0 : 0 < p.of.length) : sdiv ++ fmtT p.of[0] ++ scom ++ decB p.dv.toNat ++ spar = fmtP p := by
  rw [fmtP_eq, if_neg h, if_pos h2, fmtO_eq h0]
theorem el_1 {p : Pt} {s : ByteArray} (h : s = fmtP p) (hc : ¬ (p.coef.natAbs : Int) = 1) : decB p.coef.natAbs ++ sstar ++ s = elS p := by rw [elS, if_pos (by omega), h]
theorem el_0 {p : Pt} {s : ByteArray} (h : s = fmtP p) (hc : (p.coef.natAbs : Int) = 1) : s = elS p := by rw [elS, if_neg (by omega), h]
theorem fS_next {t : Tm} (h : numT (· < 9223372036854775808) t) {i : Nat} (hi : i < t.ps.length) {s : ByteArray} (hs : s = elS t.ps[i]) : fS t i ++ (sep (decide ((i : Int) = 0)) (decide (t.ps[i].coef < 0)) ++ s) = fS t (i + 1) := by
  rw [bas, hs, fS_first h (by omega), fS, fS, fmtPs_take hi]

set_option maxHeartbeats 4000000 in
set_option maxRecDepth 20000 in
theorem rformat_of (t : Tm) (hn : numT (· < 9223372036854775808) t) (hN : t.cnt ≤ 100000) (ih : ∀ p ∈ t.ps, ∀ o ∈ p.of, numT (· < 9223372036854775808) o → Pure Tryd.prog 17 [tmC o] (.c (sC (fmtT o)))) : Pure Tryd.prog 17 [tmC t] (.c (sC (fmtT t))) := by
  intro H
  refine Spec.enter Tryd.func17 rfl ?_
  refine AW.wk (Wk.keep 88 [(0, .c (tmC t))] [] (H) rfl ⟨rfl, trivial⟩ trivial (fun _ _ h => h) rfl) ?_
  refine AW.seq ?_
  refine AW.reg ?_
  refine SeqK.r (b_box (r := [_, _]) rfl rfl rfl rfl rfl rfl) rfl ?_
  refine SeqK.q (q_asC rfl rfl) rfl rfl rfl ?_
  refine SeqK.nil ?_
  refine AW.seq ?_
  have hlt := len_ps t
  have hnt := (numT_eq t).1 hn
  have hss : ∀ i, i ≤ t.ps.length → (fS t i).size ≤ 60 * t.cnt := fun i hi => by
    have h1 := fmtPs_size numOk63 (l := t.ps.take i) (fun p hp => ⟨(hnt.2 p (List.mem_of_mem_take hp)).1, fmtP_size numOk63 (hnt.2 p (List.mem_of_mem_take hp)).1 fun o ho => fmtT_size numOk63 o ((hnt.2 p (List.mem_of_mem_take hp)).2 o ho)⟩) ByteArray.empty
    have h2 := cntPs_take_le t.ps i
    have h3 := Tm.cnt_eq t
    have h4 : ByteArray.empty.size = 0 := rfl
    show (fmtPs (t.ps.take i) ByteArray.empty).size ≤ _
    omega
  refine AW.reg ?_
  refine SeqK.q (q_asC rfl rfl) rfl rfl rfl ?_
  refine SeqK.nil ?_
  refine AW.seq ?_
  refine AW.seq ?_
  refine AW.reg ?_
  refine SeqK.q (q_asC rfl rfl) rfl rfl rfl ?_
  refine SeqK.nil ?_
  refine AW.block ?_
  refine AW.loop (fun (i : Nat) s => (i ≤ t.ps.length) ∧ s = ⟨88, sp [(1, .lp 1 0), (2, .c (sC ⟨#[]⟩)), (3, .c (sC (fS t i))), (4, iX .i64 ((i : Nat) : Int))], lv [(1, .box [.t (.v (.int .i64 t.c)), .t (.sl .un 5 (t.ps.map ptT))])], H⟩) (fun i => t.ps.length - i) 0 ⟨_, Wk.keep 88 [(1, .lp 1 0), (2, .c (sC ⟨#[]⟩)), (3, .c (sC (fS t ((0 : Nat))))), (4, iX .i64 ((((0 : Nat)) : Nat) : Int))] [(1, .box [.t (.v (.int .i64 t.c)), .t (.sl .un 5 (t.ps.map ptT))])] (H) rfl ⟨rfl, rfl, rfl, rfl, trivial⟩ ⟨rfl, trivial⟩ (fun _ _ h => h) rfl, Nat.zero_le _, rfl⟩ (fun i s hs => ?_)
  obtain ⟨hi0, rfl⟩ := hs
  refine AW.seq ?_
  refine AW.seq ?_
  refine AW.reg ?_
  refine SeqK.q (q_mvC rfl rfl) rfl rfl rfl ?_
  refine SeqK.q (q_fieldL _ rfl Fx.fl24_1 rfl rfl) rfl rfl rfl ?_
  refine SeqK.r (b_load (r := .a _) rfl Fx.ty22 rfl rfl rfl rfl rfl rfl) rfl ?_
  refine SeqK.q (q_len rfl Fx.un22 rfl) rfl rfl rfl ?_
  refine SeqK.q (q_lss rfl rfl rfl) rfl rfl rfl ?_
  refine SeqK.nil ?_
  refine AW.condD rfl (fun h11 => ?_) (fun h11 => ?_)
  ·
    have hi : i < t.ps.length := by rw [List.length_map] at h11; omega
    have hpi := hnt.2 _ (List.getElem_mem hi)
    have hsi := hss i (by omega)
    have hel := elS_size numOk63 hpi.1 (fun o ho => fmtT_size numOk63 o (hpi.2 o ho))
    have hcp := cnt_p (List.getElem_mem hi)
    have hcq := Pt.cnt_eq t.ps[i]
    have hcf := (numOk63.size _ hpi.1.coef.1).1
    have e1 : (⟨#[42]⟩ : ByteArray).size = 1 := rfl
    have hfp := fmtP_size numOk63 hpi.1 (fun o ho => fmtT_size numOk63 o (hpi.2 o ho))
    have hdv := (numOk63.size _ hpi.1.var.2).1
    have e2 : (⟨#[120]⟩ : ByteArray).size = 1 := rfl
    have e3 : (⟨#[108, 101, 110, 103, 116, 104, 40]⟩ : ByteArray).size = 7 := rfl
    have e4 : (⟨#[41]⟩ : ByteArray).size = 1 := rfl
    have e5 : (⟨#[100, 105, 118, 40]⟩ : ByteArray).size = 4 := rfl
    have e6 : (⟨#[44, 32]⟩ : ByteArray).size = 2 := rfl
    have hcn := hpi.1.coef.1
    refine AW.skip ?_
    refine AW.seq ?_
    refine AW.block ?_
    refine AW.seq ?_
    refine AW.reg ?_
    refine SeqK.q (q_fieldL _ rfl Fx.fl24_1 rfl rfl) rfl rfl rfl ?_
    refine SeqK.r (b_load (r := .a _) rfl Fx.ty22 rfl rfl rfl rfl rfl rfl) rfl ?_
    refine SeqK.q (q_mvC rfl rfl) rfl rfl rfl ?_
    refine SeqK.q (q_index _ rfl Fx.sl22 rfl rfl (by omega) (idx_map (f := ptT) hi)) rfl rfl rfl ?_
    refine SeqK.q (q_load (.g [_, _, _, _, _]) rfl Fx.ty62 rfl rfl rfl) rfl rfl rfl ?_
    refine SeqK.r (b_alloc (r := [_, _, _, _, _]) rfl rfl Fx.ze62 rfl rfl rfl rfl) rfl ?_
    refine SeqK.r (b_store (r := [_, _, _, _, _]) rfl rfl Fx.ty62 rfl rfl rfl rfl rfl rfl) rfl ?_
    refine SeqK.nil ?_
    refine AW.seq ?_
    refine AW.reg ?_
    refine SeqK.q (q_fieldL _ rfl Fx.fl62_2 rfl rfl) rfl rfl rfl ?_
    refine SeqK.r (b_load (r := .a _) rfl Fx.ty3 rfl rfl rfl rfl rfl rfl) rfl ?_
    refine SeqK.q (q_call _ rfl Fx.fn53 rfl (digitsI hpi.1.var.1 hpi.1.var.2) rfl) rfl rfl rfl ?_
    refine SeqK.q (q_addS rfl rfl rfl (by first | omega | (simp only [ByteArray.size_append]; omega))) rfl rfl rfl ?_
    refine SeqK.q (q_asC rfl rfl) rfl rfl rfl ?_
    refine SeqK.nil ?_
    refine AW.seq ?_
    refine AW.seq ?_
    refine AW.reg ?_
    refine SeqK.q (q_fieldL _ rfl Fx.fl62_1 rfl rfl) rfl rfl rfl ?_
    refine SeqK.r (b_load (r := .a _) rfl Fx.ty3 rfl rfl rfl rfl rfl rfl) rfl ?_
    refine SeqK.q (q_eql rfl rfl rfl) rfl rfl rfl ?_
    refine SeqK.nil ?_
    refine AW.condD rfl (fun h25 => ?_) (fun h25 => ?_)
    ·
      refine AW.reg ?_
      refine SeqK.q (q_mvC rfl rfl) rfl rfl rfl ?_
      refine SeqK.q (q_addS rfl rfl rfl (by first | omega | (simp only [ByteArray.size_append]; omega))) rfl rfl rfl ?_
      refine SeqK.q (q_addS rfl rfl rfl (by first | omega | (simp only [ByteArray.size_append]; omega))) rfl rfl rfl ?_
      refine SeqK.q (q_asC rfl rfl) rfl rfl rfl ?_
      refine SeqK.nil ?_
      refine AW.seq ?_
      refine AW.seq ?_
      refine AW.reg ?_
      refine SeqK.q (q_fieldL _ rfl Fx.fl62_1 rfl rfl) rfl rfl rfl ?_
      refine SeqK.r (b_load (r := .a _) rfl Fx.ty3 rfl rfl rfl rfl rfl rfl) rfl ?_
      refine SeqK.q (q_eql rfl rfl rfl) rfl rfl rfl ?_
      refine SeqK.nil ?_
      refine AW.condD rfl (fun h31 => ?_) (fun h31 => ?_)
      ·
        exact absurd h31 (by omega)
      ·
        refine AW.skip ?_
        refine AW.seq ?_
        refine AW.seq ?_
        refine AW.reg ?_
        refine SeqK.q (q_fieldL _ rfl Fx.fl62_0 rfl rfl) rfl rfl rfl ?_
        refine SeqK.r (b_load (r := .a _) rfl Fx.ty2 rfl rfl rfl rfl rfl rfl) rfl ?_
        refine SeqK.q (q_call _ rfl Fx.fn54 rfl (rabs_any _ (by first | (have k1 : t.ps[i].coef.natAbs < 9223372036854775808 := hpi.1.coef.1; omega) | (have k1 : t.c.natAbs < 9223372036854775808 := hnt.1.1; omega))) rfl) rfl rfl rfl ?_
        refine SeqK.q (q_neq rfl rfl rfl) rfl rfl rfl ?_
        refine SeqK.nil ?_
        refine AW.condD rfl (fun h47 => ?_) (fun h47 => ?_)
        ·
          refine AW.reg ?_
          refine SeqK.q (q_fieldL _ rfl Fx.fl62_0 rfl rfl) rfl rfl rfl ?_
          refine SeqK.r (b_load (r := .a _) rfl Fx.ty2 rfl rfl rfl rfl rfl rfl) rfl ?_
          refine SeqK.q (q_call _ rfl Fx.fn54 rfl (rabs_any _ (by first | (have k1 : t.ps[i].coef.natAbs < 9223372036854775808 := hpi.1.coef.1; omega) | (have k1 : t.c.natAbs < 9223372036854775808 := hnt.1.1; omega))) rfl) rfl rfl rfl ?_
          refine SeqK.q (q_call _ rfl Fx.fn53 rfl (digits_any _ hcn) rfl) rfl rfl rfl ?_
          refine SeqK.q (q_addS rfl rfl rfl (by first | omega | (simp only [ByteArray.size_append]; omega))) rfl rfl rfl ?_
          refine SeqK.q (q_mvC rfl rfl) rfl rfl rfl ?_
          refine SeqK.q (q_addS rfl rfl rfl (by first | omega | (simp only [ByteArray.size_append]; omega))) rfl rfl rfl ?_
          refine SeqK.q (q_asC rfl rfl) rfl rfl rfl ?_
          refine SeqK.nil ?_
          refine AW.reg ?_
          refine SeqK.q (q_mvC rfl rfl) rfl rfl rfl ?_
          refine SeqK.q (q_mvC rfl rfl) rfl rfl rfl ?_
          refine SeqK.q (q_eql rfl rfl rfl) rfl rfl rfl ?_
          refine SeqK.q (q_fieldL _ rfl Fx.fl62_0 rfl rfl) rfl rfl rfl ?_
          refine SeqK.r (b_load (r := .a _) rfl Fx.ty2 rfl rfl rfl rfl rfl rfl) rfl ?_
          refine SeqK.q (q_lss rfl rfl rfl) rfl rfl rfl ?_
          refine SeqK.q (q_mvC rfl rfl) rfl rfl rfl ?_
          refine SeqK.q (q_call _ rfl Fx.fn55 rfl (element_any _ _ _ (by first | omega | (simp only [ByteArray.size_append]; omega))) rfl) rfl rfl rfl ?_
          refine SeqK.q (q_addS rfl rfl rfl (by have := sep_size (decide ((i : Int) = 0)) (decide (t.ps[i].coef < 0)); simp only [ByteArray.size_append]; omega)) rfl rfl rfl ?_
          refine SeqK.q (q_asC rfl rfl) rfl rfl rfl ?_
          refine SeqK.nil ?_
          refine AW.wk (Wk.keep 88 [(1, .lp 1 0), (2, .c (sC ⟨#[]⟩)), (3, .c (sC (fS t (i + 1)))), (4, iX .i64 ((i : Nat) : Int))] [(1, .box [.t (.v (.int .i64 t.c)), .t (.sl .un 5 (t.ps.map ptT))])] (H) rfl ⟨rfl, rfl, by first | exact sCe (fS_next hn hi (el_1 (fmtP_k1 h25) h47)) | exact (sCe (fS_next hn hi (el_1 (fmtP_k1 h25) h47))).symm, rfl, trivial⟩ ⟨rfl, trivial⟩ (fun _ _ h => h) rfl) ?_
          refine AW.reg ?_
          refine SeqK.q (q_mvC rfl rfl) rfl rfl rfl ?_
          refine SeqK.q (q_add _ rfl rfl rfl (w64 (by omega) (by omega))) rfl rfl rfl ?_
          refine SeqK.q (q_asC rfl rfl) rfl rfl rfl ?_
          refine SeqK.nil ?_
          exact ⟨i + 1, _, Wk.keep 88 [(1, .lp 1 0), (2, .c (sC ⟨#[]⟩)), (3, .c (sC (fS t (i + 1)))), (4, iX .i64 (((i + 1) : Nat) : Int))] [(1, .box [.t (.v (.int .i64 t.c)), .t (.sl .un 5 (t.ps.map ptT))])] (H) rfl ⟨rfl, rfl, rfl, rfl, trivial⟩ ⟨rfl, trivial⟩ (fun _ _ h => h) rfl, by omega, hi, rfl⟩
        ·
          refine AW.skip ?_
          refine AW.reg ?_
          refine SeqK.q (q_mvC rfl rfl) rfl rfl rfl ?_
          refine SeqK.q (q_mvC rfl rfl) rfl rfl rfl ?_
          refine SeqK.q (q_eql rfl rfl rfl) rfl rfl rfl ?_
          refine SeqK.q (q_fieldL _ rfl Fx.fl62_0 rfl rfl) rfl rfl rfl ?_
          refine SeqK.r (b_load (r := .a _) rfl Fx.ty2 rfl rfl rfl rfl rfl rfl) rfl ?_
          refine SeqK.q (q_lss rfl rfl rfl) rfl rfl rfl ?_
          refine SeqK.q (q_mvC rfl rfl) rfl rfl rfl ?_
          refine SeqK.q (q_call _ rfl Fx.fn55 rfl (element_any _ _ _ (by first | omega | (simp only [ByteArray.size_append]; omega))) rfl) rfl rfl rfl ?_
          refine SeqK.q (q_addS rfl rfl rfl (by have := sep_size (decide ((i : Int) = 0)) (decide (t.ps[i].coef < 0)); simp only [ByteArray.size_append]; omega)) rfl rfl rfl ?_
          refine SeqK.q (q_asC rfl rfl) rfl rfl rfl ?_
          refine SeqK.nil ?_
          refine AW.wk (Wk.keep 88 [(1, .lp 1 0), (2, .c (sC ⟨#[]⟩)), (3, .c (sC (fS t (i + 1)))), (4, iX .i64 ((i : Nat) : Int))] [(1, .box [.t (.v (.int .i64 t.c)), .t (.sl .un 5 (t.ps.map ptT))])] (H) rfl ⟨rfl, rfl, by first | exact sCe (fS_next hn hi (el_0 (fmtP_k1 h25) (Classical.not_not.1 h47))) | exact (sCe (fS_next hn hi (el_0 (fmtP_k1 h25) (Classical.not_not.1 h47)))).symm, rfl, trivial⟩ ⟨rfl, trivial⟩ (fun _ _ h => h) rfl) ?_
          refine AW.reg ?_
          refine SeqK.q (q_mvC rfl rfl) rfl rfl rfl ?_
          refine SeqK.q (q_add _ rfl rfl rfl (w64 (by omega) (by omega))) rfl rfl rfl ?_
          refine SeqK.q (q_asC rfl rfl) rfl rfl rfl ?_
          refine SeqK.nil ?_
          exact ⟨i + 1, _, Wk.keep 88 [(1, .lp 1 0), (2, .c (sC ⟨#[]⟩)), (3, .c (sC (fS t (i + 1)))), (4, iX .i64 (((i + 1) : Nat) : Int))] [(1, .box [.t (.v (.int .i64 t.c)), .t (.sl .un 5 (t.ps.map ptT))])] (H) rfl ⟨rfl, rfl, rfl, rfl, trivial⟩ ⟨rfl, trivial⟩ (fun _ _ h => h) rfl, by omega, hi, rfl⟩
    ·
      refine AW.skip ?_
      refine AW.seq ?_
      refine AW.seq ?_
      refine AW.reg ?_
      refine SeqK.q (q_fieldL _ rfl Fx.fl62_1 rfl rfl) rfl rfl rfl ?_
      refine SeqK.r (b_load (r := .a _) rfl Fx.ty3 rfl rfl rfl rfl rfl rfl) rfl ?_
      refine SeqK.q (q_eql rfl rfl rfl) rfl rfl rfl ?_
      refine SeqK.nil ?_
      refine AW.condD rfl (fun h31 => ?_) (fun h31 => ?_)
      ·
        obtain ⟨hd0, hdn, hp0⟩ := hpi.1.dv h31
        have hdd := (numOk63.size _ hdn).1
        have hso := fmtT_size numOk63 _ (hpi.2 _ (List.getElem_mem hp0))
        have hco := cntTs_mem (List.getElem_mem hp0)
        refine AW.draw Fx.mo ?_
        refine LexK.q (q_fieldL _ rfl Fx.fl62_4 rfl rfl) rfl rfl rfl ?_
        refine LexK.r (b_load (r := .a _) rfl Fx.ty60 rfl rfl rfl rfl rfl rfl) rfl ?_
        refine LexK.q (q_index _ rfl Fx.sl60 rfl rfl (by omega) (idx_tm hp0)) rfl rfl rfl ?_
        refine LexK.q (q_load (.g [_, _]) rfl Fx.ty24 rfl rfl rfl) rfl rfl rfl ?_
        refine LexK.q (q_call _ rfl Fx.fn17 rfl (ih _ (List.getElem_mem hi) _ (List.getElem_mem hp0) (hpi.2 _ (List.getElem_mem hp0))) rfl) rfl rfl rfl ?_
        refine LexK.q (q_addS rfl rfl rfl (by first | omega | (simp only [ByteArray.size_append]; omega))) rfl rfl rfl ?_
        refine LexK.q (q_addS rfl rfl rfl (by first | omega | (simp only [ByteArray.size_append]; omega))) rfl rfl rfl ?_
        refine LexK.q (q_fieldL _ rfl Fx.fl62_3 rfl rfl) rfl rfl rfl ?_
        refine LexK.r (b_load (r := .a _) rfl Fx.ty2 rfl rfl rfl rfl rfl rfl) rfl ?_
        refine LexK.q (q_call _ rfl Fx.fn53 rfl (digitsI hd0 hdn) rfl) rfl rfl rfl ?_
        refine LexK.q (q_addS rfl rfl rfl (by first | omega | (simp only [ByteArray.size_append]; omega))) rfl rfl rfl ?_
        refine LexK.q (q_addS rfl rfl rfl (by first | omega | (simp only [ByteArray.size_append]; omega))) rfl rfl rfl ?_
        refine LexK.q (q_asC rfl rfl) rfl rfl rfl ?_
        refine LexK.nil (by kernel_rfl) ?_
        refine AW.seq ?_
        refine AW.seq ?_
        refine AW.reg ?_
        refine SeqK.q (q_fieldL _ rfl Fx.fl62_0 rfl rfl) rfl rfl rfl ?_
        refine SeqK.r (b_load (r := .a _) rfl Fx.ty2 rfl rfl rfl rfl rfl rfl) rfl ?_
        refine SeqK.q (q_call _ rfl Fx.fn54 rfl (rabs_any _ (by first | (have k1 : t.ps[i].coef.natAbs < 9223372036854775808 := hpi.1.coef.1; omega) | (have k1 : t.c.natAbs < 9223372036854775808 := hnt.1.1; omega))) rfl) rfl rfl rfl ?_
        refine SeqK.q (q_neq rfl rfl rfl) rfl rfl rfl ?_
        refine SeqK.nil ?_
        refine AW.condD rfl (fun h47 => ?_) (fun h47 => ?_)
        ·
          refine AW.reg ?_
          refine SeqK.q (q_fieldL _ rfl Fx.fl62_0 rfl rfl) rfl rfl rfl ?_
          refine SeqK.r (b_load (r := .a _) rfl Fx.ty2 rfl rfl rfl rfl rfl rfl) rfl ?_
          refine SeqK.q (q_call _ rfl Fx.fn54 rfl (rabs_any _ (by first | (have k1 : t.ps[i].coef.natAbs < 9223372036854775808 := hpi.1.coef.1; omega) | (have k1 : t.c.natAbs < 9223372036854775808 := hnt.1.1; omega))) rfl) rfl rfl rfl ?_
          refine SeqK.q (q_call _ rfl Fx.fn53 rfl (digits_any _ hcn) rfl) rfl rfl rfl ?_
          refine SeqK.q (q_addS rfl rfl rfl (by first | omega | (simp only [ByteArray.size_append]; omega))) rfl rfl rfl ?_
          refine SeqK.q (q_mvC rfl rfl) rfl rfl rfl ?_
          refine SeqK.q (q_addS rfl rfl rfl (by first | omega | (simp only [ByteArray.size_append]; omega))) rfl rfl rfl ?_
          refine SeqK.q (q_asC rfl rfl) rfl rfl rfl ?_
          refine SeqK.nil ?_
          refine AW.reg ?_
          refine SeqK.q (q_mvC rfl rfl) rfl rfl rfl ?_
          refine SeqK.q (q_mvC rfl rfl) rfl rfl rfl ?_
          refine SeqK.q (q_eql rfl rfl rfl) rfl rfl rfl ?_
          refine SeqK.q (q_fieldL _ rfl Fx.fl62_0 rfl rfl) rfl rfl rfl ?_
          refine SeqK.r (b_load (r := .a _) rfl Fx.ty2 rfl rfl rfl rfl rfl rfl) rfl ?_
          refine SeqK.q (q_lss rfl rfl rfl) rfl rfl rfl ?_
          refine SeqK.q (q_mvC rfl rfl) rfl rfl rfl ?_
          refine SeqK.q (q_call _ rfl Fx.fn55 rfl (element_any _ _ _ (by first | omega | (simp only [ByteArray.size_append]; omega))) rfl) rfl rfl rfl ?_
          refine SeqK.q (q_addS rfl rfl rfl (by have := sep_size (decide ((i : Int) = 0)) (decide (t.ps[i].coef < 0)); simp only [ByteArray.size_append]; omega)) rfl rfl rfl ?_
          refine SeqK.q (q_asC rfl rfl) rfl rfl rfl ?_
          refine SeqK.nil ?_
          refine AW.wk (Wk.keep 88 [(1, .lp 1 0), (2, .c (sC ⟨#[]⟩)), (3, .c (sC (fS t (i + 1)))), (4, iX .i64 ((i : Nat) : Int))] [(1, .box [.t (.v (.int .i64 t.c)), .t (.sl .un 5 (t.ps.map ptT))])] (H) rfl ⟨rfl, rfl, by first | exact sCe (fS_next hn hi (el_1 (fmtP_k2 h25 h31 hp0) h47)) | exact (sCe (fS_next hn hi (el_1 (fmtP_k2 h25 h31 hp0) h47))).symm, rfl, trivial⟩ ⟨rfl, trivial⟩ (fun _ _ h => h) rfl) ?_
          refine AW.reg ?_
          refine SeqK.q (q_mvC rfl rfl) rfl rfl rfl ?_
          refine SeqK.q (q_add _ rfl rfl rfl (w64 (by omega) (by omega))) rfl rfl rfl ?_
          refine SeqK.q (q_asC rfl rfl) rfl rfl rfl ?_
          refine SeqK.nil ?_
          exact ⟨i + 1, _, Wk.keep 88 [(1, .lp 1 0), (2, .c (sC ⟨#[]⟩)), (3, .c (sC (fS t (i + 1)))), (4, iX .i64 (((i + 1) : Nat) : Int))] [(1, .box [.t (.v (.int .i64 t.c)), .t (.sl .un 5 (t.ps.map ptT))])] (H) rfl ⟨rfl, rfl, rfl, rfl, trivial⟩ ⟨rfl, trivial⟩ (fun _ _ h => h) rfl, by omega, hi, rfl⟩
        ·
          refine AW.skip ?_
          refine AW.reg ?_
          refine SeqK.q (q_mvC rfl rfl) rfl rfl rfl ?_
          refine SeqK.q (q_mvC rfl rfl) rfl rfl rfl ?_
          refine SeqK.q (q_eql rfl rfl rfl) rfl rfl rfl ?_
          refine SeqK.q (q_fieldL _ rfl Fx.fl62_0 rfl rfl) rfl rfl rfl ?_
          refine SeqK.r (b_load (r := .a _) rfl Fx.ty2 rfl rfl rfl rfl rfl rfl) rfl ?_
          refine SeqK.q (q_lss rfl rfl rfl) rfl rfl rfl ?_
          refine SeqK.q (q_mvC rfl rfl) rfl rfl rfl ?_
          refine SeqK.q (q_call _ rfl Fx.fn55 rfl (element_any _ _ _ (by first | omega | (simp only [ByteArray.size_append]; omega))) rfl) rfl rfl rfl ?_
          refine SeqK.q (q_addS rfl rfl rfl (by have := sep_size (decide ((i : Int) = 0)) (decide (t.ps[i].coef < 0)); simp only [ByteArray.size_append]; omega)) rfl rfl rfl ?_
          refine SeqK.q (q_asC rfl rfl) rfl rfl rfl ?_
          refine SeqK.nil ?_
          refine AW.wk (Wk.keep 88 [(1, .lp 1 0), (2, .c (sC ⟨#[]⟩)), (3, .c (sC (fS t (i + 1)))), (4, iX .i64 ((i : Nat) : Int))] [(1, .box [.t (.v (.int .i64 t.c)), .t (.sl .un 5 (t.ps.map ptT))])] (H) rfl ⟨rfl, rfl, by first | exact sCe (fS_next hn hi (el_0 (fmtP_k2 h25 h31 hp0) (Classical.not_not.1 h47))) | exact (sCe (fS_next hn hi (el_0 (fmtP_k2 h25 h31 hp0) (Classical.not_not.1 h47)))).symm, rfl, trivial⟩ ⟨rfl, trivial⟩ (fun _ _ h => h) rfl) ?_
          refine AW.reg ?_
          refine SeqK.q (q_mvC rfl rfl) rfl rfl rfl ?_
          refine SeqK.q (q_add _ rfl rfl rfl (w64 (by omega) (by omega))) rfl rfl rfl ?_
          refine SeqK.q (q_asC rfl rfl) rfl rfl rfl ?_
          refine SeqK.nil ?_
          exact ⟨i + 1, _, Wk.keep 88 [(1, .lp 1 0), (2, .c (sC ⟨#[]⟩)), (3, .c (sC (fS t (i + 1)))), (4, iX .i64 (((i + 1) : Nat) : Int))] [(1, .box [.t (.v (.int .i64 t.c)), .t (.sl .un 5 (t.ps.map ptT))])] (H) rfl ⟨rfl, rfl, rfl, rfl, trivial⟩ ⟨rfl, trivial⟩ (fun _ _ h => h) rfl, by omega, hi, rfl⟩
      ·
        refine AW.skip ?_
        refine AW.seq ?_
        refine AW.seq ?_
        refine AW.reg ?_
        refine SeqK.q (q_fieldL _ rfl Fx.fl62_0 rfl rfl) rfl rfl rfl ?_
        refine SeqK.r (b_load (r := .a _) rfl Fx.ty2 rfl rfl rfl rfl rfl rfl) rfl ?_
        refine SeqK.q (q_call _ rfl Fx.fn54 rfl (rabs_any _ (by first | (have k1 : t.ps[i].coef.natAbs < 9223372036854775808 := hpi.1.coef.1; omega) | (have k1 : t.c.natAbs < 9223372036854775808 := hnt.1.1; omega))) rfl) rfl rfl rfl ?_
        refine SeqK.q (q_neq rfl rfl rfl) rfl rfl rfl ?_
        refine SeqK.nil ?_
        refine AW.condD rfl (fun h47 => ?_) (fun h47 => ?_)
        ·
          refine AW.reg ?_
          refine SeqK.q (q_fieldL _ rfl Fx.fl62_0 rfl rfl) rfl rfl rfl ?_
          refine SeqK.r (b_load (r := .a _) rfl Fx.ty2 rfl rfl rfl rfl rfl rfl) rfl ?_
          refine SeqK.q (q_call _ rfl Fx.fn54 rfl (rabs_any _ (by first | (have k1 : t.ps[i].coef.natAbs < 9223372036854775808 := hpi.1.coef.1; omega) | (have k1 : t.c.natAbs < 9223372036854775808 := hnt.1.1; omega))) rfl) rfl rfl rfl ?_
          refine SeqK.q (q_call _ rfl Fx.fn53 rfl (digits_any _ hcn) rfl) rfl rfl rfl ?_
          refine SeqK.q (q_addS rfl rfl rfl (by first | omega | (simp only [ByteArray.size_append]; omega))) rfl rfl rfl ?_
          refine SeqK.q (q_mvC rfl rfl) rfl rfl rfl ?_
          refine SeqK.q (q_addS rfl rfl rfl (by first | omega | (simp only [ByteArray.size_append]; omega))) rfl rfl rfl ?_
          refine SeqK.q (q_asC rfl rfl) rfl rfl rfl ?_
          refine SeqK.nil ?_
          refine AW.reg ?_
          refine SeqK.q (q_mvC rfl rfl) rfl rfl rfl ?_
          refine SeqK.q (q_mvC rfl rfl) rfl rfl rfl ?_
          refine SeqK.q (q_eql rfl rfl rfl) rfl rfl rfl ?_
          refine SeqK.q (q_fieldL _ rfl Fx.fl62_0 rfl rfl) rfl rfl rfl ?_
          refine SeqK.r (b_load (r := .a _) rfl Fx.ty2 rfl rfl rfl rfl rfl rfl) rfl ?_
          refine SeqK.q (q_lss rfl rfl rfl) rfl rfl rfl ?_
          refine SeqK.q (q_mvC rfl rfl) rfl rfl rfl ?_
          refine SeqK.q (q_call _ rfl Fx.fn55 rfl (element_any _ _ _ (by first | omega | (simp only [ByteArray.size_append]; omega))) rfl) rfl rfl rfl ?_
          refine SeqK.q (q_addS rfl rfl rfl (by have := sep_size (decide ((i : Int) = 0)) (decide (t.ps[i].coef < 0)); simp only [ByteArray.size_append]; omega)) rfl rfl rfl ?_
          refine SeqK.q (q_asC rfl rfl) rfl rfl rfl ?_
          refine SeqK.nil ?_
          refine AW.wk (Wk.keep 88 [(1, .lp 1 0), (2, .c (sC ⟨#[]⟩)), (3, .c (sC (fS t (i + 1)))), (4, iX .i64 ((i : Nat) : Int))] [(1, .box [.t (.v (.int .i64 t.c)), .t (.sl .un 5 (t.ps.map ptT))])] (H) rfl ⟨rfl, rfl, by first | exact sCe (fS_next hn hi (el_1 (fmtP_k0 h25 h31) h47)) | exact (sCe (fS_next hn hi (el_1 (fmtP_k0 h25 h31) h47))).symm, rfl, trivial⟩ ⟨rfl, trivial⟩ (fun _ _ h => h) rfl) ?_
          refine AW.reg ?_
          refine SeqK.q (q_mvC rfl rfl) rfl rfl rfl ?_
          refine SeqK.q (q_add _ rfl rfl rfl (w64 (by omega) (by omega))) rfl rfl rfl ?_
          refine SeqK.q (q_asC rfl rfl) rfl rfl rfl ?_
          refine SeqK.nil ?_
          exact ⟨i + 1, _, Wk.keep 88 [(1, .lp 1 0), (2, .c (sC ⟨#[]⟩)), (3, .c (sC (fS t (i + 1)))), (4, iX .i64 (((i + 1) : Nat) : Int))] [(1, .box [.t (.v (.int .i64 t.c)), .t (.sl .un 5 (t.ps.map ptT))])] (H) rfl ⟨rfl, rfl, rfl, rfl, trivial⟩ ⟨rfl, trivial⟩ (fun _ _ h => h) rfl, by omega, hi, rfl⟩
        ·
          refine AW.skip ?_
          refine AW.reg ?_
          refine SeqK.q (q_mvC rfl rfl) rfl rfl rfl ?_
          refine SeqK.q (q_mvC rfl rfl) rfl rfl rfl ?_
          refine SeqK.q (q_eql rfl rfl rfl) rfl rfl rfl ?_
          refine SeqK.q (q_fieldL _ rfl Fx.fl62_0 rfl rfl) rfl rfl rfl ?_
          refine SeqK.r (b_load (r := .a _) rfl Fx.ty2 rfl rfl rfl rfl rfl rfl) rfl ?_
          refine SeqK.q (q_lss rfl rfl rfl) rfl rfl rfl ?_
          refine SeqK.q (q_mvC rfl rfl) rfl rfl rfl ?_
          refine SeqK.q (q_call _ rfl Fx.fn55 rfl (element_any _ _ _ (by first | omega | (simp only [ByteArray.size_append]; omega))) rfl) rfl rfl rfl ?_
          refine SeqK.q (q_addS rfl rfl rfl (by have := sep_size (decide ((i : Int) = 0)) (decide (t.ps[i].coef < 0)); simp only [ByteArray.size_append]; omega)) rfl rfl rfl ?_
          refine SeqK.q (q_asC rfl rfl) rfl rfl rfl ?_
          refine SeqK.nil ?_
          refine AW.wk (Wk.keep 88 [(1, .lp 1 0), (2, .c (sC ⟨#[]⟩)), (3, .c (sC (fS t (i + 1)))), (4, iX .i64 ((i : Nat) : Int))] [(1, .box [.t (.v (.int .i64 t.c)), .t (.sl .un 5 (t.ps.map ptT))])] (H) rfl ⟨rfl, rfl, by first | exact sCe (fS_next hn hi (el_0 (fmtP_k0 h25 h31) (Classical.not_not.1 h47))) | exact (sCe (fS_next hn hi (el_0 (fmtP_k0 h25 h31) (Classical.not_not.1 h47)))).symm, rfl, trivial⟩ ⟨rfl, trivial⟩ (fun _ _ h => h) rfl) ?_
          refine AW.reg ?_
          refine SeqK.q (q_mvC rfl rfl) rfl rfl rfl ?_
          refine SeqK.q (q_add _ rfl rfl rfl (w64 (by omega) (by omega))) rfl rfl rfl ?_
          refine SeqK.q (q_asC rfl rfl) rfl rfl rfl ?_
          refine SeqK.nil ?_
          exact ⟨i + 1, _, Wk.keep 88 [(1, .lp 1 0), (2, .c (sC ⟨#[]⟩)), (3, .c (sC (fS t (i + 1)))), (4, iX .i64 (((i + 1) : Nat) : Int))] [(1, .box [.t (.v (.int .i64 t.c)), .t (.sl .un 5 (t.ps.map ptT))])] (H) rfl ⟨rfl, rfl, rfl, rfl, trivial⟩ ⟨rfl, trivial⟩ (fun _ _ h => h) rfl, by omega, hi, rfl⟩
  ·
    refine AW.exit ?_
    refine eth_e ?_
    refine eth_e ?_
    refine exit_here ?_
    refine AW.seq ?_
    refine AW.seq ?_
    obtain rfl : i = t.ps.length := by rw [List.length_map] at h11; omega
    have hfull : fS t t.ps.length = fmtPs t.ps ByteArray.empty := by rw [fS, List.take_length]
    have hsl := hss _ (Nat.le_refl t.ps.length)
    have hcs := numOk63.size _ hnt.1.1
    have hff := fS_first hn (Nat.le_refl t.ps.length)
    have hcc := hnt.1.1
    have hsep := sep_size (decide ((t.ps.length : Int) = 0)) (decide (t.c < 0))
    refine AW.reg ?_
    refine SeqK.q (q_fieldL _ rfl Fx.fl24_0 rfl rfl) rfl rfl rfl ?_
    refine SeqK.r (b_load (r := .a _) rfl Fx.ty2 rfl rfl rfl rfl rfl rfl) rfl ?_
    refine SeqK.q (q_neq rfl rfl rfl) rfl rfl rfl ?_
    refine SeqK.qD (q_mvC rfl rfl) rfl rfl rfl (fun g67 => ?_) (fun g67 => ?_)
    ·
      refine SeqK.off rfl rfl rfl rfl rfl rfl ?_
      refine SeqK.off rfl rfl rfl rfl rfl rfl ?_
      refine SeqK.off rfl rfl rfl rfl rfl rfl ?_
      refine SeqK.off rfl rfl rfl rfl rfl rfl ?_
      refine SeqK.q (q_pkT rfl rfl rfl) rfl rfl rfl ?_
      refine SeqK.nil ?_
      refine AW.condT rfl ?_
      refine AW.draw Fx.mo ?_
      refine LexK.q (q_mvC rfl rfl) rfl rfl rfl ?_
      refine LexK.q (q_fieldL _ rfl Fx.fl24_1 rfl rfl) rfl rfl rfl ?_
      refine LexK.r (b_load (r := .a _) rfl Fx.ty22 rfl rfl rfl rfl rfl rfl) rfl ?_
      refine LexK.q (q_len rfl Fx.un22 rfl) rfl rfl rfl ?_
      refine LexK.q (q_eql rfl rfl rfl) rfl rfl rfl ?_
      refine LexK.q (q_fieldL _ rfl Fx.fl24_0 rfl rfl) rfl rfl rfl ?_
      refine LexK.r (b_load (r := .a _) rfl Fx.ty2 rfl rfl rfl rfl rfl rfl) rfl ?_
      refine LexK.q (q_lss rfl rfl rfl) rfl rfl rfl ?_
      refine LexK.q (q_fieldL _ rfl Fx.fl24_0 rfl rfl) rfl rfl rfl ?_
      refine LexK.r (b_load (r := .a _) rfl Fx.ty2 rfl rfl rfl rfl rfl rfl) rfl ?_
      refine LexK.q (q_call _ rfl Fx.fn54 rfl (rabs_any _ (by first | (have k1 : t.ps[i].coef.natAbs < 9223372036854775808 := hpi.1.coef.1; omega) | (have k1 : t.c.natAbs < 9223372036854775808 := hnt.1.1; omega))) rfl) rfl rfl rfl ?_
      refine LexK.q (q_call _ rfl Fx.fn53 rfl (digits_any _ hcc) rfl) rfl rfl rfl ?_
      refine LexK.q (q_call _ rfl Fx.fn55 rfl (element_any _ _ _ (by first | omega | (simp only [ByteArray.size_append]; omega))) rfl) rfl rfl rfl ?_
      refine LexK.q (q_addS rfl rfl rfl (by have := sep_size (decide ((((t.ps.map ptT).length : Nat) : Int) = 0)) (decide (t.c < 0)); simp only [ByteArray.size_append]; omega)) rfl rfl rfl ?_
      refine LexK.q (q_asC rfl rfl) rfl rfl rfl ?_
      refine LexK.nil (by kernel_rfl) ?_
      refine AW.seq ?_
      refine AW.reg ?_
      refine SeqK.q (q_mvC rfl rfl) rfl rfl rfl ?_
      refine SeqK.q (q_asC rfl rfl) rfl rfl rfl ?_
      refine SeqK.nil ?_
      refine AW.ret ?_
      exact fin_x (x := .c _) (H) (.tmp rfl .nil) rfl (fun _ _ h => h) (⟨by first | (rw [fmtT_eq, if_pos (by have k0 : (t.ps.map ptT).length = t.ps.length := List.length_map _; omega), bas, ← hfull, ← hff, List.length_map]; try rfl; done) | (rw [fmtT_eq, if_neg (by have k0 : (t.ps.map ptT).length = t.ps.length := List.length_map _; omega), ← hfull]; try rfl; done), rfl⟩)
    ·
      refine SeqK.on (q_fieldL _ rfl Fx.fl24_1 rfl rfl) rfl rfl rfl rfl rfl ?_
      refine SeqK.rOn (b_load (r := .a _) rfl Fx.ty22 rfl rfl rfl rfl rfl rfl) rfl rfl rfl ?_
      refine SeqK.on (q_len rfl Fx.un22 rfl) rfl rfl rfl rfl rfl ?_
      refine SeqK.on (q_eql rfl rfl rfl) rfl rfl rfl rfl rfl ?_
      refine SeqK.q (q_pkF rfl rfl rfl) rfl rfl rfl ?_
      refine SeqK.nil ?_
      refine AW.condD rfl (fun h72 => ?_) (fun h72 => ?_)
      ·
        refine AW.draw Fx.mo ?_
        refine LexK.q (q_mvC rfl rfl) rfl rfl rfl ?_
        refine LexK.q (q_fieldL _ rfl Fx.fl24_1 rfl rfl) rfl rfl rfl ?_
        refine LexK.r (b_load (r := .a _) rfl Fx.ty22 rfl rfl rfl rfl rfl rfl) rfl ?_
        refine LexK.q (q_len rfl Fx.un22 rfl) rfl rfl rfl ?_
        refine LexK.q (q_eql rfl rfl rfl) rfl rfl rfl ?_
        refine LexK.q (q_fieldL _ rfl Fx.fl24_0 rfl rfl) rfl rfl rfl ?_
        refine LexK.r (b_load (r := .a _) rfl Fx.ty2 rfl rfl rfl rfl rfl rfl) rfl ?_
        refine LexK.q (q_lss rfl rfl rfl) rfl rfl rfl ?_
        refine LexK.q (q_fieldL _ rfl Fx.fl24_0 rfl rfl) rfl rfl rfl ?_
        refine LexK.r (b_load (r := .a _) rfl Fx.ty2 rfl rfl rfl rfl rfl rfl) rfl ?_
        refine LexK.q (q_call _ rfl Fx.fn54 rfl (rabs_any _ (by first | (have k1 : t.ps[i].coef.natAbs < 9223372036854775808 := hpi.1.coef.1; omega) | (have k1 : t.c.natAbs < 9223372036854775808 := hnt.1.1; omega))) rfl) rfl rfl rfl ?_
        refine LexK.q (q_call _ rfl Fx.fn53 rfl (digits_any _ hcc) rfl) rfl rfl rfl ?_
        refine LexK.q (q_call _ rfl Fx.fn55 rfl (element_any _ _ _ (by first | omega | (simp only [ByteArray.size_append]; omega))) rfl) rfl rfl rfl ?_
        refine LexK.q (q_addS rfl rfl rfl (by have := sep_size (decide ((((t.ps.map ptT).length : Nat) : Int) = 0)) (decide (t.c < 0)); simp only [ByteArray.size_append]; omega)) rfl rfl rfl ?_
        refine LexK.q (q_asC rfl rfl) rfl rfl rfl ?_
        refine LexK.nil (by kernel_rfl) ?_
        refine AW.seq ?_
        refine AW.reg ?_
        refine SeqK.q (q_mvC rfl rfl) rfl rfl rfl ?_
        refine SeqK.q (q_asC rfl rfl) rfl rfl rfl ?_
        refine SeqK.nil ?_
        refine AW.ret ?_
        exact fin_x (x := .c _) (H) (.tmp rfl .nil) rfl (fun _ _ h => h) (⟨by first | (rw [fmtT_eq, if_pos (by have k0 : (t.ps.map ptT).length = t.ps.length := List.length_map _; omega), bas, ← hfull, ← hff, List.length_map]; try rfl; done) | (rw [fmtT_eq, if_neg (by have k0 : (t.ps.map ptT).length = t.ps.length := List.length_map _; omega), ← hfull]; try rfl; done), rfl⟩)
      ·
        refine AW.skip ?_
        refine AW.seq ?_
        refine AW.reg ?_
        refine SeqK.q (q_mvC rfl rfl) rfl rfl rfl ?_
        refine SeqK.q (q_asC rfl rfl) rfl rfl rfl ?_
        refine SeqK.nil ?_
        refine AW.ret ?_
        exact fin_x (x := .c _) (H) (.tmp rfl .nil) rfl (fun _ _ h => h) (⟨by first | (rw [fmtT_eq, if_pos (by have k0 : (t.ps.map ptT).length = t.ps.length := List.length_map _; omega), bas, ← hfull, ← hff, List.length_map]; try rfl; done) | (rw [fmtT_eq, if_neg (by have k0 : (t.ps.map ptT).length = t.ps.length := List.length_map _; omega), ← hfull]; try rfl; done), rfl⟩)

theorem rformat_any (t : Tm) : numT (· < 9223372036854775808) t → t.cnt ≤ 100000 → Pure Tryd.prog 17 [tmC t] (.c (sC (fmtT t))) := by
  induction t using Tm.ind with
  | h t ih =>
    intro hn hN
    exact rformat_of t hn hN fun p hp o ho ho2 => ih p hp o ho ho2 (by have := cnt_of hp ho; omega)

end Go.Proofs.YtfbdokfcebpkaaaDoor.W
namespace Go.Proofs.YtfbdokfcebpkaaaDoor.W
open Go.RowKit E M
set_option linter.unusedVariables false
set_option linter.unusedSimpArgs false
set_option linter.unusedSectionVars false
theorem ifc {α : Type} {p q : Prop} [Decidable p] [Decidable q] (h : p ↔ q) {a b : α} : (if p then a else b) = if q then a else b := by
  by_cases hp : p
  · rw [if_pos hp, if_pos (h.1 hp)]
  · rw [if_neg hp, if_neg fun hq => hp (h.2 hq)]
/-! different normal terms have different texts -/
abbrev Bs := List UInt8
def isD (b : UInt8) : Bool := decide (48 ≤ b.toNat) && decide (b.toNat ≤ 57)
/-- no digit stands ahead -/
def nd : Bs → Prop
  | [] => True
  | b :: _ => isD b = false
theorem run_eq : ∀ {l m u v : Bs}, (∀ b ∈ l, isD b = true) → (∀ b ∈ m, isD b = true) → nd u → nd v → l ++ u = m ++ v → l = m ∧ u = v
  | [], [], u, v, _, _, _, _, h => ⟨rfl, h⟩
  | [], b :: m, u, v, _, hm, hu, _, h => by
    simp only [List.nil_append, List.cons_append] at h
    subst h
    have := hm b (by simp)
    have hu : isD b = false := hu
    rw [this] at hu; cases hu
  | a :: l, [], u, v, hl, _, _, hv, h => by
    simp only [List.nil_append, List.cons_append] at h
    subst h
    have := hl a (by simp)
    have hv : isD a = false := hv
    rw [this] at hv; cases hv
  | a :: l, b :: m, u, v, hl, hm, hu, hv, h => by
    simp only [List.cons_append, List.cons.injEq] at h
    obtain ⟨e1, e2⟩ := run_eq (fun x hx => hl x (by simp [hx])) (fun x hx => hm x (by simp [hx])) hu hv h.2
    exact ⟨by rw [h.1, e1], e2⟩
theorem ofN {n : Nat} (h : n < 256) : (UInt8.ofNat n).toNat = n := by simp [UInt8.toNat_ofNat']; omega
theorem dec_isD (n : Nat) : ∀ b ∈ Lib.decDigits n, isD b = true := by
  induction n using Nat.strongRecOn with
  | ind n ih =>
    intro b hb
    rw [Lib.decDigits] at hb
    split at hb
    · rw [List.mem_singleton.1 hb]
      unfold isD; rw [ofN (by omega)]; simp; omega
    · rcases List.mem_append.1 hb with h | h
      · exact ih _ (by omega) b h
      · rw [List.mem_singleton.1 h]
        unfold isD; rw [ofN (by omega)]; simp; omega
def valD (l : Bs) : Nat := l.foldl (fun a b => 10 * a + (b.toNat - 48)) 0
theorem valD_dec (n : Nat) : valD (Lib.decDigits n) = n := by
  induction n using Nat.strongRecOn with
  | ind n ih =>
    rw [Lib.decDigits]
    split
    · simp only [valD, List.foldl_cons, List.foldl_nil]; rw [ofN (by omega)]; omega
    · have := ih (n / 10) (by omega)
      unfold valD at this ⊢
      rw [List.foldl_append, this]
      simp only [List.foldl_cons, List.foldl_nil]
      rw [ofN (by omega)]; omega
theorem dec_inj {n m : Nat} (h : Lib.decDigits n = Lib.decDigits m) : n = m := by rw [← valD_dec n, h, valD_dec]
theorem dec_ne (n : Nat) : Lib.decDigits n ≠ [] := by
  rw [Lib.decDigits]; split <;> simp
theorem dec_head (n : Nat) : ∃ b l, Lib.decDigits n = b :: l ∧ isD b = true := by
  cases h : Lib.decDigits n with
  | nil => exact absurd h (dec_ne n)
  | cons b l => exact ⟨b, l, rfl, dec_isD n b (by rw [h]; simp)⟩
theorem num_eq {n m : Nat} {u v : Bs} (hu : nd u) (hv : nd v) (h : Lib.decDigits n ++ u = Lib.decDigits m ++ v) : n = m ∧ u = v := by
  obtain ⟨e1, e2⟩ := run_eq (dec_isD n) (dec_isD m) hu hv h
  exact ⟨dec_inj e1, e2⟩
/-! texts as lists -/
abbrev tl (s : ByteArray) : Bs := s.data.toList
theorem tl_app (a b : ByteArray) : tl (a ++ b) = tl a ++ tl b := by simp [tl, ByteArray.data_append]
theorem tl_dec (n : Nat) : tl (decB n) = Lib.decDigits n := by simp [tl, decB]
def sepL (f n : Bool) : Bs := if f then (if n then [45] else []) else if n then [32, 45, 32] else [32, 43, 32]
theorem tl_sep (f n : Bool) : tl (sep f n) = sepL f n := by cases f <;> cases n <;> rfl
mutual
def LT : Tm → Bs
  | .mk c ps => LR true ps c
def LR : Bool → List Pt → Int → Bs
  | f, [], c => if c ≠ 0 ∨ f = true then sepL f (decide (c < 0)) ++ Lib.decDigits c.natAbs else []
  | f, p :: r, c => sepL f (decide (p.coef < 0)) ++ (if p.coef.natAbs ≠ 1 then Lib.decDigits p.coef.natAbs ++ 42 :: LP p else LP p) ++ LR false r c
def LP : Pt → Bs
  | .mk _ k v b of => if k = 1 then [108, 101, 110, 103, 116, 104, 40, 120] ++ Lib.decDigits v.toNat ++ [41] else if k = 2 then [100, 105, 118, 40] ++ LO of ++ [44, 32] ++ Lib.decDigits b.toNat ++ [41] else 120 :: Lib.decDigits v.toNat
def LO : List Tm → Bs
  | [] => []
  | t :: _ => LT t
end
theorem LP_eq (p : Pt) : LP p = if p.kind = 1 then [108, 101, 110, 103, 116, 104, 40, 120] ++ Lib.decDigits p.var.toNat ++ [41] else if p.kind = 2 then [100, 105, 118, 40] ++ LO p.of ++ [44, 32] ++ Lib.decDigits p.dv.toNat ++ [41] else 120 :: Lib.decDigits p.var.toNat := by cases p; rw [LP]
theorem LT_eq (t : Tm) : LT t = LR true t.ps t.c := by cases t; rw [LT]
theorem fmtPs_LR {N : Nat → Prop} (K : NumOk N) (c : Int) : ∀ (ps : List Pt) (s : ByteArray) (f : Bool), (∀ p ∈ ps, NumP N p ∧ tl (fmtP p) = LP p) → f = decide (s.size = 0) →
    tl (if c ≠ 0 ∨ (ps = [] ∧ f = true) then fmtPs ps s ++ sep (decide ((fmtPs ps s).size = 0)) (decide (c < 0)) ++ decB c.natAbs else fmtPs ps s) = tl s ++ LR f ps c
  | [], s, f, _, hf => by
    rw [LR, fmtPs]
    by_cases h : c ≠ 0 ∨ f = true
    · rw [if_pos h, if_pos (by simpa using h), tl_app, tl_app, tl_sep, tl_dec, hf, List.append_assoc]
    · rw [if_neg h, if_neg (by simpa using h), List.append_nil]
  | p :: r, s, f, h, hf => by
    obtain ⟨h1, h2⟩ := h p (by simp)
    have ih := fmtPs_LR K c r (s ++ sep (decide (s.size = 0)) (decide (p.coef < 0)) ++ elS p) false (fun q hq => h q (by simp [hq])) (by
      have := elS_pos K h1
      simp only [ByteArray.size_append]
      have : (s.size + (sep (decide (s.size = 0)) (decide (p.coef < 0))).size + (elS p).size) ≠ 0 := by omega
      exact (decide_eq_false this).symm)
    have e : fmtPs (p :: r) s = fmtPs r (s ++ sep (decide (s.size = 0)) (decide (p.coef < 0)) ++ elS p) := by rw [fmtPs]
    rw [e]
    have e2 : (c ≠ 0 ∨ (p :: r = [] ∧ f = true)) ↔ (c ≠ 0 ∨ (r = [] ∧ false = true)) := by simp
    rw [ifc e2, ih, LR, tl_app, tl_app, tl_sep, hf]
    have e3 : tl (elS p) = if p.coef.natAbs ≠ 1 then Lib.decDigits p.coef.natAbs ++ 42 :: LP p else LP p := by
      unfold elS
      split
      · rw [tl_app, tl_app, tl_dec, h2]; show Lib.decDigits _ ++ [42] ++ LP p = _; simp
      · exact h2
    rw [e3]; simp [List.append_assoc]
theorem tl_fmt {N : Nat → Prop} (K : NumOk N) (t : Tm) : numT N t → tl (fmtT t) = LT t := by
  induction t using Tm.ind with
  | h t ih =>
    intro h
    have h' := (numT_eq t).1 h
    have hp : ∀ p ∈ t.ps, NumP N p ∧ tl (fmtP p) = LP p := fun p hp => by
      refine ⟨(h'.2 p hp).1, ?_⟩
      rw [fmtP_eq, LP_eq]
      split
      · rw [tl_app, tl_app, tl_dec]; rfl
      · split
        · rename_i hk
          obtain ⟨_, _, h0⟩ := (h'.2 p hp).1.dv hk
          have e := ih p hp _ (List.getElem_mem h0) ((h'.2 p hp).2 _ (List.getElem_mem h0))
          have e2 : LO p.of = LT p.of[0] := by
            match hh : p.of, h0 with
            | o :: s, _ => rw [LO]; rfl
          rw [fmtO_eq h0, tl_app, tl_app, tl_app, tl_app, tl_dec, e, e2]; rfl
        · rw [tl_app, tl_dec]; rfl
    have k := fmtPs_LR K t.c t.ps ByteArray.empty true hp rfl
    rw [LT_eq, fmtT_eq]
    have e2 : (t.c ≠ 0 ∨ (t.ps = [] ∧ true = true)) ↔ (t.c ≠ 0 ∨ t.ps.length = 0) := by simp [List.length_eq_zero_iff]
    rw [ifc e2] at k
    rw [k]; rfl
/-- what may stand behind a term's text -/
def ok44 : Bs → Prop
  | [] => True
  | b :: _ => b = 44
theorem ok44.nd {u : Bs} (h : ok44 u) : W.nd u := by
  cases u with
  | nil => trivial
  | cons b r => have h : b = 44 := h; subst h; show isD 44 = false; decide
/-- a part is told by its text: no digit behind it -/
def injP (p : Pt) : Prop := ∀ q u v, vldP q = true → W.nd u → W.nd v → LP p ++ u = LP q ++ v → eqv p q ∧ u = v
theorem LP_head (p : Pt) : ∃ b l, LP p = b :: l ∧ isD b = false := by
  rw [LP_eq]
  split
  · exact ⟨108, _, rfl, by decide⟩
  · split
    · exact ⟨100, _, rfl, by decide⟩
    · exact ⟨120, _, rfl, by decide⟩
theorem LR_nd (r : List Pt) (c : Int) {u : Bs} (hu : ok44 u) : W.nd (LR false r c ++ u) := by
  cases r with
  | nil =>
    rw [LR]
    split
    · cases h : decide (c < 0) <;> (show isD 32 = false; decide)
    · rw [List.nil_append]; exact hu.nd
  | cons p r =>
    rw [LR]
    cases h : decide (p.coef < 0) <;> (show isD 32 = false; decide)
theorem sep_eq {f a b : Bool} {x y : Bs} (hx : ∃ c l, x = c :: l ∧ c ≠ 45) (hy : ∃ c l, y = c :: l ∧ c ≠ 45) (h : sepL f a ++ x = sepL f b ++ y) : a = b ∧ x = y := by
  obtain ⟨c, l, rfl, hc⟩ := hx
  obtain ⟨d, m, rfl, hd⟩ := hy
  cases f <;> cases a <;> cases b <;> simp_all [sepL]
theorem isD_ne {b : UInt8} (h : isD b = true) : b ≠ 45 := fun e => by subst e; exact absurd h (by decide)
theorem el_head (p : Pt) (w : Bs) : ∃ c l, (if p.coef.natAbs ≠ 1 then Lib.decDigits p.coef.natAbs ++ 42 :: LP p else LP p) ++ w = c :: l ∧ c ≠ 45 := by
  split
  · obtain ⟨b, l, e, hb⟩ := dec_head p.coef.natAbs
    exact ⟨b, _, by rw [e]; rfl, isD_ne hb⟩
  · rw [LP_eq]
    split
    · exact ⟨108, _, rfl, by decide⟩
    · split
      · exact ⟨100, _, rfl, by decide⟩
      · exact ⟨120, _, rfl, by decide⟩
theorem dec_head' (n : Nat) (w : Bs) : ∃ c l, Lib.decDigits n ++ w = c :: l ∧ c ≠ 45 := by
  obtain ⟨b, l, e, hb⟩ := dec_head n
  exact ⟨b, _, by rw [e]; rfl, isD_ne hb⟩
theorem nd42 (l : Bs) : W.nd (42 :: l) := by show isD 42 = false; decide
/-- a constant is no element of a part -/
theorem const_el {n : Nat} {p : Pt} {u w : Bs} (hu : ok44 u) (h : Lib.decDigits n ++ u = (if p.coef.natAbs ≠ 1 then Lib.decDigits p.coef.natAbs ++ 42 :: LP p else LP p) ++ w) : False := by
  split at h
  · rw [List.append_assoc] at h
    obtain ⟨_, e⟩ := num_eq hu.nd (nd42 _) h
    cases u with
    | nil => cases e
    | cons b r => have hb : b = 44 := hu; subst hb; simp at e
  · obtain ⟨b, l, e, hb⟩ := dec_head n
    obtain ⟨c, m, e2, hc⟩ := LP_head p
    rw [e, e2] at h
    simp only [List.cons_append, List.cons.injEq] at h
    rw [h.1, hc] at hb; cases hb
theorem el_eq {p q : Pt} {u v : Bs} (ip : injP p) (hq : vldP q = true) (hs : decide (p.coef < 0) = decide (q.coef < 0)) (hp0 : p.coef ≠ 0) (hu : W.nd u) (hv : W.nd v)
    (h : (if p.coef.natAbs ≠ 1 then Lib.decDigits p.coef.natAbs ++ 42 :: LP p else LP p) ++ u = (if q.coef.natAbs ≠ 1 then Lib.decDigits q.coef.natAbs ++ 42 :: LP q else LP q) ++ v) : p = q ∧ u = v := by
  have fin : p.coef.natAbs = q.coef.natAbs → eqv p q → p = q := fun h1 h2 => by
    have hc : p.coef = q.coef := by
      have : (p.coef < 0) ↔ (q.coef < 0) := by simpa using hs
      omega
    obtain ⟨e1, e2, e3, e4⟩ := h2
    cases p; cases q; simp_all
  by_cases h1 : p.coef.natAbs ≠ 1
  · by_cases h2 : q.coef.natAbs ≠ 1
    · rw [if_pos h1, if_pos h2, List.append_assoc, List.append_assoc] at h
      obtain ⟨e1, e2⟩ := num_eq (nd42 _) (nd42 _) h
      simp only [List.cons_append, List.cons.injEq, true_and] at e2
      obtain ⟨e3, e4⟩ := ip q u v hq hu hv e2
      exact ⟨fin e1 e3, e4⟩
    · rw [if_pos h1, if_neg h2] at h
      obtain ⟨b, l, e, hb⟩ := dec_head p.coef.natAbs
      obtain ⟨c, m, e2, hc⟩ := LP_head q
      rw [e, e2] at h
      simp only [List.cons_append, List.cons.injEq] at h
      rw [h.1, hc] at hb; cases hb
  · by_cases h2 : q.coef.natAbs ≠ 1
    · rw [if_neg h1, if_pos h2] at h
      obtain ⟨b, l, e, hb⟩ := dec_head q.coef.natAbs
      obtain ⟨c, m, e2, hc⟩ := LP_head p
      rw [e, e2] at h
      simp only [List.cons_append, List.cons.injEq] at h
      rw [← h.1, hc] at hb; cases hb
    · rw [if_neg h1, if_neg h2] at h
      obtain ⟨e3, e4⟩ := ip q u v hq hu hv h
      exact ⟨fin (by omega) e3, e4⟩
theorem ok44_32 {u w : Bs} (hu : ok44 u) (h : u = 32 :: w) : False := by
  subst h; have h : (32 : UInt8) = 44 := hu; cases h
theorem sep32 (n : Bool) (x : Bs) : ∃ w, sepL false n ++ x = 32 :: w := by cases n <;> exact ⟨_, rfl⟩
theorem LR_inj : ∀ (ps qs : List Pt) (f : Bool) (c d : Int) (u v : Bs), (∀ p ∈ ps, injP p ∧ p.coef ≠ 0) → (∀ q ∈ qs, vldP q = true) → ok44 u → ok44 v → LR f ps c ++ u = LR f qs d ++ v → ps = qs ∧ c = d ∧ u = v
  | [], [], f, c, d, u, v, _, _, hu, hv, h => by
    rw [LR, LR] at h
    by_cases hc : c ≠ 0 ∨ f = true
    · rw [if_pos hc] at h
      by_cases hd : d ≠ 0 ∨ f = true
      · rw [if_pos hd, List.append_assoc, List.append_assoc] at h
        obtain ⟨e1, e2⟩ := sep_eq (dec_head' _ _) (dec_head' _ _) h
        obtain ⟨e3, e4⟩ := num_eq hu.nd hv.nd e2
        have : (c < 0) ↔ (d < 0) := by simpa using e1
        exact ⟨rfl, by omega, e4⟩
      · rw [if_neg hd] at h
        have hf : f = false := by cases f <;> simp_all
        subst hf
        obtain ⟨w, e⟩ := sep32 (decide (c < 0)) (Lib.decDigits c.natAbs ++ u)
        rw [List.append_assoc, e, List.nil_append] at h
        exact (ok44_32 hv h.symm).elim
    · rw [if_neg hc] at h
      have hf : f = false := by cases f <;> simp_all
      subst hf
      by_cases hd : d ≠ 0 ∨ false = true
      · rw [if_pos hd] at h
        obtain ⟨w, e⟩ := sep32 (decide (d < 0)) (Lib.decDigits d.natAbs ++ v)
        rw [List.append_assoc, e, List.nil_append] at h
        exact (ok44_32 hu h).elim
      · rw [if_neg hd] at h
        have h1 : c = 0 := by simpa using hc
        have h2 : d = 0 := by simpa using hd
        exact ⟨rfl, by omega, by simpa using h⟩
  | [], q :: s, f, c, d, u, v, _, _, hu, hv, h => by
    rw [LR, LR] at h
    by_cases hc : c ≠ 0 ∨ f = true
    · rw [if_pos hc, List.append_assoc, List.append_assoc, List.append_assoc] at h
      obtain ⟨_, e2⟩ := sep_eq (dec_head' _ _) (el_head q _) h
      exact (const_el hu e2).elim
    · rw [if_neg hc] at h
      have hf : f = false := by cases f <;> simp_all
      subst hf
      obtain ⟨w, e⟩ := sep32 (decide (q.coef < 0)) ((if q.coef.natAbs ≠ 1 then Lib.decDigits q.coef.natAbs ++ 42 :: LP q else LP q) ++ (LR false s d ++ v))
      rw [List.append_assoc, List.append_assoc, e, List.nil_append] at h
      exact (ok44_32 hu h).elim
  | p :: r, [], f, c, d, u, v, _, _, hu, hv, h => by
    rw [LR, LR] at h
    by_cases hd : d ≠ 0 ∨ f = true
    · rw [if_pos hd, List.append_assoc, List.append_assoc, List.append_assoc] at h
      obtain ⟨_, e2⟩ := sep_eq (el_head p _) (dec_head' _ _) h
      exact (const_el hv e2.symm).elim
    · rw [if_neg hd] at h
      have hf : f = false := by cases f <;> simp_all
      subst hf
      obtain ⟨w, e⟩ := sep32 (decide (p.coef < 0)) ((if p.coef.natAbs ≠ 1 then Lib.decDigits p.coef.natAbs ++ 42 :: LP p else LP p) ++ (LR false r c ++ u))
      rw [List.append_assoc, List.append_assoc, e, List.nil_append] at h
      exact (ok44_32 hv h.symm).elim
  | p :: r, q :: s, f, c, d, u, v, hp, hq, hu, hv, h => by
    rw [LR, LR, List.append_assoc, List.append_assoc, List.append_assoc, List.append_assoc] at h
    obtain ⟨e1, e2⟩ := sep_eq (el_head p _) (el_head q _) h
    obtain ⟨h1, h2⟩ := hp p (by simp)
    obtain ⟨e3, e4⟩ := el_eq h1 (hq q (by simp)) e1 h2 (LR_nd r c hu) (LR_nd s d hv) e2
    obtain ⟨e5, e6, e7⟩ := LR_inj r s false c d u v (fun x hx => hp x (by simp [hx])) (fun x hx => hq x (by simp [hx])) hu hv e4
    exact ⟨by rw [e3, e5], e6, e7⟩
theorem vP_coef {p : Pt} (h : vldP p = true) : p.coef ≠ 0 := by
  rw [vldP_eq] at h
  simp only [Bool.and_eq_true, decide_eq_true_eq] at h
  exact h.1
theorem cons_ne {a b : UInt8} {x y : Bs} (h : a :: x = b :: y) (hn : a ≠ b) : False := hn (by simpa using (List.cons.inj h).1)
theorem LT_inj (a : Tm) : ∀ b u v, vldT a = true → vldT b = true → ok44 u → ok44 v → LT a ++ u = LT b ++ v → a = b ∧ u = v := by
  induction a using Tm.ind with
  | h a ih =>
    intro b u v ha hb hu hv h
    rw [LT_eq, LT_eq] at h
    have hinj : ∀ p ∈ a.ps, injP p := by
      intro p hp q u v hq hu hv h
      have hpv := vld_parts ha p hp
      rw [LP_eq, LP_eq] at h
      rw [vldP_eq] at hpv hq
      simp only [Bool.and_eq_true, decide_eq_true_eq] at hpv hq
      have key : ∀ {x y : Pt}, (if x.kind = 0 ∨ x.kind = 1 then decide (0 ≤ x.var) && decide (x.dv = 0) && x.of.isEmpty else decide (x.kind = 2) && decide (x.var = 0) && decide (2 ≤ x.dv) && decide (x.dv ≤ 1000) && vldO x.of) = true → (x.kind = 0 ∨ x.kind = 1) ∧ 0 ≤ x.var ∧ x.dv = 0 ∧ x.of = [] ∨ x.kind = 2 ∧ x.var = 0 ∧ 2 ≤ x.dv ∧ vldO x.of = true := fun {x y} h => by
        split at h
        · rename_i hk
          simp only [Bool.and_eq_true, decide_eq_true_eq, List.isEmpty_iff] at h
          exact .inl ⟨hk, h.1.1, h.1.2, h.2⟩
        · simp only [Bool.and_eq_true, decide_eq_true_eq] at h
          exact .inr ⟨h.1.1.1.1, h.1.1.1.2, h.1.1.2, h.2⟩
      have kp := key (y := p) hpv.2
      have kq := key (y := p) hq.2
      by_cases p1 : p.kind = 1
      · rw [if_pos p1] at h
        by_cases q1 : q.kind = 1
        · rw [if_pos q1] at h
          simp only [List.append_assoc, List.cons_append, List.nil_append, List.cons.injEq, true_and] at h
          obtain ⟨e1, e2⟩ := num_eq (u := 41 :: u) (v := 41 :: v) (by show isD 41 = false; decide) (by show isD 41 = false; decide) h
          simp only [List.cons.injEq, true_and] at e2
          have ep := kp.resolve_right (by omega)
          have eq := kq.resolve_right (by omega)
          exact ⟨⟨by omega, by omega, by omega, by rw [ep.2.2.2, eq.2.2.2]⟩, e2⟩
        · rw [if_neg q1] at h
          by_cases q2 : q.kind = 2
          · rw [if_pos q2] at h; exact (cons_ne h (by decide)).elim
          · rw [if_neg q2] at h; exact (cons_ne h (by decide)).elim
      · rw [if_neg p1] at h
        by_cases p2 : p.kind = 2
        · rw [if_pos p2] at h
          by_cases q1 : q.kind = 1
          · rw [if_pos q1] at h; exact (cons_ne h (by decide)).elim
          · rw [if_neg q1] at h
            by_cases q2 : q.kind = 2
            · rw [if_pos q2] at h
              have ep := kp.resolve_left (by omega)
              have eq := kq.resolve_left (by omega)
              match hop : p.of, hoq : q.of, ep.2.2.2, eq.2.2.2 with
              | [o], [o'], vo, vo' =>
                simp only [vldO, Bool.and_eq_true] at vo vo'
                rw [hop, hoq] at h
                simp only [LO, List.append_assoc, List.cons_append, List.nil_append, List.cons.injEq, true_and] at h
                obtain ⟨e1, e2⟩ := ih p hp o (by rw [hop]; simp) o' (44 :: 32 :: (Lib.decDigits p.dv.toNat ++ 41 :: u)) (44 :: 32 :: (Lib.decDigits q.dv.toNat ++ 41 :: v)) vo.2 vo'.2 rfl rfl h
                simp only [List.cons.injEq, true_and] at e2
                obtain ⟨e3, e4⟩ := num_eq (u := 41 :: u) (v := 41 :: v) (by show isD 41 = false; decide) (by show isD 41 = false; decide) e2
                simp only [List.cons.injEq, true_and] at e4
                exact ⟨⟨by omega, by omega, by omega, by rw [hop, hoq, e1]⟩, e4⟩
            · rw [if_neg q2] at h; exact (cons_ne h (by decide)).elim
        · rw [if_neg p2] at h
          by_cases q1 : q.kind = 1
          · rw [if_pos q1] at h; exact (cons_ne h (by decide)).elim
          · rw [if_neg q1] at h
            by_cases q2 : q.kind = 2
            · rw [if_pos q2] at h; exact (cons_ne h (by decide)).elim
            · rw [if_neg q2] at h
              simp only [List.cons_append, List.cons.injEq, true_and] at h
              obtain ⟨e1, e2⟩ := num_eq hu hv h
              have ep := kp.resolve_right (by omega)
              have eq := kq.resolve_right (by omega)
              exact ⟨⟨by omega, by omega, by omega, by rw [ep.2.2.2, eq.2.2.2]⟩, e2⟩
    obtain ⟨e1, e2, e3⟩ := LR_inj a.ps b.ps true a.c b.c u v (fun p hp => ⟨hinj p hp, vP_coef (vld_parts ha p hp)⟩) (fun q hq => vld_parts hb q hq) hu hv h
    exact ⟨by cases a; cases b; simp_all, e3⟩
theorem fmt_inj {a b : Tm} (ra : rgT a) (rb : rgT b) (ha : vldT a = true) (hb : vldT b = true) : fmtT a = fmtT b ↔ cmpT a b = 0 := by
  refine ⟨fun h => ?_, fun h => by rw [cmpT_zero a b ha hb h]⟩
  have h1 := tl_fmt numOk63 a (num_vld a ra ha)
  have h2 := tl_fmt numOk63 b (num_vld b rb hb)
  rw [h, h2] at h1
  obtain ⟨e, _⟩ := LT_inj b a [] [] hb ha trivial trivial (by rw [h1])
  rw [e]; exact cmpT_self a

end Go.Proofs.YtfbdokfcebpkaaaDoor.W
namespace Go.Proofs.YtfbdokfcebpkaaaDoor.W
open Go.RowKit E M
set_option linter.unusedVariables false
set_option linter.unusedSimpArgs false
set_option linter.unusedSectionVars false

set_option maxRecDepth 20000 in
theorem format_law (a b : Tm) (ra : rgT a) (rb : rgT b) (H : Heap) : E.Spec Tryd.prog 4 [tmC a, tmC b] H fun x H' => x = bX true := by
  refine Spec.enter Tryd.func4 rfl ?_
  refine AW.wk (Wk.keep 35 [(0, .c (tmC a)), (1, .c (tmC b))] [] (H) rfl ⟨rfl, rfl, trivial⟩ trivial (fun _ _ h => h) rfl) ?_
  refine AW.seq ?_
  refine AW.reg ?_
  refine SeqK.r (b_box (r := [_, _]) rfl rfl rfl rfl rfl rfl) rfl ?_
  refine SeqK.r (b_box (r := [_, _]) rfl rfl rfl rfl rfl rfl) rfl ?_
  refine SeqK.q (q_asC rfl rfl) rfl rfl rfl ?_
  refine SeqK.nil ?_
  refine AW.seq ?_
  refine AW.seq ?_
  refine AW.reg ?_
  refine SeqK.q (q_call _ rfl Fx.fn12 rfl (awake_any) rfl) rfl rfl rfl ?_
  refine SeqK.q (q_not rfl rfl) rfl rfl rfl ?_
  refine SeqK.q (q_mvC rfl rfl) rfl rfl rfl ?_
  refine SeqK.rOn (b_load (r := .g [_, _]) rfl Fx.ty24 rfl rfl rfl rfl rfl rfl) rfl rfl rfl ?_
  refine SeqK.on (q_call _ rfl Fx.fn13 rfl (lsmall_any a ra) rfl) rfl rfl rfl rfl rfl ?_
  refine SeqK.on (q_not rfl rfl) rfl rfl rfl rfl rfl ?_
  refine SeqK.q (q_pkF rfl rfl rfl) rfl rfl rfl ?_
  refine SeqK.qB (q_mvC rfl rfl) rfl rfl rfl (fun g12 => ?_) (fun g12 => ?_)
  ·
    refine SeqK.off rfl rfl rfl rfl rfl rfl ?_
    refine SeqK.off rfl rfl rfl rfl rfl rfl ?_
    refine SeqK.off rfl rfl rfl rfl rfl rfl ?_
    refine SeqK.q (q_pkT rfl rfl rfl) rfl rfl rfl ?_
    refine SeqK.nil ?_
    refine AW.condT rfl ?_
    refine AW.seq ?_
    refine AW.reg ?_
    refine SeqK.q (q_call _ rfl Fx.fn12 rfl (awake_any) rfl) rfl rfl rfl ?_
    refine SeqK.q (q_asC rfl rfl) rfl rfl rfl ?_
    refine SeqK.nil ?_
    refine AW.ret ?_
    exact fin_x (x := .c _) (_) (.tmp rfl .nil) rfl (fun _ _ h => h) (by first | rfl | (simp; done) | (simp [ki]))
  ·
    refine SeqK.rOn (b_load (r := .g [_, _]) rfl Fx.ty24 rfl rfl rfl rfl rfl rfl) rfl rfl rfl ?_
    refine SeqK.on (q_call _ rfl Fx.fn13 rfl (lsmall_any b rb) rfl) rfl rfl rfl rfl rfl ?_
    refine SeqK.on (q_not rfl rfl) rfl rfl rfl rfl rfl ?_
    refine SeqK.q (q_pkF rfl rfl rfl) rfl rfl rfl ?_
    refine SeqK.nil ?_
    refine AW.cond _ rfl (fun h16 => ?_) (fun h16 => ?_)
    ·
      refine AW.seq ?_
      refine AW.reg ?_
      refine SeqK.q (q_call _ rfl Fx.fn12 rfl (awake_any) rfl) rfl rfl rfl ?_
      refine SeqK.q (q_asC rfl rfl) rfl rfl rfl ?_
      refine SeqK.nil ?_
      refine AW.ret ?_
      exact fin_x (x := .c _) (_) (.tmp rfl .nil) rfl (fun _ _ h => h) (by first | rfl | (simp; done) | (simp [ki]))
    ·
      refine AW.skip ?_
      refine AW.seq ?_
      have ka := sm_iff' (by simpa using g12 : smB a = true)
      have kb := sm_iff' (by simpa using h16 : smB b = true)
      have k1 := ka.1
      have k2 := kb.1
      have na := num_vld a ra ka.2
      have nb := num_vld b rb kb.2
      have ki := fmt_inj ra rb ka.2 kb.2
      refine AW.draw Fx.mo ?_
      refine LexK.r (b_load (r := .g [_, _]) rfl Fx.ty24 rfl rfl rfl rfl rfl rfl) rfl ?_
      refine LexK.q (q_call _ rfl Fx.fn16 rfl (format_any numOk63 a na (by omega)) rfl) rfl rfl rfl ?_
      refine LexK.r (b_load (r := .g [_, _]) rfl Fx.ty24 rfl rfl rfl rfl rfl rfl) rfl ?_
      refine LexK.q (q_call _ rfl Fx.fn17 rfl (rformat_any a na (by omega)) rfl) rfl rfl rfl ?_
      refine LexK.q (q_eqlS rfl rfl rfl) rfl rfl rfl ?_
      refine LexK.qD (q_mvC rfl rfl) rfl rfl rfl (fun g23 => ?_) (fun g23 => ?_)
      ·
        refine LexK.rOn (b_load (r := .g [_, _]) rfl Fx.ty24 rfl rfl rfl rfl rfl rfl) rfl rfl rfl ?_
        refine LexK.on (q_call _ rfl Fx.fn16 rfl (format_any numOk63 a na (by omega)) rfl) rfl rfl rfl rfl rfl ?_
        refine LexK.rOn (b_load (r := .g [_, _]) rfl Fx.ty24 rfl rfl rfl rfl rfl rfl) rfl rfl rfl ?_
        refine LexK.on (q_call _ rfl Fx.fn16 rfl (format_any numOk63 b nb (by omega)) rfl) rfl rfl rfl rfl rfl ?_
        refine LexK.on (q_eqlS rfl rfl rfl) rfl rfl rfl rfl rfl ?_
        refine LexK.rOn (b_load (r := .g [_, _]) rfl Fx.ty24 rfl rfl rfl rfl rfl rfl) rfl rfl rfl ?_
        refine LexK.rOn (b_load (r := .g [_, _]) rfl Fx.ty24 rfl rfl rfl rfl rfl rfl) rfl rfl rfl ?_
        refine LexK.on (q_call _ rfl Fx.fn15 rfl (rcmp_any a (by omega) b) rfl) rfl rfl rfl rfl rfl ?_
        refine LexK.on (q_eql rfl rfl rfl) rfl rfl rfl rfl rfl ?_
        refine LexK.on (q_eqlB rfl Fx.un4 rfl rfl) rfl rfl rfl rfl rfl ?_
        refine LexK.q (q_pkT rfl rfl rfl) rfl rfl rfl ?_
        refine LexK.q (q_asC rfl rfl) rfl rfl rfl ?_
        refine LexK.nil (by kernel_rfl) ?_
        refine AW.ret ?_
        exact fin_x (x := .c _) (_) (.tmp rfl .nil) rfl (fun _ _ h => h) (by first | rfl | (simp; done) | (simp [ki]))
      ·
        exact absurd rfl g23

end Go.Proofs.YtfbdokfcebpkaaaDoor.W
