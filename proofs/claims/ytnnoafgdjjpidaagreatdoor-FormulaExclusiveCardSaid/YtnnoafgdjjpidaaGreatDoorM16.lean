import Derived.Test.YtnnoafgdjjpidaaGreatDoorM15
set_option maxRecDepth 20000
set_option maxHeartbeats 4000000
set_option linter.unusedSectionVars false
set_option linter.unusedSimpArgs false
set_option linter.unusedVariables false
namespace Go.Proofs.YtnnoafgdjjpidaaGreatDoor.W
open Go.RowKit E M
theorem mul64_any (x y : Nat) (hx : x < 18446744073709551616) (hy : y < 18446744073709551616) : Pure Tryz.prog 168 [u64C x, u64C y] (.tup [u64C (x * y / 18446744073709551616), u64C (x * y % 18446744073709551616)]) :=
  Pure.of_calls [.int .u64 (x : Int), .int .u64 (y : Int)] (fun w => Tryz.bits_Mul64 x y hx hy w) fun c => ⟨_, rfl, .cons (.t (.v rfl)) (.cons (.t (.v rfl)) .nil)⟩
theorem times_any (x y : Nat) (hx : x < 18446744073709551616) (hy : y < 18446744073709551616) : Pure Tryz.prog 145 [u64C x, u64C y] (.c (u64C (cap (x * y)))) := by
 intro H
 refine Spec.enter Tryz.func145 rfl ?_
 refine AW.wk (Wk.keep 20 [(0, .c (u64C x)), (1, .c (u64C y))] [] (H) rfl ⟨rfl, rfl, trivial⟩ trivial (fun _ _ h => h) rfl) ?_
 refine sR (sB ?_)
 refine sR (sM ?_)
 refine sM ?_
 refine Z12 Fx.fn168 (mul64_any _ _ hx hy) ?_
 refine Z39 ?_
 refine Z6 ?_
 refine Z6 ?_
 refine sA ?_
 refine sB ?_
 refine AW.seq (sR (sM ?_))
 refine Z26 ?_
 refine Z17 ?_ ?_ <;> intro g15
 ·
  iterate 2 refine oF ?_
  refine Z8 ?_
  refine Z7 (AW.condT rfl ?_)
  refine sR (sB ?_)
  exact aR (f1 (q := ⟨by rw [show cap (x * y) = 1152921504606846977 by unfold cap; omega]; rfl, rfl⟩))
 refine Z14 ?_
 refine SeqK.on (q_gtr rfl rfl rfl) rfl rfl rfl rfl rfl ?_
 refine Z4 ?_
 refine Z7 ?_
 refine cD ?_ ?_ <;> intro h18
 ·
  refine sR (sB ?_)
  exact aR (f1 (q := ⟨by rw [show cap (x * y) = 1152921504606846977 by unfold cap; omega]; rfl, rfl⟩))
 refine AW.skip (sR (sM ?_))
 refine sB ?_
 exact aR (f1 (q := ⟨by rw [show cap (x * y) = x * y % 18446744073709551616 by unfold cap; omega], rfl⟩))
theorem plus_any (x y : Nat) (hxy : x + y < 18446744073709551616) : Pure Tryz.prog 144 [u64C x, u64C y] (.c (u64C (cap (x + y)))) := by
 intro H
 refine Spec.enter Tryz.func144 rfl ?_
 refine AW.wk (Wk.keep 20 [(0, .c (u64C x)), (1, .c (u64C y))] [] (H) rfl ⟨rfl, rfl, trivial⟩ trivial (fun _ _ h => h) rfl) ?_
 refine sR (sB ?_)
 refine sR (sM ?_)
 refine sM ?_
 refine SeqK.q (q_ext (ex := add64F) (us := [.int .u64 (x : Int), .int .u64 (y : Int), .int .u64 0]) (x := .tup [u64C ((x + y) % 2 ^ 64), u64C ((x + y) / 2 ^ 64)]) rfl rfl Tryz.func167 (by kernel_rfl) (by kernel_rfl) (by kernel_rfl) (by kernel_rfl) (run_add64N x y) (fun c => ⟨_, rfl, .cons (.t (.v rfl)) (.cons (.t (.v rfl)) .nil)⟩) rfl) rfl rfl rfl ?_
 refine Z39 ?_
 refine Z6 ?_
 refine Z6 ?_
 refine sA ?_
 refine sB ?_
 refine AW.seq (sR (sM ?_))
 refine Z26 ?_
 refine Z17 ?_ ?_ <;> intro g15
 ·
  iterate 2 refine oF ?_
  refine Z8 ?_
  refine Z7 (AW.condT rfl ?_)
  refine sR (sB ?_)
  exact aR (f1 (q := ⟨by rw [show cap (x + y) = 1152921504606846977 by unfold cap; omega]; rfl, rfl⟩))
 refine Z14 ?_
 refine SeqK.on (q_gtr rfl rfl rfl) rfl rfl rfl rfl rfl ?_
 refine Z4 ?_
 refine Z7 ?_
 refine cD ?_ ?_ <;> intro h18
 ·
  refine sR (sB ?_)
  exact aR (f1 (q := ⟨by rw [show cap (x + y) = 1152921504606846977 by unfold cap; omega]; rfl, rfl⟩))
 refine AW.skip (sR (sM ?_))
 refine sB ?_
 exact aR (f1 (q := ⟨by rw [show cap (x + y) = (x + y) % 2 ^ 64 by unfold cap; omega], rfl⟩))
theorem plusT (t : Tm) (i : Nat) (hi : i < t.ps.length) : Pure Tryz.prog 144 [u64C (cap (t.c.natAbs + bndPs (t.ps.take i))), u64C (cap (t.ps[i].coef.natAbs * bndP t.ps[i]))] (.c (u64C (cap (t.c.natAbs + bndPs (t.ps.take (i + 1)))))) := by
  have h := plus_any (cap (t.c.natAbs + bndPs (t.ps.take i))) (cap (t.ps[i].coef.natAbs * bndP t.ps[i])) (by have := cap_le (t.c.natAbs + bndPs (t.ps.take i)); have := cap_le (t.ps[i].coef.natAbs * bndP t.ps[i]); omega)
  rw [cap_add] at h
  rw [bndPs_take hi, ← Nat.add_assoc]; exact h
theorem plus_zero (t : Tm) (h : R64 t.c) : Pure Tryz.prog 144 [u64C t.c.natAbs, .a (.t (.v (.int .u64 0)))] (.c (u64C (cap (t.c.natAbs + bndPs (t.ps.take 0))))) := by
  have := plus_any t.c.natAbs 0 (by omega)
  exact this
theorem timesB (p : Pt) (y : Nat) (hy : bndP p = y) (hc : R64 p.coef) (hp : bokP p) : Pure Tryz.prog 145 [u64C p.coef.natAbs, u64C y] (.c (u64C (cap (p.coef.natAbs * bndP p)))) := by
  have := bokP_le hp
  subst hy
  exact times_any _ _ (by omega) (by omega)
theorem quoN {x d : Nat} (hx : x ≤ 2 ^ 62) : IntKind.u64.wrap ((x : Int).tdiv (d : Int)) = ((x / d : Nat) : Int) := by
  have h : (x : Int).tdiv (d : Int) = ((x / d : Nat) : Int) := rfl
  have h1 : ((x / d : Nat) : Int) ≤ (x : Int) := by exact_mod_cast Nat.div_le_self x d
  have h0 : (0 : Int) ≤ ((x / d : Nat) : Int) := Int.natCast_nonneg _
  rw [h, wu64 h0 (by omega)]
theorem bound_of (t : Tm) (h : bokT t) (hN : t.cnt ≤ 100000) (ih : ∀ p ∈ t.ps, ∀ o ∈ p.of, vldT o = true → Pure Tryz.prog 108 [tmC o] (.c (u64C (cap (bndT o))))) : Pure Tryz.prog 108 [tmC t] (.c (u64C (cap (bndT t)))) := by
 intro H
 refine Spec.enter Tryz.func108 rfl ?_
 refine AW.wk (Wk.keep 46 [(0, .c (tmC t))] [] (H) rfl ⟨rfl, trivial⟩ trivial (fun _ _ h => h) rfl) ?_
 refine sR (Z20 (r := [_, _]) ?_)
 refine sB ?_
 refine AW.seq ?_
 have hlt := len_ps t
 refine AW.reg (Z1 Fx.fl32_0 ?_)
 refine Z0 Fx.ty2 ?_
 refine SeqK.q (q_call _ rfl Fx.fn86 rfl (abs_any _ (by first | exact h.c | exact h.coef _ (List.getElem_mem hi))) rfl) rfl rfl rfl ?_
 refine Z12 Fx.fn144 (plus_zero t h.c) ?_
 refine sB ?_
 refine AW.seq (sR (Z1 Fx.fl32_1 ?_))
 refine Z0 Fx.ty30 ?_
 refine Z22 Fx.un30 ?_
 refine sM ?_
 refine Z7 (AW.block ?_)
 refine AW.loop (fun (i : Nat) s => (i ≤ t.ps.length) ∧ s = ⟨46, sp [(3, .c (u64C (cap (t.c.natAbs + bndPs (t.ps.take i))))), (12, .c (.a (.t (.sl .un 5 (t.ps.map ptT))))), (13, iX .i64 (((t.ps.map ptT).length : Nat) : Int)), (14, iX .i64 ((i : Nat) : Int))], lv [], H⟩) (fun i => t.ps.length - i) 0 ⟨_, by exact Wk.keep 46 _ _ _ rfl ⟨rfl, rfl, rfl, rfl, trivial⟩ trivial (fun _ _ h => h) rfl, Nat.zero_le _, rfl⟩ (fun i s hs => ?_)
 obtain ⟨hi0, rfl⟩ := hs
 refine sR (Z30 ?_)
 refine Z7 (AW.seq ?_)
 refine cD ?_ ?_ <;> intro h15
 rotate_left
 ·
  refine AW.exit ?_
  refine eth_e ?_
  refine eth_e ?_
  refine exit_here ?_
  refine sR (sM ?_)
  refine sB ?_
  exact aR (f1 (q := ⟨by rw [List.length_map] at h15; rw [bndT_eq, List.take_of_length_le (by omega)], rfl⟩))
 have hi : i < t.ps.length := by rw [List.length_map] at h15; omega
 have hb := h.part _ (List.getElem_mem hi)
 refine AW.skip (AW.seq (AW.block (sR (Z24 Fx.sl30 (idx_map (f := ptT) hi) ?_))))
 refine Z28 (.g [_, _, _, _, _]) Fx.ty89 ?_
 refine Z16 (r := [_, _, _, _, _]) Fx.ze89 ?_
 refine Z2 (r := [_, _, _, _, _]) Fx.ty89 ?_
 refine Z7 (sR (sB ?_))
 refine AW.seq (sR (Z1 Fx.fl89_1 ?_))
 refine Z0 Fx.ty3 ?_
 refine Z7 (AW.block (sR (Z9 ?_)))
 refine sB ?_
 refine cD ?_ ?_ <;> intro h20
 ·
  refine AW.reg (sB ?_)
  refine AW.reg (sM ?_)
  refine Z1 Fx.fl89_0 ?_
  refine Z0 Fx.ty2 ?_
  refine SeqK.q (q_call _ rfl Fx.fn86 rfl (abs_any _ (by first | exact h.c | exact h.coef _ (List.getElem_mem hi))) rfl) rfl rfl rfl ?_
  refine sM ?_
  refine SeqK.q (q_call _ rfl Fx.fn145 rfl (timesB _ 16 (by rw [bndP_eq, if_pos h20]) (h.coef _ (List.getElem_mem hi)) hb) rfl) rfl rfl rfl ?_
  refine Z12 Fx.fn144 (plusT t i hi) ?_
  refine sB ?_
  refine AW.reg (Z13 ?_)
  refine sM ?_
  refine Z7 ?_
  exact ⟨i + 1, _, by exact Wk.keep 46 _ _ _ rfl ⟨rfl, rfl, rfl, rfl, trivial⟩ trivial (fun _ _ h => h) rfl, by omega, hi, rfl⟩
 refine sR (Z9 ?_)
 refine sB ?_
 refine cD ?_ ?_ <;> intro h22
 rotate_left
 ·
  refine AW.skip (AW.reg (sM ?_))
  refine Z1 Fx.fl89_0 ?_
  refine Z0 Fx.ty2 ?_
  refine SeqK.q (q_call _ rfl Fx.fn86 rfl (abs_any _ (by first | exact h.c | exact h.coef _ (List.getElem_mem hi))) rfl) rfl rfl rfl ?_
  refine sM ?_
  refine SeqK.q (q_call _ rfl Fx.fn145 rfl (timesB _ (2 ^ 31) (by rw [bndP_eq, if_neg h20, if_neg h22]) (h.coef _ (List.getElem_mem hi)) hb) rfl) rfl rfl rfl ?_
  refine Z12 Fx.fn144 (plusT t i hi) ?_
  refine sB ?_
  refine AW.reg (Z13 ?_)
  refine sM ?_
  refine Z7 ?_
  exact ⟨i + 1, _, by exact Wk.keep 46 _ _ _ rfl ⟨rfl, rfl, rfl, rfl, trivial⟩ trivial (fun _ _ h => h) rfl, by omega, hi, rfl⟩
 refine AW.seq ?_
 obtain ⟨hp0, hv1, hv2⟩ := bokP_bnd hb h22
 obtain ⟨hd, _, hvo⟩ := hb h22
 refine AW.reg (Z1 Fx.fl89_4 ?_)
 refine Z0 Fx.ty87 ?_
 refine Z24 Fx.sl87 (idx_tm hp0) ?_
 refine Z28 (.g [_, _]) Fx.ty32 ?_
 refine Z12 Fx.fn108 (ih _ (List.getElem_mem hi) _ (List.getElem_mem hp0) hvo) ?_
 refine sB ?_
 refine sR (sM ?_)
 refine SeqK.q (q_leq rfl rfl rfl) rfl rfl rfl ?_
 refine Z7 ?_
 refine cD ?_ ?_ <;> intro h30
 rotate_left
 ·
  exact absurd (by unfold cap; omega) h30
 have hcap : cap (bndT t.ps[i].of[0]) = bndT t.ps[i].of[0] := by unfold cap; omega
 rw [hcap] at *
 refine AW.reg (sM ?_)
 refine Z1 Fx.fl89_3 ?_
 refine Z0 Fx.ty2 ?_
 refine SeqK.q (q_conv _ rfl Fx.un130 rfl ((by rw [wu64 (by omega) (by omega)]; omega : IntKind.u64.wrap t.ps[i].dv = ((t.ps[i].dv.toNat : Nat) : Int))) ⟨_, Fx.un2⟩) rfl rfl rfl ?_
 refine SeqK.q (q_quo _ rfl rfl rfl (by omega) (quoN (by omega))) rfl rfl rfl ?_
 refine SeqK.q (q_add _ rfl rfl rfl ((by rw [wu64 (by omega) (by have := Nat.div_le_self (bndT t.ps[i].of[0]) t.ps[i].dv.toNat; omega)]; rfl : IntKind.u64.wrap _ = ((bndT t.ps[i].of[0] / t.ps[i].dv.toNat + 1 : Nat) : Int)))) rfl rfl rfl ?_
 refine sB ?_
 refine AW.reg (sM ?_)
 refine Z1 Fx.fl89_0 ?_
 refine Z0 Fx.ty2 ?_
 refine SeqK.q (q_call _ rfl Fx.fn86 rfl (abs_any _ (by first | exact h.c | exact h.coef _ (List.getElem_mem hi))) rfl) rfl rfl rfl ?_
 refine sM ?_
 refine Z12 Fx.fn145 (timesB _ _ hv2 (h.coef _ (List.getElem_mem hi)) hb) ?_
 refine Z12 Fx.fn144 (plusT t i hi) ?_
 refine sB ?_
 refine AW.reg (Z13 ?_)
 refine sM ?_
 refine Z7 ?_
 exact ⟨i + 1, _, by exact Wk.keep 46 _ _ _ rfl ⟨rfl, rfl, rfl, rfl, trivial⟩ trivial (fun _ _ h => h) rfl, by omega, hi, rfl⟩
theorem bound_any (t : Tm) : bokT t → t.cnt ≤ 100000 → Pure Tryz.prog 108 [tmC t] (.c (u64C (cap (bndT t)))) := by
  induction t using Tm.ind with
  | h t ih =>
    intro h hN
    exact bound_of t h hN fun p hp o ho hv => ih p hp o ho (vldT_bok hv) (by have := cnt_of hp ho; omega)
theorem small_no {t : Tm} {i : Nat} (hi : i < t.ps.length) (h : 2 ^ 20 < t.ps[i].coef.natAbs) : smallB t = false := by
  cases hs : smallB t with
  | false => rfl
  | true => have := (smallB_iff.1 hs).2.1 _ (List.getElem_mem hi); omega
theorem small_yes {t : Tm} (hc : t.c.natAbs ≤ 2 ^ 40) (h : ∀ p ∈ t.ps, p.coef.natAbs ≤ 2 ^ 20) : smallB t = decide (bndT t ≤ 2 ^ 60) := by
  by_cases hb : bndT t ≤ 2 ^ 60
  · rw [smallB_iff.2 ⟨hc, h, hb⟩]; simp [hb]
  · cases hs : smallB t with
    | false => simp [hb]
    | true => exact absurd (smallB_iff.1 hs).2.2 hb
theorem take_step {P : Pt → Prop} {l : List Pt} {i : Nat} (hi : i < l.length) (h : ∀ p ∈ l.take i, P p) (hp : P l[i]) : ∀ p ∈ l.take (i + 1), P p := by
  rw [List.take_succ_eq_append_getElem hi]
  intro x hx
  rcases List.mem_append.1 hx with h1 | h1
  · exact h x h1
  · simp at h1; rw [h1]; exact hp
theorem small_any (t : Tm) (h : bokT t) (hN : t.cnt ≤ 100000) : Pure Tryz.prog 75 [tmC t] (.c (bC (smallB t))) := by
 intro H
 refine Spec.enter Tryz.func75 rfl ?_
 refine AW.wk (Wk.keep 24 [(0, .c (tmC t))] [] (H) rfl ⟨rfl, trivial⟩ trivial (fun _ _ h => h) rfl) ?_
 refine sR (Z20 (r := [_, _]) ?_)
 refine sB ?_
 refine AW.seq (AW.seq ?_)
 have hlt := len_ps t
 refine AW.reg (Z1 Fx.fl32_0 ?_)
 refine Z0 Fx.ty2 ?_
 refine SeqK.q (q_call _ rfl Fx.fn86 rfl (abs_any _ (by first | exact h.c | exact h.coef _ (List.getElem_mem hi))) rfl) rfl rfl rfl ?_
 refine Z43 ?_
 refine Z7 ?_
 refine cD ?_ ?_ <;> intro h8
 ·
  refine sR (sB ?_)
  exact aR (f1 (q := ⟨by rw [show smallB t = false by cases hs : smallB t with | false => rfl | true => have := (smallB_iff.1 hs).1; omega], rfl⟩))
 refine AW.skip (AW.seq (sR (Z1 Fx.fl32_1 ?_)))
 refine Z0 Fx.ty30 ?_
 refine Z22 Fx.un30 ?_
 refine sM ?_
 refine Z7 (AW.block ?_)
 refine AW.loop (fun (i : Nat) s => (i ≤ t.ps.length ∧ ∀ p ∈ t.ps.take i, p.coef.natAbs ≤ 2 ^ 20) ∧ s = ⟨24, sp [(1, .lp 1 0), (2, bX false), (10, .c (.a (.t (.sl .un 5 (t.ps.map ptT))))), (11, iX .i64 (((t.ps.map ptT).length : Nat) : Int)), (12, iX .i64 ((i : Nat) : Int))], lv [(1, .box (zTm t))], H⟩) (fun i => t.ps.length - i) 0 ⟨_, by exact Wk.keep 24 _ _ _ rfl ⟨rfl, rfl, rfl, rfl, rfl, trivial⟩ ⟨rfl, trivial⟩ (fun _ _ h => h) rfl, ⟨Nat.zero_le _, by simp⟩, rfl⟩ (fun i s hs => ?_)
 obtain ⟨⟨hi0, hc⟩, rfl⟩ := hs
 refine sR (Z30 ?_)
 refine Z7 (AW.seq ?_)
 refine cD ?_ ?_ <;> intro h13
 ·
  have hi : i < t.ps.length := by rw [List.length_map] at h13; omega
  refine AW.skip (AW.seq (AW.block (sR (Z24 Fx.sl30 (idx_map (f := ptT) hi) ?_))))
  refine Z28 (.g [_, _, _, _, _]) Fx.ty89 ?_
  refine Z16 (r := [_, _, _, _, _]) Fx.ze89 ?_
  refine Z2 (r := [_, _, _, _, _]) Fx.ty89 ?_
  refine Z7 (sR (Z1 Fx.fl89_0 ?_))
  refine Z0 Fx.ty2 ?_
  refine SeqK.q (q_call _ rfl Fx.fn86 rfl (abs_any _ (by first | exact h.c | exact h.coef _ (List.getElem_mem hi))) rfl) rfl rfl rfl ?_
  refine Z43 ?_
  refine Z7 ?_
  refine cD ?_ ?_ <;> intro h19
  ·
   refine sR (sB ?_)
   exact aR (f1 (q := ⟨by rw [small_no hi (by omega)], rfl⟩))
  refine AW.skip (AW.reg (Z13 ?_))
  refine sM ?_
  refine Z7 ?_
  exact ⟨i + 1, _, by exact Wk.keep 24 _ _ _ rfl ⟨rfl, rfl, rfl, rfl, rfl, trivial⟩ ⟨rfl, trivial⟩ (fun _ _ h => h) rfl, by omega, ⟨hi, take_step hi hc (by omega)⟩, rfl⟩
 refine AW.exit ?_
 refine eth_e ?_
 refine eth_e ?_
 refine exit_here ?_
 refine sR (Z10 (r := .g [_, _]) Fx.ty32 ?_)
 refine Z12 Fx.fn108 (bound_any t h hN) ?_
 refine SeqK.q (q_leq rfl rfl rfl) rfl rfl rfl ?_
 refine sB ?_
 exact aR (f1 (q := ⟨by rw [List.length_map] at h13; rw [List.take_of_length_le (by omega)] at hc; rw [small_yes (by omega) hc, decide_eq_decide.2 (show ((cap (bndT t) : Nat) : Int) ≤ 1152921504606846976 ↔ bndT t ≤ 2 ^ 60 by unfold cap; omega)], rfl⟩))
theorem bndPs_take_le (l : List Pt) (i : Nat) : bndPs (l.take i) ≤ bndPs l := by
  have h := bndPs_app (a := l.take i) (b := l.drop i)
  rw [List.take_append_drop] at h; omega
theorem small_big {t : Tm} {i : Nat} (h : 2 ^ 60 < t.c.natAbs + bndPs (t.ps.take i)) : smallB t = false := by
  cases hs : smallB t with
  | false => rfl
  | true =>
    have h1 := (smallB_iff.1 hs).2.2
    have h2 := bndPs_take_le t.ps i
    rw [bndT_eq] at h1; omega
theorem small_mul {t : Tm} {i : Nat} (hi : i < t.ps.length) (h0 : 0 < t.ps[i].coef.natAbs) (h : 2 ^ 60 / t.ps[i].coef.natAbs < bndP t.ps[i]) : smallB t = false := by
  have h1 := (Nat.div_lt_iff_lt_mul h0).1 h
  rw [Nat.mul_comm] at h1
  exact small_big (i := i + 1) (by rw [bndPs_take hi]; omega)
theorem mul_le_of {n b : Nat} (h : b ≤ 2 ^ 60 / n) : n * b ≤ 2 ^ 60 := Nat.le_trans (Nat.mul_le_mul_left n h) (Nat.mul_div_le _ _)
theorem mulB {n b : Nat} {y : Int} (hy : y = (b : Int)) (h : n * b ≤ 2 ^ 60) : IntKind.i64.wrap ((n : Int) * y) = ((n * b : Nat) : Int) := by
  subst hy
  have e : (n : Int) * (b : Int) = ((n * b : Nat) : Int) := (Int.natCast_mul n b).symm
  have h0 : (0 : Int) ≤ ((n * b : Nat) : Int) := Int.natCast_nonneg _
  have h1 : ((n * b : Nat) : Int) ≤ ((2 ^ 60 : Nat) : Int) := Int.ofNat_le.2 h
  rw [e, w64 (by omega) (by omega)]
theorem quoI {x d : Nat} (hx : x ≤ 2 ^ 62) : IntKind.i64.wrap ((x : Int).tdiv (d : Int)) = ((x / d : Nat) : Int) := by
  have h : (x : Int).tdiv (d : Int) = ((x / d : Nat) : Int) := rfl
  have h1 : ((x / d : Nat) : Int) ≤ (x : Int) := by exact_mod_cast Nat.div_le_self x d
  have h0 : (0 : Int) ≤ ((x / d : Nat) : Int) := Int.natCast_nonneg _
  rw [h, w64 (by omega) (by omega)]
theorem quoD {x : Nat} {d : Int} (hx : x ≤ 2 ^ 62) (hd : 0 ≤ d) : IntKind.i64.wrap ((x : Int).tdiv d) = ((x / d.toNat : Nat) : Int) := by
  obtain ⟨m, rfl⟩ := Int.eq_ofNat_of_zero_le hd
  exact quoI hx
abbrev rb (t : Tm) : Int := if smallB t = true then (bndT t : Int) else 1152921504606846977
theorem rbound_of (t : Tm) (h : bokT t) (hN : t.cnt ≤ 100000) (ih : ∀ p ∈ t.ps, ∀ o ∈ p.of, vldT o = true → Pure Tryz.prog 176 [tmC o] (.c (iC (bndT o)))) : Pure Tryz.prog 176 [tmC t] (.c (iC (rb t))) := by
 intro H
 refine Spec.enter Tryz.func176 rfl ?_
 refine AW.wk (Wk.keep 68 [(0, .c (tmC t))] [] (H) rfl ⟨rfl, trivial⟩ trivial (fun _ _ h => h) rfl) ?_
 refine sR (Z20 (r := [_, _]) ?_)
 refine sB ?_
 refine AW.seq (AW.seq ?_)
 have hlt := len_ps t
 have hcc := h.c
 refine AW.reg (Z1 Fx.fl32_0 ?_)
 refine Z0 Fx.ty2 ?_
 refine Z12 Fx.fn155 (within_any _ _ _) ?_
 refine Z49 ?_
 refine Z7 ?_
 refine AW.cond _ rfl (fun h10 => ?_) (fun h10 => ?_)
 ·
  refine sR (sB ?_)
  exact aR (f1 (q := ⟨by rw [rb, if_neg (by intro hs; have := (smallB_iff.1 hs).1; simp at h10; omega)], rfl⟩))
 refine AW.skip (AW.seq ?_)
 have hc40 : t.c.natAbs ≤ 2 ^ 40 := by simp at h10; omega
 refine AW.reg (Z1 Fx.fl32_0 ?_)
 refine Z0 Fx.ty2 ?_
 refine SeqK.q (q_call _ rfl Fx.fn177 rfl (rabs_any _ (by simp at *; omega)) rfl) rfl rfl rfl ?_
 refine sB ?_
 refine AW.seq (sR (sB ?_))
 refine AW.block ?_
 refine AW.loop (fun (i : Nat) s => (i ≤ t.ps.length ∧ (∀ p ∈ t.ps.take i, p.coef.natAbs ≤ 2 ^ 20) ∧ t.c.natAbs + bndPs (t.ps.take i) ≤ 2 ^ 60) ∧ s = ⟨68, sp [(1, .lp 1 0), (2, .c (iC 0)), (3, iX .i64 ((t.c.natAbs + bndPs (t.ps.take i) : Nat) : Int)), (4, iX .i64 ((i : Nat) : Int))], lv [(1, .box (zTm t))], H⟩) (fun i => t.ps.length - i) 0 ⟨_, by exact Wk.keep 68 _ _ _ rfl ⟨rfl, rfl, rfl, rfl, trivial⟩ ⟨rfl, trivial⟩ (fun _ _ h => h) rfl, ⟨Nat.zero_le _, by simp, by simp [bndPs]; omega⟩, rfl⟩ (fun i s hs => ?_)
 obtain ⟨⟨hi0, hc, hS⟩, rfl⟩ := hs
 refine AW.seq (sR (sM ?_))
 refine Z1 Fx.fl32_1 ?_
 refine Z0 Fx.ty30 ?_
 refine Z22 Fx.un30 ?_
 refine Z30 ?_
 refine Z7 ?_
 refine cD ?_ ?_ <;> intro h18
 rotate_left
 ·
  refine AW.exit ?_
  refine eth_e ?_
  refine eth_e ?_
  refine exit_here ?_
  refine sR (sM ?_)
  refine sB ?_
  refine AW.ret ?_
  rw [List.length_map] at h18
  rw [List.take_of_length_le (by omega)] at hc
  exact f1 (q := ⟨by rw [rb, if_pos (smallB_iff.2 ⟨hc40, hc, by rw [List.take_of_length_le (by omega)] at hS; rw [bndT_eq]; exact hS⟩), bndT_eq, List.take_of_length_le (by omega)], rfl⟩)
 have hi : i < t.ps.length := by rw [List.length_map] at h18; omega
 have hb := h.part _ (List.getElem_mem hi)
 have hcf := h.coef _ (List.getElem_mem hi)
 have hbl := bokP_le hb
 refine AW.skip (AW.seq (AW.block (sR (Z1 Fx.fl32_1 ?_))))
 refine Z0 Fx.ty30 ?_
 refine sM ?_
 refine Z24 Fx.sl30 (idx_map (f := ptT) hi) ?_
 refine Z28 (.g [_, _, _, _, _]) Fx.ty89 ?_
 refine Z16 (r := [_, _, _, _, _]) Fx.ze89 ?_
 refine Z2 (r := [_, _, _, _, _]) Fx.ty89 ?_
 refine Z7 (sR (sB ?_))
 refine AW.seq (sR (Z1 Fx.fl89_1 ?_))
 refine Z0 Fx.ty3 ?_
 refine Z9 ?_
 refine Z7 ?_
 refine cD ?_ ?_ <;> intro h28
 ·
  refine AW.reg (sB ?_)
  refine AW.seq (sR (Z1 Fx.fl89_1 ?_))
  refine Z0 Fx.ty3 ?_
  refine Z9 ?_
  refine Z7 ?_
  refine cD ?_ ?_ <;> intro h31
  ·
   obtain ⟨hp0, hv1, hv2⟩ := bokP_bnd hb h31
   obtain ⟨hd, _, hvo⟩ := hb h31
   refine AW.draw Fx.mo ?_
   refine Z23 Fx.fl89_4 ?_
   refine Z18 Fx.ty87 ?_
   refine Z29 Fx.sl87 (idx_tm hp0) ?_
   refine Z32 (.g [_, _]) Fx.ty32 ?_
   refine Z45 Fx.fn176 (ih _ (List.getElem_mem hi) _ (List.getElem_mem hp0) hvo) ?_
   refine Z23 Fx.fl89_3 ?_
   refine Z18 Fx.ty2 ?_
   refine LexK.q (q_quo _ rfl rfl rfl (by omega) (quoD (by omega) (by omega))) rfl rfl rfl ?_
   refine LexK.q (q_add _ rfl rfl rfl ((by rw [w64 (by omega) (by have := Nat.div_le_self (bndT t.ps[i].of[0]) t.ps[i].dv.toNat; omega)]; rfl : IntKind.i64.wrap _ = ((bndT t.ps[i].of[0] / t.ps[i].dv.toNat + 1 : Nat) : Int)))) rfl rfl rfl ?_
   refine Z52 ?_
   refine Z48 ?_
   refine AW.seq (AW.seq ?_)
   have hbp := bndP_eq t.ps[i]
   try rw [if_pos h28] at hbp
   try rw [if_neg h28, if_neg h31] at hbp
   refine AW.reg (Z1 Fx.fl89_0 ?_)
   refine Z0 Fx.ty2 ?_
   refine Z12 Fx.fn155 (within_any _ _ _) ?_
   refine Z49 ?_
   refine Z36 ?_ ?_ <;> intro g45
   ·
    iterate 4 refine oF ?_
    iterate 6 refine oU ?_
    refine Z34 ?_
    refine Z8 ?_
    refine Z7 (AW.condT rfl ?_)
    refine sR (sB ?_)
    exact aR (f1 (q := ⟨by rw [rb, if_neg (by rw [show smallB t = false by first | exact small_no hi (by simp at g45; omega) | exact small_mul hi (by omega) (by omega)]; simp)], rfl⟩))
   refine Z5 Fx.fl89_0 ?_
   refine Z3 Fx.ty2 ?_
   refine Z42 ?_
   refine Z46 ?_ ?_ <;> intro g49
   ·
    refine Z14 ?_
    refine Z5 Fx.fl89_0 ?_
    refine Z3 Fx.ty2 ?_
    refine SeqK.on (q_call _ rfl Fx.fn177 rfl (rabs_any _ (by simp at *; omega)) rfl) rfl rfl rfl rfl rfl ?_
    refine SeqK.on (q_quo _ rfl rfl rfl (by omega) (quoI (x := 2 ^ 60) (by omega))) rfl rfl rfl rfl rfl ?_
    refine SeqK.on (q_gtr rfl rfl rfl) rfl rfl rfl rfl rfl ?_
    refine Z33 ?_
    refine Z4 ?_
    refine Z7 ?_
    refine cD ?_ ?_ <;> intro h57
    ·
     refine sR (sB ?_)
     exact aR (f1 (q := ⟨by rw [rb, if_neg (by rw [show smallB t = false by first | exact small_no hi (by simp at g45; omega) | exact small_mul hi (by omega) (by omega)]; simp)], rfl⟩))
    refine AW.skip (AW.seq ?_)
    have hle : t.ps[i].coef.natAbs * bndP t.ps[i] ≤ 2 ^ 60 := by first | exact mul_le_of (by omega) | (rw [show t.ps[i].coef.natAbs = 0 by omega]; omega)
    refine AW.reg (sM ?_)
    refine Z1 Fx.fl89_0 ?_
    refine Z0 Fx.ty2 ?_
    refine SeqK.q (q_call _ rfl Fx.fn177 rfl (rabs_any _ (by simp at *; omega)) rfl) rfl rfl rfl ?_
    refine sM ?_
    refine SeqK.q (q_mul _ rfl rfl rfl (mulB (b := bndP t.ps[i]) (by omega) hle)) rfl rfl rfl ?_
    refine SeqK.q (q_add _ rfl rfl rfl ((by rw [bndPs_take hi, w64 (by omega) (by omega)]; push_cast; omega : IntKind.i64.wrap _ = ((t.c.natAbs + bndPs (t.ps.take (i + 1)) : Nat) : Int)))) rfl rfl rfl ?_
    refine sB ?_
    refine sR (sM ?_)
    refine Z43 ?_
    refine Z7 ?_
    refine cD ?_ ?_ <;> intro h66
    ·
     refine sR (sB ?_)
     exact aR (f1 (q := ⟨by rw [rb, if_neg (by rw [small_big (t := t) (i := i + 1) (by omega)]; simp)], rfl⟩))
    refine AW.skip (AW.reg (sM ?_))
    refine Z13 ?_
    refine sB ?_
    exact ⟨i + 1, _, by exact Wk.keep 68 _ _ _ rfl ⟨rfl, rfl, rfl, rfl, trivial⟩ ⟨rfl, trivial⟩ (fun _ _ h => h) rfl, by omega, ⟨hi, take_step hi hc (by simp at g45; omega), by omega⟩, rfl⟩
   iterate 6 refine oF ?_
   refine Z37 ?_
   refine Z4 ?_
   refine Z7 (AW.condF rfl ?_)
   refine AW.skip (AW.seq ?_)
   have hle : t.ps[i].coef.natAbs * bndP t.ps[i] ≤ 2 ^ 60 := by first | exact mul_le_of (by omega) | (rw [show t.ps[i].coef.natAbs = 0 by omega]; omega)
   refine AW.reg (sM ?_)
   refine Z1 Fx.fl89_0 ?_
   refine Z0 Fx.ty2 ?_
   refine SeqK.q (q_call _ rfl Fx.fn177 rfl (rabs_any _ (by simp at *; omega)) rfl) rfl rfl rfl ?_
   refine sM ?_
   refine SeqK.q (q_mul _ rfl rfl rfl (mulB (b := bndP t.ps[i]) (by omega) hle)) rfl rfl rfl ?_
   refine SeqK.q (q_add _ rfl rfl rfl ((by rw [bndPs_take hi, w64 (by omega) (by omega)]; push_cast; omega : IntKind.i64.wrap _ = ((t.c.natAbs + bndPs (t.ps.take (i + 1)) : Nat) : Int)))) rfl rfl rfl ?_
   refine sB ?_
   refine sR (sM ?_)
   refine Z43 ?_
   refine Z7 ?_
   refine cD ?_ ?_ <;> intro h66
   ·
    refine sR (sB ?_)
    exact aR (f1 (q := ⟨by rw [rb, if_neg (by rw [small_big (t := t) (i := i + 1) (by omega)]; simp)], rfl⟩))
   refine AW.skip (AW.reg (sM ?_))
   refine Z13 ?_
   refine sB ?_
   exact ⟨i + 1, _, by exact Wk.keep 68 _ _ _ rfl ⟨rfl, rfl, rfl, rfl, trivial⟩ ⟨rfl, trivial⟩ (fun _ _ h => h) rfl, by omega, ⟨hi, take_step hi hc (by simp at g45; omega), by omega⟩, rfl⟩
  refine AW.skip (AW.seq (AW.seq ?_))
  have hbp := bndP_eq t.ps[i]
  try rw [if_pos h28] at hbp
  try rw [if_neg h28, if_neg h31] at hbp
  refine AW.reg (Z1 Fx.fl89_0 ?_)
  refine Z0 Fx.ty2 ?_
  refine Z12 Fx.fn155 (within_any _ _ _) ?_
  refine Z49 ?_
  refine Z36 ?_ ?_ <;> intro g45
  ·
   iterate 4 refine oF ?_
   iterate 6 refine oU ?_
   refine Z34 ?_
   refine Z8 ?_
   refine Z7 (AW.condT rfl ?_)
   refine sR (sB ?_)
   exact aR (f1 (q := ⟨by rw [rb, if_neg (by rw [show smallB t = false by first | exact small_no hi (by simp at g45; omega) | exact small_mul hi (by omega) (by omega)]; simp)], rfl⟩))
  refine Z5 Fx.fl89_0 ?_
  refine Z3 Fx.ty2 ?_
  refine Z42 ?_
  refine Z46 ?_ ?_ <;> intro g49
  ·
   refine Z14 ?_
   refine Z5 Fx.fl89_0 ?_
   refine Z3 Fx.ty2 ?_
   refine SeqK.on (q_call _ rfl Fx.fn177 rfl (rabs_any _ (by simp at *; omega)) rfl) rfl rfl rfl rfl rfl ?_
   refine SeqK.on (q_quo _ rfl rfl rfl (by omega) (quoI (x := 2 ^ 60) (by omega))) rfl rfl rfl rfl rfl ?_
   refine SeqK.on (q_gtr rfl rfl rfl) rfl rfl rfl rfl rfl ?_
   refine Z33 ?_
   refine Z4 ?_
   refine Z7 ?_
   refine cD ?_ ?_ <;> intro h57
   ·
    refine sR (sB ?_)
    exact aR (f1 (q := ⟨by rw [rb, if_neg (by rw [show smallB t = false by first | exact small_no hi (by simp at g45; omega) | exact small_mul hi (by omega) (by omega)]; simp)], rfl⟩))
   refine AW.skip (AW.seq ?_)
   have hle : t.ps[i].coef.natAbs * bndP t.ps[i] ≤ 2 ^ 60 := by first | exact mul_le_of (by omega) | (rw [show t.ps[i].coef.natAbs = 0 by omega]; omega)
   refine AW.reg (sM ?_)
   refine Z1 Fx.fl89_0 ?_
   refine Z0 Fx.ty2 ?_
   refine SeqK.q (q_call _ rfl Fx.fn177 rfl (rabs_any _ (by simp at *; omega)) rfl) rfl rfl rfl ?_
   refine sM ?_
   refine SeqK.q (q_mul _ rfl rfl rfl (mulB (b := bndP t.ps[i]) (by omega) hle)) rfl rfl rfl ?_
   refine SeqK.q (q_add _ rfl rfl rfl ((by rw [bndPs_take hi, w64 (by omega) (by omega)]; push_cast; omega : IntKind.i64.wrap _ = ((t.c.natAbs + bndPs (t.ps.take (i + 1)) : Nat) : Int)))) rfl rfl rfl ?_
   refine sB ?_
   refine sR (sM ?_)
   refine Z43 ?_
   refine Z7 ?_
   refine cD ?_ ?_ <;> intro h66
   ·
    refine sR (sB ?_)
    exact aR (f1 (q := ⟨by rw [rb, if_neg (by rw [small_big (t := t) (i := i + 1) (by omega)]; simp)], rfl⟩))
   refine AW.skip (AW.reg (sM ?_))
   refine Z13 ?_
   refine sB ?_
   exact ⟨i + 1, _, by exact Wk.keep 68 _ _ _ rfl ⟨rfl, rfl, rfl, rfl, trivial⟩ ⟨rfl, trivial⟩ (fun _ _ h => h) rfl, by omega, ⟨hi, take_step hi hc (by simp at g45; omega), by omega⟩, rfl⟩
  iterate 6 refine oF ?_
  refine Z37 ?_
  refine Z4 ?_
  refine Z7 (AW.condF rfl ?_)
  refine AW.skip (AW.seq ?_)
  have hle : t.ps[i].coef.natAbs * bndP t.ps[i] ≤ 2 ^ 60 := by first | exact mul_le_of (by omega) | (rw [show t.ps[i].coef.natAbs = 0 by omega]; omega)
  refine AW.reg (sM ?_)
  refine Z1 Fx.fl89_0 ?_
  refine Z0 Fx.ty2 ?_
  refine SeqK.q (q_call _ rfl Fx.fn177 rfl (rabs_any _ (by simp at *; omega)) rfl) rfl rfl rfl ?_
  refine sM ?_
  refine SeqK.q (q_mul _ rfl rfl rfl (mulB (b := bndP t.ps[i]) (by omega) hle)) rfl rfl rfl ?_
  refine SeqK.q (q_add _ rfl rfl rfl ((by rw [bndPs_take hi, w64 (by omega) (by omega)]; push_cast; omega : IntKind.i64.wrap _ = ((t.c.natAbs + bndPs (t.ps.take (i + 1)) : Nat) : Int)))) rfl rfl rfl ?_
  refine sB ?_
  refine sR (sM ?_)
  refine Z43 ?_
  refine Z7 ?_
  refine cD ?_ ?_ <;> intro h66
  ·
   refine sR (sB ?_)
   exact aR (f1 (q := ⟨by rw [rb, if_neg (by rw [small_big (t := t) (i := i + 1) (by omega)]; simp)], rfl⟩))
  refine AW.skip (AW.reg (sM ?_))
  refine Z13 ?_
  refine sB ?_
  exact ⟨i + 1, _, by exact Wk.keep 68 _ _ _ rfl ⟨rfl, rfl, rfl, rfl, trivial⟩ ⟨rfl, trivial⟩ (fun _ _ h => h) rfl, by omega, ⟨hi, take_step hi hc (by simp at g45; omega), by omega⟩, rfl⟩
 refine AW.skip (AW.seq (sR (Z1 Fx.fl89_1 ?_)))
 refine Z0 Fx.ty3 ?_
 refine Z9 ?_
 refine Z7 ?_
 refine cD ?_ ?_ <;> intro h31
 ·
  obtain ⟨hp0, hv1, hv2⟩ := bokP_bnd hb h31
  obtain ⟨hd, _, hvo⟩ := hb h31
  refine AW.draw Fx.mo ?_
  refine Z23 Fx.fl89_4 ?_
  refine Z18 Fx.ty87 ?_
  refine Z29 Fx.sl87 (idx_tm hp0) ?_
  refine Z32 (.g [_, _]) Fx.ty32 ?_
  refine Z45 Fx.fn176 (ih _ (List.getElem_mem hi) _ (List.getElem_mem hp0) hvo) ?_
  refine Z23 Fx.fl89_3 ?_
  refine Z18 Fx.ty2 ?_
  refine LexK.q (q_quo _ rfl rfl rfl (by omega) (quoD (by omega) (by omega))) rfl rfl rfl ?_
  refine LexK.q (q_add _ rfl rfl rfl ((by rw [w64 (by omega) (by have := Nat.div_le_self (bndT t.ps[i].of[0]) t.ps[i].dv.toNat; omega)]; rfl : IntKind.i64.wrap _ = ((bndT t.ps[i].of[0] / t.ps[i].dv.toNat + 1 : Nat) : Int)))) rfl rfl rfl ?_
  refine Z52 ?_
  refine Z48 ?_
  refine AW.seq (AW.seq ?_)
  have hbp := bndP_eq t.ps[i]
  try rw [if_pos h28] at hbp
  try rw [if_neg h28, if_neg h31] at hbp
  refine AW.reg (Z1 Fx.fl89_0 ?_)
  refine Z0 Fx.ty2 ?_
  refine Z12 Fx.fn155 (within_any _ _ _) ?_
  refine Z49 ?_
  refine Z36 ?_ ?_ <;> intro g45
  ·
   iterate 4 refine oF ?_
   iterate 6 refine oU ?_
   refine Z34 ?_
   refine Z8 ?_
   refine Z7 (AW.condT rfl ?_)
   refine sR (sB ?_)
   exact aR (f1 (q := ⟨by rw [rb, if_neg (by rw [show smallB t = false by first | exact small_no hi (by simp at g45; omega) | exact small_mul hi (by omega) (by omega)]; simp)], rfl⟩))
  refine Z5 Fx.fl89_0 ?_
  refine Z3 Fx.ty2 ?_
  refine Z42 ?_
  refine Z46 ?_ ?_ <;> intro g49
  ·
   refine Z14 ?_
   refine Z5 Fx.fl89_0 ?_
   refine Z3 Fx.ty2 ?_
   refine SeqK.on (q_call _ rfl Fx.fn177 rfl (rabs_any _ (by simp at *; omega)) rfl) rfl rfl rfl rfl rfl ?_
   refine SeqK.on (q_quo _ rfl rfl rfl (by omega) (quoI (x := 2 ^ 60) (by omega))) rfl rfl rfl rfl rfl ?_
   refine SeqK.on (q_gtr rfl rfl rfl) rfl rfl rfl rfl rfl ?_
   refine Z33 ?_
   refine Z4 ?_
   refine Z7 ?_
   refine cD ?_ ?_ <;> intro h57
   ·
    refine sR (sB ?_)
    exact aR (f1 (q := ⟨by rw [rb, if_neg (by rw [show smallB t = false by first | exact small_no hi (by simp at g45; omega) | exact small_mul hi (by omega) (by omega)]; simp)], rfl⟩))
   refine AW.skip (AW.seq ?_)
   have hle : t.ps[i].coef.natAbs * bndP t.ps[i] ≤ 2 ^ 60 := by first | exact mul_le_of (by omega) | (rw [show t.ps[i].coef.natAbs = 0 by omega]; omega)
   refine AW.reg (sM ?_)
   refine Z1 Fx.fl89_0 ?_
   refine Z0 Fx.ty2 ?_
   refine SeqK.q (q_call _ rfl Fx.fn177 rfl (rabs_any _ (by simp at *; omega)) rfl) rfl rfl rfl ?_
   refine sM ?_
   refine SeqK.q (q_mul _ rfl rfl rfl (mulB (b := bndP t.ps[i]) (by omega) hle)) rfl rfl rfl ?_
   refine SeqK.q (q_add _ rfl rfl rfl ((by rw [bndPs_take hi, w64 (by omega) (by omega)]; push_cast; omega : IntKind.i64.wrap _ = ((t.c.natAbs + bndPs (t.ps.take (i + 1)) : Nat) : Int)))) rfl rfl rfl ?_
   refine sB ?_
   refine sR (sM ?_)
   refine Z43 ?_
   refine Z7 ?_
   refine cD ?_ ?_ <;> intro h66
   ·
    refine sR (sB ?_)
    exact aR (f1 (q := ⟨by rw [rb, if_neg (by rw [small_big (t := t) (i := i + 1) (by omega)]; simp)], rfl⟩))
   refine AW.skip (AW.reg (sM ?_))
   refine Z13 ?_
   refine sB ?_
   exact ⟨i + 1, _, by exact Wk.keep 68 _ _ _ rfl ⟨rfl, rfl, rfl, rfl, trivial⟩ ⟨rfl, trivial⟩ (fun _ _ h => h) rfl, by omega, ⟨hi, take_step hi hc (by simp at g45; omega), by omega⟩, rfl⟩
  iterate 6 refine oF ?_
  refine Z37 ?_
  refine Z4 ?_
  refine Z7 (AW.condF rfl ?_)
  refine AW.skip (AW.seq ?_)
  have hle : t.ps[i].coef.natAbs * bndP t.ps[i] ≤ 2 ^ 60 := by first | exact mul_le_of (by omega) | (rw [show t.ps[i].coef.natAbs = 0 by omega]; omega)
  refine AW.reg (sM ?_)
  refine Z1 Fx.fl89_0 ?_
  refine Z0 Fx.ty2 ?_
  refine SeqK.q (q_call _ rfl Fx.fn177 rfl (rabs_any _ (by simp at *; omega)) rfl) rfl rfl rfl ?_
  refine sM ?_
  refine SeqK.q (q_mul _ rfl rfl rfl (mulB (b := bndP t.ps[i]) (by omega) hle)) rfl rfl rfl ?_
  refine SeqK.q (q_add _ rfl rfl rfl ((by rw [bndPs_take hi, w64 (by omega) (by omega)]; push_cast; omega : IntKind.i64.wrap _ = ((t.c.natAbs + bndPs (t.ps.take (i + 1)) : Nat) : Int)))) rfl rfl rfl ?_
  refine sB ?_
  refine sR (sM ?_)
  refine Z43 ?_
  refine Z7 ?_
  refine cD ?_ ?_ <;> intro h66
  ·
   refine sR (sB ?_)
   exact aR (f1 (q := ⟨by rw [rb, if_neg (by rw [small_big (t := t) (i := i + 1) (by omega)]; simp)], rfl⟩))
  refine AW.skip (AW.reg (sM ?_))
  refine Z13 ?_
  refine sB ?_
  exact ⟨i + 1, _, by exact Wk.keep 68 _ _ _ rfl ⟨rfl, rfl, rfl, rfl, trivial⟩ ⟨rfl, trivial⟩ (fun _ _ h => h) rfl, by omega, ⟨hi, take_step hi hc (by simp at g45; omega), by omega⟩, rfl⟩
 refine AW.skip (AW.seq (AW.seq ?_))
 have hbp := bndP_eq t.ps[i]
 try rw [if_pos h28] at hbp
 try rw [if_neg h28, if_neg h31] at hbp
 refine AW.reg (Z1 Fx.fl89_0 ?_)
 refine Z0 Fx.ty2 ?_
 refine Z12 Fx.fn155 (within_any _ _ _) ?_
 refine Z49 ?_
 refine Z36 ?_ ?_ <;> intro g45
 ·
  iterate 4 refine oF ?_
  iterate 6 refine oU ?_
  refine Z34 ?_
  refine Z8 ?_
  refine Z7 (AW.condT rfl ?_)
  refine sR (sB ?_)
  exact aR (f1 (q := ⟨by rw [rb, if_neg (by rw [show smallB t = false by first | exact small_no hi (by simp at g45; omega) | exact small_mul hi (by omega) (by omega)]; simp)], rfl⟩))
 refine Z5 Fx.fl89_0 ?_
 refine Z3 Fx.ty2 ?_
 refine Z42 ?_
 refine Z46 ?_ ?_ <;> intro g49
 ·
  refine Z14 ?_
  refine Z5 Fx.fl89_0 ?_
  refine Z3 Fx.ty2 ?_
  refine SeqK.on (q_call _ rfl Fx.fn177 rfl (rabs_any _ (by simp at *; omega)) rfl) rfl rfl rfl rfl rfl ?_
  refine SeqK.on (q_quo _ rfl rfl rfl (by omega) (quoI (x := 2 ^ 60) (by omega))) rfl rfl rfl rfl rfl ?_
  refine SeqK.on (q_gtr rfl rfl rfl) rfl rfl rfl rfl rfl ?_
  refine Z33 ?_
  refine Z4 ?_
  refine Z7 ?_
  refine cD ?_ ?_ <;> intro h57
  ·
   refine sR (sB ?_)
   exact aR (f1 (q := ⟨by rw [rb, if_neg (by rw [show smallB t = false by first | exact small_no hi (by simp at g45; omega) | exact small_mul hi (by omega) (by omega)]; simp)], rfl⟩))
  refine AW.skip (AW.seq ?_)
  have hle : t.ps[i].coef.natAbs * bndP t.ps[i] ≤ 2 ^ 60 := by first | exact mul_le_of (by omega) | (rw [show t.ps[i].coef.natAbs = 0 by omega]; omega)
  refine AW.reg (sM ?_)
  refine Z1 Fx.fl89_0 ?_
  refine Z0 Fx.ty2 ?_
  refine SeqK.q (q_call _ rfl Fx.fn177 rfl (rabs_any _ (by simp at *; omega)) rfl) rfl rfl rfl ?_
  refine sM ?_
  refine SeqK.q (q_mul _ rfl rfl rfl (mulB (b := bndP t.ps[i]) (by omega) hle)) rfl rfl rfl ?_
  refine SeqK.q (q_add _ rfl rfl rfl ((by rw [bndPs_take hi, w64 (by omega) (by omega)]; push_cast; omega : IntKind.i64.wrap _ = ((t.c.natAbs + bndPs (t.ps.take (i + 1)) : Nat) : Int)))) rfl rfl rfl ?_
  refine sB ?_
  refine sR (sM ?_)
  refine Z43 ?_
  refine Z7 ?_
  refine cD ?_ ?_ <;> intro h66
  ·
   refine sR (sB ?_)
   exact aR (f1 (q := ⟨by rw [rb, if_neg (by rw [small_big (t := t) (i := i + 1) (by omega)]; simp)], rfl⟩))
  refine AW.skip (AW.reg (sM ?_))
  refine Z13 ?_
  refine sB ?_
  exact ⟨i + 1, _, by exact Wk.keep 68 _ _ _ rfl ⟨rfl, rfl, rfl, rfl, trivial⟩ ⟨rfl, trivial⟩ (fun _ _ h => h) rfl, by omega, ⟨hi, take_step hi hc (by simp at g45; omega), by omega⟩, rfl⟩
 iterate 6 refine oF ?_
 refine Z37 ?_
 refine Z4 ?_
 refine Z7 (AW.condF rfl ?_)
 refine AW.skip (AW.seq ?_)
 have hle : t.ps[i].coef.natAbs * bndP t.ps[i] ≤ 2 ^ 60 := by first | exact mul_le_of (by omega) | (rw [show t.ps[i].coef.natAbs = 0 by omega]; omega)
 refine AW.reg (sM ?_)
 refine Z1 Fx.fl89_0 ?_
 refine Z0 Fx.ty2 ?_
 refine SeqK.q (q_call _ rfl Fx.fn177 rfl (rabs_any _ (by simp at *; omega)) rfl) rfl rfl rfl ?_
 refine sM ?_
 refine SeqK.q (q_mul _ rfl rfl rfl (mulB (b := bndP t.ps[i]) (by omega) hle)) rfl rfl rfl ?_
 refine SeqK.q (q_add _ rfl rfl rfl ((by rw [bndPs_take hi, w64 (by omega) (by omega)]; push_cast; omega : IntKind.i64.wrap _ = ((t.c.natAbs + bndPs (t.ps.take (i + 1)) : Nat) : Int)))) rfl rfl rfl ?_
 refine sB ?_
 refine sR (sM ?_)
 refine Z43 ?_
 refine Z7 ?_
 refine cD ?_ ?_ <;> intro h66
 ·
  refine sR (sB ?_)
  exact aR (f1 (q := ⟨by rw [rb, if_neg (by rw [small_big (t := t) (i := i + 1) (by omega)]; simp)], rfl⟩))
 refine AW.skip (AW.reg (sM ?_))
 refine Z13 ?_
 refine sB ?_
 exact ⟨i + 1, _, by exact Wk.keep 68 _ _ _ rfl ⟨rfl, rfl, rfl, rfl, trivial⟩ ⟨rfl, trivial⟩ (fun _ _ h => h) rfl, by omega, ⟨hi, take_step hi hc (by simp at g45; omega), by omega⟩, rfl⟩
theorem rbound_any (t : Tm) : bokT t → t.cnt ≤ 100000 → Pure Tryz.prog 176 [tmC t] (.c (iC (rb t))) := by
  induction t using Tm.ind with
  | h t ih =>
    intro h hN
    refine rbound_of t h hN fun p hp o ho hv => ?_
    have := ih p hp o ho (vldT_bok hv) (by have := cnt_of hp ho; omega)
    rw [rb, if_pos (vldT_small hv)] at this; exact this
theorem bCe {a b : Bool} (h : a = b) : X.c (bC a) = X.c (bC b) := by rw [h]
theorem vT0 {p : Pt} (h : p.coef = 0) : vldP p = false := by rw [vldP_eq]; simp [h]
theorem rsmall_any (t : Tm) (h : bokT t) (hN : t.cnt ≤ 100000) : Pure Tryz.prog 152 [tmC t] (.c (bC (smallB t))) := by
 intro H
 refine Spec.enter Tryz.func152 rfl ?_
 refine AW.wk (Wk.keep 6 [(0, .c (tmC t))] [] (H) rfl ⟨rfl, trivial⟩ trivial (fun _ _ h => h) rfl) ?_
 refine sR (Z20 (r := [_, _]) ?_)
 refine sB ?_
 refine sR (Z10 (r := .g [_, _]) Fx.ty32 ?_)
 refine Z12 Fx.fn176 (rbound_any t h hN) ?_
 refine SeqK.q (q_leq rfl rfl rfl) rfl rfl rfl ?_
 refine sB ?_
 exact aR (f1 (q := ⟨bCe (by rw [rb]; cases hs : smallB t with | false => simp | true => have := (smallB_iff.1 hs).2.2; simp; omega), rfl⟩))
theorem cnt_p {t : Tm} {p : Pt} (hp : p ∈ t.ps) : p.cnt < t.cnt := by
  have := cntPs_mem hp
  rw [Tm.cnt_eq]; omega
theorem cntPs_take_le (l : List Pt) (i : Nat) : cntPs (l.take i) ≤ cntPs l := by
  have h := cntPs_app (a := l.take i) (b := l.drop i)
  rw [List.take_append_drop] at h; omega
theorem lies70 (m : Nat) (hm : 0 < m) : liesAt Tryz.prog Tryz.prog.depth 100 m 0 100 1 = true := by
  have hc : Tryz.prog.cellsOf 100 = 2 := by kernel_rfl
  have hd : Tryz.prog.depth = (2 * (Tryz.prog.types.size + Made.depth) + 1) + 1 := rfl
  rw [hd]
  simp only [liesAt, Bool.or_eq_true]
  left
  rw [hd]
  simp [rowAt, hc, sameLayout]
  omega
abbrev bF : AO := .row 100 2 [.t (.v (.pointer none)), .t (.v (.slice none 0 0))]
abbrev bU (k kt : Nat) (z : Nz) (s : ByteArray) : AO := .row 100 2 [.bp k 0, .ts kt z 1 (bT s)]
structure BU (H0 H : Heap) (k : Nat) (s : ByteArray) : Prop where
  k0 : H0 k = none
  sub : ∀ j o, H0 j = some o → H j = some o
  st : (s = ByteArray.empty ∧ H k = some bF) ∨ ∃ kt z, H k = some (bU k kt z s) ∧ H kt = some (.tip 5 1 (bT s).length) ∧ H0 kt = none ∧ kt ≠ k
theorem blenF (H : Heap) (k : Nat) (hk : H k = some bF) : E.Spec Tryz.prog 84 [.a (.bp k 0)] H fun x H' => x = .c (iC 0) ∧ H' = H := by
 refine Spec.enter Tryz.func84 rfl ?_
 refine AW.wk (Wk.keep 8 [(0, .c (.a (.bp k 0)))] [] (H) rfl ⟨rfl, trivial⟩ trivial (fun _ _ h => h) rfl) ?_
 refine sR (sB ?_)
 refine sR (sM ?_)
 refine SeqK.q (q_nilH rfl rfl) rfl rfl rfl ?_
 refine SeqK.q (q_fieldH _ rfl Fx.fl100_1 rfl rfl) rfl rfl rfl ?_
 refine SeqK.r (g_loadR rfl Fx.ty98 rfl (hk) (rfl) (by simp) (by decide) rfl rfl) rfl ?_
 refine SeqK.q (q_lenN rfl Fx.un98 rfl) rfl rfl rfl ?_
 refine sB ?_
 exact aR (f1 (q := ⟨rfl, rfl⟩))
theorem blenU (H : Heap) (k kt : Nat) (z : Nz) (s : ByteArray) (hk : H k = some (bU k kt z s)) : E.Spec Tryz.prog 84 [.a (.bp k 0)] H fun x H' => x = .c (iC (s.size : Int)) ∧ H' = H := by
 refine Spec.enter Tryz.func84 rfl ?_
 refine AW.wk (Wk.keep 8 [(0, .c (.a (.bp k 0)))] [] (H) rfl ⟨rfl, trivial⟩ trivial (fun _ _ h => h) rfl) ?_
 refine sR (sB ?_)
 refine sR (sM ?_)
 refine SeqK.q (q_nilH rfl rfl) rfl rfl rfl ?_
 refine SeqK.q (q_fieldH _ rfl Fx.fl100_1 rfl rfl) rfl rfl rfl ?_
 refine SeqK.r (g_loadR rfl Fx.ty98 rfl (hk) (rfl) (by simp) (by decide) rfl rfl) rfl ?_
 refine SeqK.q (q_lenTs rfl Fx.un98 rfl) rfl rfl rfl ?_
 refine sB ?_
 exact aR (f1 (q := ⟨by rw [bT_length], rfl⟩))
theorem copyF (H : Heap) (k : Nat) (hk : H k = some bF) : E.Spec Tryz.prog 89 [.a (.bp k 0)] H fun x H' => x = .tup [] ∧ H' = upd H k (some (.row 100 2 [.bp k 0, .t (.v (.slice none 0 0))])) := by
 refine Spec.enter Tryz.func89 rfl ?_
 refine AW.wk (Wk.keep 20 [(0, .c (.a (.bp k 0)))] [] (H) rfl ⟨rfl, trivial⟩ trivial (fun _ _ h => h) rfl) ?_
 refine sR (sM ?_)
 refine SeqK.q (q_nilH rfl rfl) rfl rfl rfl ?_
 refine SeqK.q (q_fieldH _ rfl Fx.fl100_0 rfl rfl) rfl rfl rfl ?_
 refine SeqK.r (g_loadR rfl Fx.ty97 rfl (hk) (rfl) (by simp) (by decide) rfl rfl) rfl ?_
 refine SeqK.q (q_eqlN rfl rfl rfl Fx.nk97) rfl rfl rfl ?_
 refine Z7 (AW.condT rfl ?_)
 refine AW.reg (sM ?_)
 refine sM ?_
 refine SeqK.toU rfl rfl rfl rfl rfl hk (by simp) Tryz.underlying97 Tryz.underlying159 (by kernel_rfl) ?_
 refine SeqK.noEsc rfl rfl rfl rfl rfl Tryz.func117 (by kernel_rfl) (by kernel_rfl) (by kernel_rfl) (by kernel_rfl) ?_
 refine SeqK.fromU (e := 100) rfl rfl rfl rfl rfl hk (by simp) Tryz.underlying159 Tryz.underlying97 (by kernel_rfl) (by kernel_rfl) (by decide) lies70 ?_
 refine SeqK.q (q_nilH rfl rfl) rfl rfl rfl ?_
 refine SeqK.q (q_fieldH _ rfl Fx.fl100_0 rfl rfl) rfl rfl rfl ?_
 refine SeqK.r (g_storeR rfl rfl Fx.ty97 rfl rfl (hk) (rfl) rfl (by simp) (by decide)) rfl ?_
 refine Z7 ?_
 exact fin_xN (x := .tup []) (_) .nil rfl (fun _ _ h => h) (⟨rfl, rfl⟩)
theorem copyU (H : Heap) (k kt : Nat) (z : Nz) (s : ByteArray) (hk : H k = some (bU k kt z s)) : E.Spec Tryz.prog 89 [.a (.bp k 0)] H fun x H' => x = .tup [] ∧ H' = H := by
 refine Spec.enter Tryz.func89 rfl ?_
 refine AW.wk (Wk.keep 20 [(0, .c (.a (.bp k 0)))] [] (H) rfl ⟨rfl, trivial⟩ trivial (fun _ _ h => h) rfl) ?_
 refine sR (sM ?_)
 refine SeqK.q (q_nilH rfl rfl) rfl rfl rfl ?_
 refine SeqK.q (q_fieldH _ rfl Fx.fl100_0 rfl rfl) rfl rfl rfl ?_
 refine SeqK.r (g_loadR rfl Fx.ty97 rfl (hk) (rfl) (by simp) (by decide) rfl rfl) rfl ?_
 refine SeqK.q (q_eqlN rfl rfl rfl Fx.nk97) rfl rfl rfl ?_
 refine Z7 (AW.condF rfl ?_)
 refine sR (sM ?_)
 refine SeqK.q (q_nilH rfl rfl) rfl rfl rfl ?_
 refine SeqK.q (q_fieldH _ rfl Fx.fl100_0 rfl rfl) rfl rfl rfl ?_
 refine SeqK.r (g_loadR rfl Fx.ty97 rfl (hk) (rfl) (by simp) (by decide) rfl rfl) rfl ?_
 refine sM ?_
 refine SeqK.q (q_neqSame rfl Tryz.underlying97 (by kernel_rfl) rfl rfl) rfl rfl rfl ?_
 refine Z7 (AW.condF rfl ?_)
 refine AW.skip ?_
 exact fin_xN (x := .tup []) (H) .nil rfl (fun _ _ h => h) (⟨rfl, rfl⟩)
theorem upd_lt {α : Type} {H : Nat → Option α} {k j : Nat} {x : α} (h : upd H k (some x) j = none) : j ≠ k ∧ H j = none := by
  by_cases e : j = k
  · subst e; rw [upd_same] at h; cases h
  · rw [upd_ne _ _ e] at h; exact ⟨e, h⟩
theorem BU.nil0 {H0 H : Heap} {k j : Nat} {s : ByteArray} (B : BU H0 H k s) (h : H j = none) : H0 j = none := by
  cases hj : H0 j with
  | none => rfl
  | some o => rw [B.sub j o hj] at h; cases h
theorem BU.ne {H0 H : Heap} {k j : Nat} {o : AO} {s : ByteArray} (B : BU H0 H k s) (h : H0 j = some o) : j ≠ k := fun e => by subst e; rw [B.k0] at h; cases h
theorem BU.fresh {H0 H : Heap} {k kt k14 : Nat} {s t : ByteArray} (B : BU H0 H k s) (hs : s = ByteArray.empty) (hkt : H kt = none) (h14 : H k14 = none) (n14k : k14 ≠ k) :
    BU H0 (upd (upd (upd (upd (upd H k (some (.row 100 2 [.bp k 0, .t (.v (.slice none 0 0))]))) kt (some (.tip 5 1 0))) kt none) k14 (some (.tip 5 1 ([] ++ bT t).length))) k (some (.row 100 2 [.bp k 0, .ts k14 .ne 1 ([] ++ bT t)]))) k (s ++ t) := by
  refine ⟨B.k0, fun j o h => ?_, .inr ⟨k14, .ne, ?_, ?_, B.nil0 h14, n14k⟩⟩
  · have h1 := B.ne h
    have h2 : j ≠ kt := fun e => by subst e; rw [B.nil0 hkt] at h; cases h
    have h3 : j ≠ k14 := fun e => by subst e; rw [B.nil0 h14] at h; cases h
    rw [upd_ne _ _ h1, upd_ne _ _ h3, upd_ne _ _ h2, upd_ne _ _ h2, upd_ne _ _ h1]; exact B.sub j o h
  · rw [upd_same]; subst hs; simp [bT]
  · rw [upd_ne _ _ n14k, upd_same]; subst hs; simp [bT]
theorem BU.used {H0 H : Heap} {k kt k14 : Nat} {z : Nz} {s t : ByteArray} (B : BU H0 H k s) (hkt : H0 kt = none) (h14 : H k14 = none) (n14k : k14 ≠ k) :
    BU H0 (upd (upd (upd H kt none) k14 (some (.tip 5 1 (bT s ++ bT t).length))) k (some (.row 100 2 [.bp k 0, .ts k14 z 1 (bT s ++ bT t)]))) k (s ++ t) := by
  refine ⟨B.k0, fun j o h => ?_, .inr ⟨k14, z, ?_, ?_, B.nil0 h14, n14k⟩⟩
  · have h1 := B.ne h
    have h2 : j ≠ kt := fun e => by subst e; rw [hkt] at h; cases h
    have h3 : j ≠ k14 := fun e => by subst e; rw [B.nil0 h14] at h; cases h
    rw [upd_ne _ _ h1, upd_ne _ _ h3, upd_ne _ _ h2]; exact B.sub j o h
  · rw [upd_same, bT_append]
  · rw [upd_ne _ _ n14k, upd_same, bT_append]
theorem wsF (H0 H : Heap) (k : Nat) (s t : ByteArray) (B : BU H0 H k s) (hs : s = ByteArray.empty) (hk : H k = some bF) (ht : t.size ≤ 140737488355328) : E.Spec Tryz.prog 59 [.a (.bp k 0), sC t] H fun x H' => x = .tup [iC (t.size : Int), .a (.t (.v .nilIface))] ∧ BU H0 H' k (s ++ t) := by
 refine Spec.enter Tryz.func59 rfl ?_
 refine AW.wk (Wk.keep 19 [(0, .c (.a (.bp k 0))), (1, .c (sC t))] [] (H) rfl ⟨rfl, rfl, trivial⟩ trivial (fun _ _ h => h) rfl) ?_
 refine sR (sA ?_)
 refine sB ?_
 refine sR (sM ?_)
 refine SeqK.callE rfl rfl rfl rfl Fx.fn89 rfl (copyF _ k hk) (fun _ _ h => by rw [h.1]; rfl) (fun x7 H7 q7 => ?_)
 obtain ⟨rfl, rfl⟩ := q7
 refine Z7 (sR (sM ?_))
 refine sM ?_
 refine SeqK.q (q_nilH rfl rfl) rfl rfl rfl ?_
 refine SeqK.q (q_fieldH _ rfl Fx.fl100_1 rfl rfl) rfl rfl rfl ?_
 refine SeqK.r (g_loadR rfl Fx.ty98 rfl (upd_same _ _ _) (rfl) (by simp) (by decide) rfl rfl) rfl ?_
 refine sM ?_
 refine SeqK.gh (Gh.tip 12 5 1 rfl) ?_
 rintro s1 ⟨kt, hkt, rfl⟩
 obtain ⟨nkt, hkt2⟩ := upd_lt hkt
 refine SeqK.appS rfl rfl Fx.el98 Fx.un9 (by kernel_rfl) rfl (upd_same _ _ _) rfl (by simp; omega) rfl rfl (fun k14 hk14 => ?_)
 obtain ⟨n14, h14⟩ := upd_lt hk14
 obtain ⟨n14k, h14b⟩ := upd_lt h14
 refine SeqK.q (q_nilH rfl rfl) rfl rfl rfl ?_
 refine SeqK.q (q_fieldH _ rfl Fx.fl100_1 rfl rfl) rfl rfl rfl ?_
 refine SeqK.r (g_storeR rfl rfl Fx.ty98 rfl rfl (by (repeat rw [upd_ne _ _ (by first | assumption | exact Ne.symm (by assumption))]); first | assumption | exact upd_same _ _ _) (rfl) rfl (by simp) (by decide)) rfl ?_
 refine Z7 (sR (sM ?_))
 refine SeqK.q (q_lenS rfl Fx.un9 rfl) rfl rfl rfl ?_
 refine sA ?_
 refine sB ?_
 exact aR (fin_x (x := .tup [_, _]) (_) (.tmp rfl (.tmp rfl .nil)) rfl (fun _ _ h => h) (⟨rfl, BU.fresh B hs hkt2 h14b n14k⟩))
theorem wsU (H0 H : Heap) (k kt : Nat) (z : Nz) (s t : ByteArray) (B : BU H0 H k s) (hk : H k = some (bU k kt z s)) (htip : H kt = some (.tip 5 1 (bT s).length)) (hkt0 : H0 kt = none) (hktk : kt ≠ k) (ht : s.size + t.size ≤ 140737488355328) : E.Spec Tryz.prog 59 [.a (.bp k 0), sC t] H fun x H' => x = .tup [iC (t.size : Int), .a (.t (.v .nilIface))] ∧ BU H0 H' k (s ++ t) := by
 refine Spec.enter Tryz.func59 rfl ?_
 refine AW.wk (Wk.keep 19 [(0, .c (.a (.bp k 0))), (1, .c (sC t))] [] (H) rfl ⟨rfl, rfl, trivial⟩ trivial (fun _ _ h => h) rfl) ?_
 refine sR (sA ?_)
 refine sB ?_
 refine sR (sM ?_)
 refine SeqK.callE rfl rfl rfl rfl Fx.fn89 rfl (copyU _ k kt z s hk) (fun _ _ h => by rw [h.1]; rfl) (fun x7 H7 q7 => ?_)
 obtain ⟨rfl, hH⟩ := q7
 replace hH := hH.symm
 subst hH
 refine Z7 (sR (sM ?_))
 refine sM ?_
 refine SeqK.q (q_nilH rfl rfl) rfl rfl rfl ?_
 refine SeqK.q (q_fieldH _ rfl Fx.fl100_1 rfl rfl) rfl rfl rfl ?_
 refine SeqK.r (g_loadR rfl Fx.ty98 rfl (hk) (rfl) (by simp) (by decide) rfl rfl) rfl ?_
 refine sM ?_
 refine SeqK.appS rfl rfl Fx.el98 Fx.un9 (by kernel_rfl) rfl (htip) rfl (by rw [bT_length]; omega) rfl rfl (fun k14 hk14 => ?_)
 have n14 : k14 ≠ k := fun e => by subst e; rw [hk] at hk14; cases hk14
 refine SeqK.q (q_nilH rfl rfl) rfl rfl rfl ?_
 refine SeqK.q (q_fieldH _ rfl Fx.fl100_1 rfl rfl) rfl rfl rfl ?_
 refine SeqK.r (g_storeR rfl rfl Fx.ty98 rfl rfl (by rw [upd_ne _ _ n14.symm, upd_ne _ _ hktk.symm]; exact hk) (rfl) rfl (by simp) (by decide)) rfl ?_
 refine Z7 (sR (sM ?_))
 refine SeqK.q (q_lenS rfl Fx.un9 rfl) rfl rfl rfl ?_
 refine sA ?_
 refine sB ?_
 exact aR (fin_x (x := .tup [_, _]) (_) (.tmp rfl (.tmp rfl .nil)) rfl (fun _ _ h => h) (⟨rfl, BU.used B hkt0 hk14 n14⟩))
theorem ws_any (H0 H : Heap) (k : Nat) (s t : ByteArray) (B : BU H0 H k s) (ht : s.size + t.size ≤ 140737488355328) : E.Spec Tryz.prog 59 [.a (.bp k 0), sC t] H fun x H' => x = .tup [iC (t.size : Int), .a (.t (.v .nilIface))] ∧ BU H0 H' k (s ++ t) := by
  rcases B.st with ⟨hs, hk⟩ | ⟨kt, z, h1, h2, h3, h4⟩
  · exact wsF H0 H k s t B hs hk (by omega)
  · exact wsU H0 H k kt z s t B h1 h2 h3 h4 ht
theorem blen_any (H0 H : Heap) (k : Nat) (s : ByteArray) (B : BU H0 H k s) : E.Spec Tryz.prog 84 [.a (.bp k 0)] H fun x H' => x = .c (iC (s.size : Int)) ∧ H' = H := by
  rcases B.st with ⟨hs, hk⟩ | ⟨kt, z, h1, h2, h3, h4⟩
  · subst hs; exact blenF H k hk
  · exact blenU H k kt z s h1
theorem bstrU (H0 H : Heap) (k kt : Nat) (z : Nz) (s : ByteArray) (B : BU H0 H k s) (hk : H k = some (bU k kt z s)) (htip : H kt = some (.tip 5 1 (bT s).length)) (hkt0 : H0 kt = none) (h0 : s.size ≠ 0) (h63 : s.size ≤ 140737488355328) : E.Spec Tryz.prog 60 [.a (.bp k 0)] H fun x H' => x = .c (sC s) ∧ ∀ j o, H0 j = some o → H' j = some o := by
 refine Spec.enter Tryz.func60 rfl ?_
 refine AW.wk (Wk.keep 14 [(0, .c (.a (.bp k 0)))] [] (H) rfl ⟨rfl, trivial⟩ trivial (fun _ _ h => h) rfl) ?_
 refine sR (sB ?_)
 refine AW.seq ?_
 have hne : bT s ≠ [] := fun h => h0 (by rw [← bT_length, h]; rfl)
 refine AW.drawO [0, 1, 2, 3, 4, 5, 6, 7, 8, 9, 10, 11] Fx.mo (by kernel_rfl) ?_
 refine LexO.q rfl (by kernel_rfl) (q_mvC rfl rfl) rfl rfl rfl ?_
 refine LexO.q rfl (by kernel_rfl) (q_nilH rfl rfl) rfl rfl rfl ?_
 refine LexO.q rfl (by kernel_rfl) (q_fieldH _ rfl Fx.fl100_1 rfl rfl) rfl rfl rfl ?_
 refine LexO.r rfl (by kernel_rfl) (g_loadR rfl Fx.ty98 rfl (hk) (rfl) (by simp) (by decide) rfl rfl) rfl ?_
 refine LexO.q rfl (by kernel_rfl) (q_sliceData rfl rfl hne) rfl rfl rfl ?_
 refine LexO.q rfl (by kernel_rfl) (q_mvC rfl rfl) rfl rfl rfl ?_
 refine LexO.q rfl (by kernel_rfl) (q_nilH rfl rfl) rfl rfl rfl ?_
 refine LexO.q rfl (by kernel_rfl) (q_fieldH _ rfl Fx.fl100_1 rfl rfl) rfl rfl rfl ?_
 refine LexO.r rfl (by kernel_rfl) (g_loadR rfl Fx.ty98 rfl (hk) (rfl) (by simp) (by decide) rfl rfl) rfl ?_
 refine LexO.q rfl (by kernel_rfl) (q_lenTs rfl Fx.un98 rfl) rfl rfl rfl ?_
 refine LexO.string rfl (by kernel_rfl) (by kernel_rfl) (by kernel_rfl) rfl rfl rfl rfl Tryz.underlying135 (by kernel_rfl) rfl (by show iX .i64 (((bT s).length : Nat) : Int) = _; rw [bT_length]) hk htip h0 (by omega) ?_
 refine LexO.q rfl (by kernel_rfl) (q_asC rfl rfl) rfl rfl rfl ?_
 refine LexO.nil (by kernel_rfl) ?_
 exact aR (fin_x (x := .c _) (_) (.tmp rfl .nil) rfl (fun _ _ h => h) (⟨rfl, fun j o h => by show upd H kt none j = _; rw [upd_ne _ _ (fun e => by subst e; rw [hkt0] at h; cases h)]; exact B.sub j o h⟩))
theorem bstr_any (H0 H : Heap) (k : Nat) (s : ByteArray) (B : BU H0 H k s) (h0 : s.size ≠ 0) (h63 : s.size ≤ 140737488355328) : E.Spec Tryz.prog 60 [.a (.bp k 0)] H fun x H' => x = .c (sC s) ∧ ∀ j o, H0 j = some o → H' j = some o := by
  rcases B.st with ⟨hs, hk⟩ | ⟨kt, z, h1, h2, h3, h4⟩
  · exact absurd (by rw [hs]; rfl) h0
  · exact bstrU H0 H k kt z s B h1 h2 h3 h0 h63
def sep (first neg : Bool) : ByteArray := if first then (if neg then ⟨#[45]⟩ else ByteArray.empty) else if neg then ⟨#[32, 45, 32]⟩ else ⟨#[32, 43, 32]⟩
theorem sep_t0 {s : ByteArray} (h : (s.size : Int) = 0) : sep (decide (s.size = 0)) true = ⟨#[45]⟩ := by
  have : s.size = 0 := by omega
  simp [sep, this]
theorem sep_t1 {s : ByteArray} (h : ¬ (s.size : Int) = 0) : sep (decide (s.size = 0)) true = ⟨#[32, 45, 32]⟩ := by
  have : ¬ s.size = 0 := by omega
  simp [sep, this]
theorem sep_f1 {s : ByteArray} (h : (s.size : Int) > 0) : sep (decide (s.size = 0)) false = ⟨#[32, 43, 32]⟩ := by
  have : ¬ s.size = 0 := by omega
  simp [sep, this]
theorem sep_f0 {s : ByteArray} (h : ¬ (s.size : Int) > 0) : s ++ sep (decide (s.size = 0)) false = s := by
  have : s.size = 0 := by omega
  simp [sep, this]
theorem writeT (H0 H : Heap) (k : Nat) (s e : ByteArray) (B : BU H0 H k s) (hb : s.size + e.size + 3 ≤ 140737488355328) : E.Spec Tryz.prog 83 [bC true, sC e, .a (.bp k 0)] H fun x H' => x = .tup [] ∧ BU H0 H' k (s ++ sep (decide (s.size = 0)) true ++ e) := by
 refine Spec.enter Tryz.func83 rfl ?_
 refine AW.wk (Wk.keep 25 [(0, .c (bC true)), (1, .c (sC e)), (2, .c (.a (.bp k 0)))] [] (H) rfl ⟨rfl, rfl, rfl, trivial⟩ trivial (fun _ _ h => h) rfl) ?_
 refine AW.seq (AW.block (sR ?_))
 refine SeqK.callE rfl rfl rfl rfl Fx.fn84 rfl (blen_any H0 _ k s B) (fun _ _ h => by rw [h.1]; rfl) (fun x6 H6 q6 => ?_)
 obtain ⟨rfl, hH⟩ := q6
 replace hH := hH.symm
 subst hH
 refine Z9 ?_
 refine Z17 ?_ ?_ <;> intro g8
 ·
  refine Z14 ?_
  refine Z8 ?_
  refine sB ?_
  refine AW.condT rfl ?_
  refine AW.reg ?_
  refine SeqK.callE rfl rfl rfl rfl Fx.fn59 rfl (ws_any H0 _ k _ _ B (by have e1 : (⟨#[45]⟩ : ByteArray).size = 1 := rfl; have e3 : (⟨#[32, 45, 32]⟩ : ByteArray).size = 3 := rfl; have e4 : (⟨#[32, 43, 32]⟩ : ByteArray).size = 3 := rfl; first | omega | (rw [ByteArray.size_append]; omega))) (fun _ _ h => by rw [h.1]; rfl) (fun x11 H11 q11 => ?_)
  obtain ⟨rfl, B11⟩ := q11
  replace B := B11
  refine Z7 (AW.reg (sM ?_))
  refine SeqK.callE rfl rfl rfl rfl Fx.fn59 rfl (ws_any H0 _ k _ _ B (by have e1 : (⟨#[45]⟩ : ByteArray).size = 1 := rfl; have e3 : (⟨#[32, 45, 32]⟩ : ByteArray).size = 3 := rfl; have e4 : (⟨#[32, 43, 32]⟩ : ByteArray).size = 3 := rfl; first | omega | (rw [ByteArray.size_append]; omega))) (fun _ _ h => by rw [h.1]; rfl) (fun x24 H24 q24 => ?_)
  obtain ⟨rfl, B24⟩ := q24
  replace B := B24
  refine Z7 ?_
  exact fin_xN (x := .tup []) (_) .nil rfl (fun _ _ h => h) (⟨rfl, by first | (rw [sep_t0 (by assumption)]; exact B) | (rw [sep_t1 (by assumption)]; exact B) | (rw [sep_f1 (by assumption)]; exact B) | (rw [sep_f0 (by assumption)]; exact B) | (exfalso; omega)⟩)
 refine Z34 ?_
 refine Z4 ?_
 refine sB ?_
 refine AW.condF rfl ?_
 refine sR ?_
 refine SeqK.callE rfl rfl rfl rfl Fx.fn84 rfl (blen_any H0 _ k s B) (fun _ _ h => by rw [h.1]; rfl) (fun x13 H13 q13 => ?_)
 obtain ⟨rfl, hH⟩ := q13
 replace hH := hH.symm
 subst hH
 refine Z43 ?_
 refine Z17 ?_ ?_ <;> intro g15
 ·
  refine Z14 ?_
  refine Z8 ?_
  refine sB ?_
  refine AW.condT rfl ?_
  refine AW.reg ?_
  refine SeqK.callE rfl rfl rfl rfl Fx.fn59 rfl (ws_any H0 _ k _ _ B (by have e1 : (⟨#[45]⟩ : ByteArray).size = 1 := rfl; have e3 : (⟨#[32, 45, 32]⟩ : ByteArray).size = 3 := rfl; have e4 : (⟨#[32, 43, 32]⟩ : ByteArray).size = 3 := rfl; first | omega | (rw [ByteArray.size_append]; omega))) (fun _ _ h => by rw [h.1]; rfl) (fun x18 H18 q18 => ?_)
  obtain ⟨rfl, B18⟩ := q18
  replace B := B18
  refine Z7 (AW.reg (sM ?_))
  refine SeqK.callE rfl rfl rfl rfl Fx.fn59 rfl (ws_any H0 _ k _ _ B (by have e1 : (⟨#[45]⟩ : ByteArray).size = 1 := rfl; have e3 : (⟨#[32, 45, 32]⟩ : ByteArray).size = 3 := rfl; have e4 : (⟨#[32, 43, 32]⟩ : ByteArray).size = 3 := rfl; first | omega | (rw [ByteArray.size_append]; omega))) (fun _ _ h => by rw [h.1]; rfl) (fun x24 H24 q24 => ?_)
  obtain ⟨rfl, B24⟩ := q24
  replace B := B24
  refine Z7 ?_
  exact fin_xN (x := .tup []) (_) .nil rfl (fun _ _ h => h) (⟨rfl, by first | (rw [sep_t0 (by assumption)]; exact B) | (rw [sep_t1 (by assumption)]; exact B) | (rw [sep_f1 (by assumption)]; exact B) | (rw [sep_f0 (by assumption)]; exact B) | (exfalso; omega)⟩)
 refine Z34 ?_
 refine Z4 ?_
 refine sB ?_
 refine AW.condF rfl ?_
 refine sR ?_
 refine SeqK.callE rfl rfl rfl rfl Fx.fn84 rfl (blen_any H0 _ k s B) (fun _ _ h => by rw [h.1]; rfl) (fun x20 H20 q20 => ?_)
 obtain ⟨rfl, hH⟩ := q20
 replace hH := hH.symm
 subst hH
 refine Z43 ?_
 refine sB ?_
 refine cD ?_ ?_ <;> intro h19
 ·
  refine AW.reg ?_
  refine SeqK.callE rfl rfl rfl rfl Fx.fn59 rfl (ws_any H0 _ k _ _ B (by have e1 : (⟨#[45]⟩ : ByteArray).size = 1 := rfl; have e3 : (⟨#[32, 45, 32]⟩ : ByteArray).size = 3 := rfl; have e4 : (⟨#[32, 43, 32]⟩ : ByteArray).size = 3 := rfl; first | omega | (rw [ByteArray.size_append]; omega))) (fun _ _ h => by rw [h.1]; rfl) (fun x22 H22 q22 => ?_)
  obtain ⟨rfl, B22⟩ := q22
  replace B := B22
  refine Z7 (AW.reg (sM ?_))
  refine SeqK.callE rfl rfl rfl rfl Fx.fn59 rfl (ws_any H0 _ k _ _ B (by have e1 : (⟨#[45]⟩ : ByteArray).size = 1 := rfl; have e3 : (⟨#[32, 45, 32]⟩ : ByteArray).size = 3 := rfl; have e4 : (⟨#[32, 43, 32]⟩ : ByteArray).size = 3 := rfl; first | omega | (rw [ByteArray.size_append]; omega))) (fun _ _ h => by rw [h.1]; rfl) (fun x24 H24 q24 => ?_)
  obtain ⟨rfl, B24⟩ := q24
  replace B := B24
  refine Z7 ?_
  exact fin_xN (x := .tup []) (_) .nil rfl (fun _ _ h => h) (⟨rfl, by first | (rw [sep_t0 (by assumption)]; exact B) | (rw [sep_t1 (by assumption)]; exact B) | (rw [sep_f1 (by assumption)]; exact B) | (rw [sep_f0 (by assumption)]; exact B) | (exfalso; omega)⟩)
 refine AW.skip (AW.reg (sM ?_))
 refine SeqK.callE rfl rfl rfl rfl Fx.fn59 rfl (ws_any H0 _ k _ _ B (by have e1 : (⟨#[45]⟩ : ByteArray).size = 1 := rfl; have e3 : (⟨#[32, 45, 32]⟩ : ByteArray).size = 3 := rfl; have e4 : (⟨#[32, 43, 32]⟩ : ByteArray).size = 3 := rfl; first | omega | (rw [ByteArray.size_append]; omega))) (fun _ _ h => by rw [h.1]; rfl) (fun x24 H24 q24 => ?_)
 obtain ⟨rfl, B24⟩ := q24
 replace B := B24
 refine Z7 ?_
 exact fin_xN (x := .tup []) (_) .nil rfl (fun _ _ h => h) (⟨rfl, by first | (rw [sep_t0 (by assumption)]; exact B) | (rw [sep_t1 (by assumption)]; exact B) | (rw [sep_f1 (by assumption)]; exact B) | (rw [sep_f0 (by assumption)]; exact B) | (exfalso; omega)⟩)
theorem writeF (H0 H : Heap) (k : Nat) (s e : ByteArray) (B : BU H0 H k s) (hb : s.size + e.size + 3 ≤ 140737488355328) : E.Spec Tryz.prog 83 [bC false, sC e, .a (.bp k 0)] H fun x H' => x = .tup [] ∧ BU H0 H' k (s ++ sep (decide (s.size = 0)) false ++ e) := by
 refine Spec.enter Tryz.func83 rfl ?_
 refine AW.wk (Wk.keep 25 [(0, .c (bC false)), (1, .c (sC e)), (2, .c (.a (.bp k 0)))] [] (H) rfl ⟨rfl, rfl, rfl, trivial⟩ trivial (fun _ _ h => h) rfl) ?_
 refine AW.seq (AW.block (sR ?_))
 refine SeqK.callE rfl rfl rfl rfl Fx.fn84 rfl (blen_any H0 _ k s B) (fun _ _ h => by rw [h.1]; rfl) (fun x6 H6 q6 => ?_)
 obtain ⟨rfl, hH⟩ := q6
 replace hH := hH.symm
 subst hH
 refine Z9 ?_
 refine Z17 ?_ ?_ <;> intro g8
 ·
  refine Z14 ?_
  refine Z8 ?_
  refine sB ?_
  refine AW.condF rfl ?_
  refine sR ?_
  refine SeqK.callE rfl rfl rfl rfl Fx.fn84 rfl (blen_any H0 _ k s B) (fun _ _ h => by rw [h.1]; rfl) (fun x13 H13 q13 => ?_)
  obtain ⟨rfl, hH⟩ := q13
  replace hH := hH.symm
  subst hH
  refine Z43 ?_
  refine Z17 ?_ ?_ <;> intro g15
  ·
   refine Z14 ?_
   refine Z8 ?_
   refine sB ?_
   refine AW.condF rfl ?_
   refine sR ?_
   refine SeqK.callE rfl rfl rfl rfl Fx.fn84 rfl (blen_any H0 _ k s B) (fun _ _ h => by rw [h.1]; rfl) (fun x20 H20 q20 => ?_)
   obtain ⟨rfl, hH⟩ := q20
   replace hH := hH.symm
   subst hH
   refine Z43 ?_
   refine sB ?_
   refine cD ?_ ?_ <;> intro h19
   ·
    refine AW.reg ?_
    refine SeqK.callE rfl rfl rfl rfl Fx.fn59 rfl (ws_any H0 _ k _ _ B (by have e1 : (⟨#[45]⟩ : ByteArray).size = 1 := rfl; have e3 : (⟨#[32, 45, 32]⟩ : ByteArray).size = 3 := rfl; have e4 : (⟨#[32, 43, 32]⟩ : ByteArray).size = 3 := rfl; first | omega | (rw [ByteArray.size_append]; omega))) (fun _ _ h => by rw [h.1]; rfl) (fun x22 H22 q22 => ?_)
    obtain ⟨rfl, B22⟩ := q22
    replace B := B22
    refine Z7 (AW.reg (sM ?_))
    refine SeqK.callE rfl rfl rfl rfl Fx.fn59 rfl (ws_any H0 _ k _ _ B (by have e1 : (⟨#[45]⟩ : ByteArray).size = 1 := rfl; have e3 : (⟨#[32, 45, 32]⟩ : ByteArray).size = 3 := rfl; have e4 : (⟨#[32, 43, 32]⟩ : ByteArray).size = 3 := rfl; first | omega | (rw [ByteArray.size_append]; omega))) (fun _ _ h => by rw [h.1]; rfl) (fun x24 H24 q24 => ?_)
    obtain ⟨rfl, B24⟩ := q24
    replace B := B24
    refine Z7 ?_
    exact fin_xN (x := .tup []) (_) .nil rfl (fun _ _ h => h) (⟨rfl, by first | (rw [sep_t0 (by assumption)]; exact B) | (rw [sep_t1 (by assumption)]; exact B) | (rw [sep_f1 (by assumption)]; exact B) | (rw [sep_f0 (by assumption)]; exact B) | (exfalso; omega)⟩)
   refine AW.skip (AW.reg (sM ?_))
   refine SeqK.callE rfl rfl rfl rfl Fx.fn59 rfl (ws_any H0 _ k _ _ B (by have e1 : (⟨#[45]⟩ : ByteArray).size = 1 := rfl; have e3 : (⟨#[32, 45, 32]⟩ : ByteArray).size = 3 := rfl; have e4 : (⟨#[32, 43, 32]⟩ : ByteArray).size = 3 := rfl; first | omega | (rw [ByteArray.size_append]; omega))) (fun _ _ h => by rw [h.1]; rfl) (fun x24 H24 q24 => ?_)
   obtain ⟨rfl, B24⟩ := q24
   replace B := B24
   refine Z7 ?_
   exact fin_xN (x := .tup []) (_) .nil rfl (fun _ _ h => h) (⟨rfl, by first | (rw [sep_t0 (by assumption)]; exact B) | (rw [sep_t1 (by assumption)]; exact B) | (rw [sep_f1 (by assumption)]; exact B) | (rw [sep_f0 (by assumption)]; exact B) | (exfalso; omega)⟩)
  refine Z34 ?_
  refine Z4 ?_
  refine sB ?_
  refine AW.condF rfl ?_
  refine sR ?_
  refine SeqK.callE rfl rfl rfl rfl Fx.fn84 rfl (blen_any H0 _ k s B) (fun _ _ h => by rw [h.1]; rfl) (fun x20 H20 q20 => ?_)
  obtain ⟨rfl, hH⟩ := q20
  replace hH := hH.symm
  subst hH
  refine Z43 ?_
  refine sB ?_
  refine cD ?_ ?_ <;> intro h19
  ·
   refine AW.reg ?_
   refine SeqK.callE rfl rfl rfl rfl Fx.fn59 rfl (ws_any H0 _ k _ _ B (by have e1 : (⟨#[45]⟩ : ByteArray).size = 1 := rfl; have e3 : (⟨#[32, 45, 32]⟩ : ByteArray).size = 3 := rfl; have e4 : (⟨#[32, 43, 32]⟩ : ByteArray).size = 3 := rfl; first | omega | (rw [ByteArray.size_append]; omega))) (fun _ _ h => by rw [h.1]; rfl) (fun x22 H22 q22 => ?_)
   obtain ⟨rfl, B22⟩ := q22
   replace B := B22
   refine Z7 (AW.reg (sM ?_))
   refine SeqK.callE rfl rfl rfl rfl Fx.fn59 rfl (ws_any H0 _ k _ _ B (by have e1 : (⟨#[45]⟩ : ByteArray).size = 1 := rfl; have e3 : (⟨#[32, 45, 32]⟩ : ByteArray).size = 3 := rfl; have e4 : (⟨#[32, 43, 32]⟩ : ByteArray).size = 3 := rfl; first | omega | (rw [ByteArray.size_append]; omega))) (fun _ _ h => by rw [h.1]; rfl) (fun x24 H24 q24 => ?_)
   obtain ⟨rfl, B24⟩ := q24
   replace B := B24
   refine Z7 ?_
   exact fin_xN (x := .tup []) (_) .nil rfl (fun _ _ h => h) (⟨rfl, by first | (rw [sep_t0 (by assumption)]; exact B) | (rw [sep_t1 (by assumption)]; exact B) | (rw [sep_f1 (by assumption)]; exact B) | (rw [sep_f0 (by assumption)]; exact B) | (exfalso; omega)⟩)
  refine AW.skip (AW.reg (sM ?_))
  refine SeqK.callE rfl rfl rfl rfl Fx.fn59 rfl (ws_any H0 _ k _ _ B (by have e1 : (⟨#[45]⟩ : ByteArray).size = 1 := rfl; have e3 : (⟨#[32, 45, 32]⟩ : ByteArray).size = 3 := rfl; have e4 : (⟨#[32, 43, 32]⟩ : ByteArray).size = 3 := rfl; first | omega | (rw [ByteArray.size_append]; omega))) (fun _ _ h => by rw [h.1]; rfl) (fun x24 H24 q24 => ?_)
  obtain ⟨rfl, B24⟩ := q24
  replace B := B24
  refine Z7 ?_
  exact fin_xN (x := .tup []) (_) .nil rfl (fun _ _ h => h) (⟨rfl, by first | (rw [sep_t0 (by assumption)]; exact B) | (rw [sep_t1 (by assumption)]; exact B) | (rw [sep_f1 (by assumption)]; exact B) | (rw [sep_f0 (by assumption)]; exact B) | (exfalso; omega)⟩)
 refine Z34 ?_
 refine Z4 ?_
 refine sB ?_
 refine AW.condF rfl ?_
 refine sR ?_
 refine SeqK.callE rfl rfl rfl rfl Fx.fn84 rfl (blen_any H0 _ k s B) (fun _ _ h => by rw [h.1]; rfl) (fun x13 H13 q13 => ?_)
 obtain ⟨rfl, hH⟩ := q13
 replace hH := hH.symm
 subst hH
 refine Z43 ?_
 refine Z17 ?_ ?_ <;> intro g15
 ·
  refine Z14 ?_
  refine Z8 ?_
  refine sB ?_
  refine AW.condF rfl ?_
  refine sR ?_
  refine SeqK.callE rfl rfl rfl rfl Fx.fn84 rfl (blen_any H0 _ k s B) (fun _ _ h => by rw [h.1]; rfl) (fun x20 H20 q20 => ?_)
  obtain ⟨rfl, hH⟩ := q20
  replace hH := hH.symm
  subst hH
  refine Z43 ?_
  refine sB ?_
  refine cD ?_ ?_ <;> intro h19
  ·
   refine AW.reg ?_
   refine SeqK.callE rfl rfl rfl rfl Fx.fn59 rfl (ws_any H0 _ k _ _ B (by have e1 : (⟨#[45]⟩ : ByteArray).size = 1 := rfl; have e3 : (⟨#[32, 45, 32]⟩ : ByteArray).size = 3 := rfl; have e4 : (⟨#[32, 43, 32]⟩ : ByteArray).size = 3 := rfl; first | omega | (rw [ByteArray.size_append]; omega))) (fun _ _ h => by rw [h.1]; rfl) (fun x22 H22 q22 => ?_)
   obtain ⟨rfl, B22⟩ := q22
   replace B := B22
   refine Z7 (AW.reg (sM ?_))
   refine SeqK.callE rfl rfl rfl rfl Fx.fn59 rfl (ws_any H0 _ k _ _ B (by have e1 : (⟨#[45]⟩ : ByteArray).size = 1 := rfl; have e3 : (⟨#[32, 45, 32]⟩ : ByteArray).size = 3 := rfl; have e4 : (⟨#[32, 43, 32]⟩ : ByteArray).size = 3 := rfl; first | omega | (rw [ByteArray.size_append]; omega))) (fun _ _ h => by rw [h.1]; rfl) (fun x24 H24 q24 => ?_)
   obtain ⟨rfl, B24⟩ := q24
   replace B := B24
   refine Z7 ?_
   exact fin_xN (x := .tup []) (_) .nil rfl (fun _ _ h => h) (⟨rfl, by first | (rw [sep_t0 (by assumption)]; exact B) | (rw [sep_t1 (by assumption)]; exact B) | (rw [sep_f1 (by assumption)]; exact B) | (rw [sep_f0 (by assumption)]; exact B) | (exfalso; omega)⟩)
  refine AW.skip (AW.reg (sM ?_))
  refine SeqK.callE rfl rfl rfl rfl Fx.fn59 rfl (ws_any H0 _ k _ _ B (by have e1 : (⟨#[45]⟩ : ByteArray).size = 1 := rfl; have e3 : (⟨#[32, 45, 32]⟩ : ByteArray).size = 3 := rfl; have e4 : (⟨#[32, 43, 32]⟩ : ByteArray).size = 3 := rfl; first | omega | (rw [ByteArray.size_append]; omega))) (fun _ _ h => by rw [h.1]; rfl) (fun x24 H24 q24 => ?_)
  obtain ⟨rfl, B24⟩ := q24
  replace B := B24
  refine Z7 ?_
  exact fin_xN (x := .tup []) (_) .nil rfl (fun _ _ h => h) (⟨rfl, by first | (rw [sep_t0 (by assumption)]; exact B) | (rw [sep_t1 (by assumption)]; exact B) | (rw [sep_f1 (by assumption)]; exact B) | (rw [sep_f0 (by assumption)]; exact B) | (exfalso; omega)⟩)
 refine Z34 ?_
 refine Z4 ?_
 refine sB ?_
 refine AW.condF rfl ?_
 refine sR ?_
 refine SeqK.callE rfl rfl rfl rfl Fx.fn84 rfl (blen_any H0 _ k s B) (fun _ _ h => by rw [h.1]; rfl) (fun x20 H20 q20 => ?_)
 obtain ⟨rfl, hH⟩ := q20
 replace hH := hH.symm
 subst hH
 refine Z43 ?_
 refine sB ?_
 refine cD ?_ ?_ <;> intro h19
 ·
  refine AW.reg ?_
  refine SeqK.callE rfl rfl rfl rfl Fx.fn59 rfl (ws_any H0 _ k _ _ B (by have e1 : (⟨#[45]⟩ : ByteArray).size = 1 := rfl; have e3 : (⟨#[32, 45, 32]⟩ : ByteArray).size = 3 := rfl; have e4 : (⟨#[32, 43, 32]⟩ : ByteArray).size = 3 := rfl; first | omega | (rw [ByteArray.size_append]; omega))) (fun _ _ h => by rw [h.1]; rfl) (fun x22 H22 q22 => ?_)
  obtain ⟨rfl, B22⟩ := q22
  replace B := B22
  refine Z7 (AW.reg (sM ?_))
  refine SeqK.callE rfl rfl rfl rfl Fx.fn59 rfl (ws_any H0 _ k _ _ B (by have e1 : (⟨#[45]⟩ : ByteArray).size = 1 := rfl; have e3 : (⟨#[32, 45, 32]⟩ : ByteArray).size = 3 := rfl; have e4 : (⟨#[32, 43, 32]⟩ : ByteArray).size = 3 := rfl; first | omega | (rw [ByteArray.size_append]; omega))) (fun _ _ h => by rw [h.1]; rfl) (fun x24 H24 q24 => ?_)
  obtain ⟨rfl, B24⟩ := q24
  replace B := B24
  refine Z7 ?_
  exact fin_xN (x := .tup []) (_) .nil rfl (fun _ _ h => h) (⟨rfl, by first | (rw [sep_t0 (by assumption)]; exact B) | (rw [sep_t1 (by assumption)]; exact B) | (rw [sep_f1 (by assumption)]; exact B) | (rw [sep_f0 (by assumption)]; exact B) | (exfalso; omega)⟩)
 refine AW.skip (AW.reg (sM ?_))
 refine SeqK.callE rfl rfl rfl rfl Fx.fn59 rfl (ws_any H0 _ k _ _ B (by have e1 : (⟨#[45]⟩ : ByteArray).size = 1 := rfl; have e3 : (⟨#[32, 45, 32]⟩ : ByteArray).size = 3 := rfl; have e4 : (⟨#[32, 43, 32]⟩ : ByteArray).size = 3 := rfl; first | omega | (rw [ByteArray.size_append]; omega))) (fun _ _ h => by rw [h.1]; rfl) (fun x24 H24 q24 => ?_)
 obtain ⟨rfl, B24⟩ := q24
 replace B := B24
 refine Z7 ?_
 exact fin_xN (x := .tup []) (_) .nil rfl (fun _ _ h => h) (⟨rfl, by first | (rw [sep_t0 (by assumption)]; exact B) | (rw [sep_t1 (by assumption)]; exact B) | (rw [sep_f1 (by assumption)]; exact B) | (rw [sep_f0 (by assumption)]; exact B) | (exfalso; omega)⟩)
def decB (n : Nat) : ByteArray := ⟨(Lib.decDigits n).toArray⟩
def sx : ByteArray := ⟨#[120]⟩
def slen : ByteArray := ⟨#[108, 101, 110, 103, 116, 104, 40, 120]⟩
def sdiv : ByteArray := ⟨#[100, 105, 118, 40]⟩
def scom : ByteArray := ⟨#[44, 32]⟩
def spar : ByteArray := ⟨#[41]⟩
def sstar : ByteArray := ⟨#[42]⟩
mutual
def fmtT : Tm → ByteArray
  | .mk c ps => if c ≠ 0 ∨ ps.length = 0 then fmtPs ps ByteArray.empty ++ sep (decide ((fmtPs ps ByteArray.empty).size = 0)) (decide (c < 0)) ++ decB c.natAbs else fmtPs ps ByteArray.empty
def fmtPs : List Pt → ByteArray → ByteArray
  | [], s => s
  | p :: r, s => fmtPs r (s ++ sep (decide (s.size = 0)) (decide (p.coef < 0)) ++ (if p.coef.natAbs ≠ 1 then decB p.coef.natAbs ++ sstar ++ fmtP p else fmtP p))
def fmtP : Pt → ByteArray
  | .mk _ k v b of => if k = 1 then slen ++ decB v.toNat ++ spar else if k = 2 then sdiv ++ fmtO of ++ scom ++ decB b.toNat ++ spar else sx ++ decB v.toNat
def fmtO : List Tm → ByteArray
  | [] => ByteArray.empty
  | t :: _ => fmtT t
end
abbrev elS (p : Pt) : ByteArray := if p.coef.natAbs ≠ 1 then decB p.coef.natAbs ++ sstar ++ fmtP p else fmtP p
theorem fmtT_eq (t : Tm) : fmtT t = if t.c ≠ 0 ∨ t.ps.length = 0 then fmtPs t.ps ByteArray.empty ++ sep (decide ((fmtPs t.ps ByteArray.empty).size = 0)) (decide (t.c < 0)) ++ decB t.c.natAbs else fmtPs t.ps ByteArray.empty := by cases t; rw [fmtT]
theorem fmtP_eq (p : Pt) : fmtP p = if p.kind = 1 then slen ++ decB p.var.toNat ++ spar else if p.kind = 2 then sdiv ++ fmtO p.of ++ scom ++ decB p.dv.toNat ++ spar else sx ++ decB p.var.toNat := by cases p; rw [fmtP]
theorem fmtO_eq {l : List Tm} (h : 0 < l.length) : fmtO l = fmtT l[0] := by
  cases l with
  | nil => simp at h
  | cons o r => rw [fmtO]; rfl
theorem fmtPs_app (a : List Pt) (b : List Pt) : ∀ s, fmtPs (a ++ b) s = fmtPs b (fmtPs a s) := by
  induction a with
  | nil => intro s; rw [List.nil_append, fmtPs]
  | cons p r ih => intro s; rw [List.cons_append, fmtPs, ih, fmtPs]
theorem fmtPs_take {l : List Pt} {i : Nat} (h : i < l.length) (s : ByteArray) : fmtPs (l.take (i + 1)) s = fmtPs (l.take i) s ++ sep (decide ((fmtPs (l.take i) s).size = 0)) (decide (l[i].coef < 0)) ++ elS l[i] := by
  rw [List.take_succ_eq_append_getElem h, fmtPs_app, fmtPs, fmtPs]
structure NumOk (N : Nat → Prop) : Prop where
  itoa : ∀ n : Nat, N n → Pure Tryz.prog 82 [iC (n : Int)] (.c (sC (decB n)))
  fint : ∀ n : Nat, N n → Pure Tryz.prog 114 [iC (n : Int), iC 10] (.c (sC (decB n)))
  fuint : ∀ n : Nat, N n → Pure Tryz.prog 87 [u64C n, iC 10] (.c (sC (decB n)))
  size : ∀ n : Nat, N n → (decB n).size ≤ 20 ∧ 1 ≤ (decB n).size
structure NumP (N : Nat → Prop) (p : Pt) : Prop where
  coef : N p.coef.natAbs ∧ R64 p.coef
  var : 0 ≤ p.var ∧ N p.var.toNat
  dv : p.kind = 2 → 0 ≤ p.dv ∧ N p.dv.toNat ∧ 0 < p.of.length
mutual
def numT (N : Nat → Prop) : Tm → Prop
  | .mk c ps => (N c.natAbs ∧ R64 c) ∧ numPs N ps
def numPs (N : Nat → Prop) : List Pt → Prop
  | [] => True
  | p :: r => (NumP N p ∧ numP N p) ∧ numPs N r
def numP (N : Nat → Prop) : Pt → Prop
  | .mk _ _ _ _ of => numTs N of
def numTs (N : Nat → Prop) : List Tm → Prop
  | [] => True
  | t :: r => numT N t ∧ numTs N r
end
theorem numPs_iff {N : Nat → Prop} {l : List Pt} : numPs N l ↔ ∀ p ∈ l, NumP N p ∧ numP N p := by
  induction l with
  | nil => simp [numPs]
  | cons p r ih => simp [numPs, ih]
theorem numTs_iff {N : Nat → Prop} {l : List Tm} : numTs N l ↔ ∀ p ∈ l, numT N p := by
  induction l with
  | nil => simp [numTs]
  | cons p r ih => simp [numTs, ih]
theorem numT_eq {N : Nat → Prop} (t : Tm) : numT N t ↔ (N t.c.natAbs ∧ R64 t.c) ∧ ∀ p ∈ t.ps, NumP N p ∧ ∀ o ∈ p.of, numT N o := by
  cases t
  simp only [numT, numPs_iff]
  refine and_congr_right fun _ => forall_congr' fun p => forall_congr' fun _ => and_congr_right fun _ => ?_
  cases p; simp only [numP, numTs_iff]
theorem sep_size (a b : Bool) : (sep a b).size ≤ 3 := by cases a <;> cases b <;> decide
theorem fmtPs_size {N : Nat → Prop} (K : NumOk N) {l : List Pt} (h : ∀ p ∈ l, NumP N p ∧ (fmtP p).size ≤ 60 * cntTs p.of + 30) : ∀ s, (fmtPs l s).size ≤ s.size + 60 * cntPs l := by
  induction l with
  | nil => intro s; rw [fmtPs]; omega
  | cons p r ih =>
    intro s
    obtain ⟨h1, h2⟩ := h p (by simp)
    have h3 := ih (fun q hq => h q (by simp [hq])) (s ++ sep (decide (s.size = 0)) (decide (p.coef < 0)) ++ elS p)
    have h4 := sep_size (decide (s.size = 0)) (decide (p.coef < 0))
    have h5 := (K.size _ h1.coef.1).1
    have h6 : (elS p).size ≤ 21 + (fmtP p).size := by
      unfold elS
      split
      · rw [ByteArray.size_append, ByteArray.size_append]
        have : sstar.size = 1 := rfl
        omega
      · omega
    show (fmtPs r (s ++ sep (decide (s.size = 0)) (decide (p.coef < 0)) ++ elS p)).size ≤ _
    rw [ByteArray.size_append, ByteArray.size_append] at h3
    simp only [cntPs, Pt.cnt_eq]
    omega
theorem fmtP_size {N : Nat → Prop} (K : NumOk N) {p : Pt} (h : NumP N p) (ho : ∀ o ∈ p.of, (fmtT o).size ≤ 60 * o.cnt) : (fmtP p).size ≤ 60 * cntTs p.of + 30 := by
  have h1 := (K.size _ h.var.2).1
  have e1 : slen.size = 8 := rfl
  have e2 : spar.size = 1 := rfl
  have e3 : sdiv.size = 4 := rfl
  have e4 : scom.size = 2 := rfl
  have e5 : sx.size = 1 := rfl
  rw [fmtP_eq]
  split
  · rw [ByteArray.size_append, ByteArray.size_append]; omega
  · split
    · rename_i hk
      obtain ⟨_, h2, h3⟩ := h.dv hk
      have h4 := (K.size _ h2).1
      have h5 := ho _ (List.getElem_mem h3)
      have h6 := cntTs_mem (List.getElem_mem h3)
      rw [fmtO_eq h3]
      simp only [ByteArray.size_append]
      omega
    · rw [ByteArray.size_append]; omega
theorem fmtT_size {N : Nat → Prop} (K : NumOk N) (t : Tm) : numT N t → (fmtT t).size ≤ 60 * t.cnt := by
  induction t using Tm.ind with
  | h t ih =>
    intro h
    have h1 := (numT_eq t).1 h
    have h2 := fmtPs_size K (l := t.ps) (fun p hp => ⟨(h1.2 p hp).1, fmtP_size K (h1.2 p hp).1 fun o ho => ih p hp o ho ((h1.2 p hp).2 o ho)⟩) ByteArray.empty
    have h3 := (K.size _ h1.1.1).1
    have h4 := sep_size (decide ((fmtPs t.ps ByteArray.empty).size = 0)) (decide (t.c < 0))
    have h5 : ByteArray.empty.size = 0 := rfl
    rw [fmtT_eq, Tm.cnt_eq]
    split
    · rw [ByteArray.size_append, ByteArray.size_append]; omega
    · omega
theorem decB_size {n : Nat} (h : n < 100) : (decB n).size ≤ 2 ∧ 1 ≤ (decB n).size := by
  have e : (decB n).size = (Lib.decDigits n).length := by simp [decB, ByteArray.size]
  rw [e]
  by_cases h1 : n < 10
  · rw [Lib.decDigits_one h1]; simp
  · rw [Lib.decDigits_two h1 h]; simp
theorem itoa_s (n : Nat) (h : n < 100) : Pure Tryz.prog 82 [iC (n : Int)] (.c (sC (decB n))) :=
  Pure.of_calls [.int .i64 (n : Int)] (fun w => Tryz.strconv_Itoa_small n h w) fun c => .t (.v rfl)
theorem fint_s (n : Nat) (h : n < 100) : Pure Tryz.prog 114 [iC (n : Int), iC 10] (.c (sC (decB n))) :=
  Pure.of_calls [.int .i64 (n : Int), .int .i64 10] (fun w => Tryz.strconv_FormatInt_10_small n h w) fun c => .t (.v rfl)
theorem small_s (n : Nat) (h : n < 100) : Pure Tryz.prog 147 [iC (n : Int)] (.c (sC (decB n))) :=
  Pure.of_calls [.int .i64 (n : Int)] (fun w => Tryz.internal_strconv_small n h w) fun c => .t (.v rfl)
theorem iuint_s (n : Nat) (h : n < 100) : Pure Tryz.prog 115 [u64C n, iC 10] (.c (sC (decB n))) := by
 intro H
 refine Spec.enter Tryz.func115 rfl ?_
 refine AW.wk (Wk.keep 32 [(0, .c (u64C n)), (1, .c (iC 10))] [] (H) rfl ⟨rfl, rfl, trivial⟩ trivial (fun _ _ h => h) rfl) ?_
 refine sR (sB ?_)
 refine AW.seq (sR (sM ?_))
 refine Z9 ?_
 refine Z7 ?_
 refine cD ?_ ?_ <;> intro h10
 ·
  refine AW.seq (sR (sM ?_))
  refine Z30 ?_
  refine Z7 ?_
  refine cD ?_ ?_ <;> intro h12
  ·
   refine sR (sM ?_)
   refine SeqK.q (q_conv _ rfl Fx.un3 rfl (w64 (by omega) (by omega)) ⟨_, Fx.un130⟩) rfl rfl rfl ?_
   refine Z12 Fx.fn147 (small_s n h) ?_
   refine sB ?_
   exact aR (fin_x (x := .c _) H (.tmp rfl .nil) rfl (fun _ _ h => h) ⟨rfl, rfl⟩)
  exact absurd (by omega) h12
 exact absurd rfl h10
theorem fuint_s (n : Nat) (h : n < 100) : Pure Tryz.prog 87 [u64C n, iC 10] (.c (sC (decB n))) := by
 intro H
 refine Spec.enter Tryz.func87 rfl ?_
 refine AW.wk (Wk.keep 8 [(0, .c (u64C n)), (1, .c (iC 10))] [] (H) rfl ⟨rfl, rfl, trivial⟩ trivial (fun _ _ h => h) rfl) ?_
 refine sR (sB ?_)
 refine sR (sM ?_)
 refine sM ?_
 refine Z12 Fx.fn115 (iuint_s n h) ?_
 refine sB ?_
 exact aR (fin_x (x := .c _) H (.tmp rfl .nil) rfl (fun _ _ h => h) ⟨rfl, rfl⟩)
theorem numOk100 : NumOk (· < 100) := ⟨itoa_s, fint_s, fuint_s, fun n h => by have := decB_size h; omega⟩
theorem NumOk.itoaI {N : Nat → Prop} (K : NumOk N) {v : Int} (h0 : 0 ≤ v) (h : N v.toNat) : Pure Tryz.prog 82 [iC v] (.c (sC (decB v.toNat))) := by
  obtain ⟨n, rfl⟩ := Int.eq_ofNat_of_zero_le h0
  exact K.itoa n h
theorem NumOk.fintI {N : Nat → Prop} (K : NumOk N) {v : Int} (h0 : 0 ≤ v) (h : N v.toNat) : Pure Tryz.prog 114 [iC v, iC 10] (.c (sC (decB v.toNat))) := by
  obtain ⟨n, rfl⟩ := Int.eq_ofNat_of_zero_le h0
  exact K.fint n h
theorem fpart_of (N : Nat → Prop) (K : NumOk N) (p : Pt) (hn : NumP N p) (hN : p.cnt ≤ 100000) (hs : ∀ o ∈ p.of, (fmtT o).size ≤ 60 * o.cnt) (ih : ∀ o ∈ p.of, Pure Tryz.prog 56 [tmC o] (.c (sC (fmtT o)))) : Pure Tryz.prog 85 [ptC p] (.c (sC (fmtP p))) := by
 intro H
 refine Spec.enter Tryz.func85 rfl ?_
 refine AW.wk (Wk.keep 30 [(0, .c (ptC p))] [] (H) rfl ⟨rfl, trivial⟩ trivial (fun _ _ h => h) rfl) ?_
 refine sR (Z20 (r := [_, _, _, _, _]) ?_)
 refine sB ?_
 refine AW.seq (AW.seq ?_)
 have hv := (K.size _ hn.var.2).1
 have e1 : (⟨#[108, 101, 110, 103, 116, 104, 40, 120]⟩ : ByteArray).size = 8 := rfl
 have e2 : (⟨#[41]⟩ : ByteArray).size = 1 := rfl
 have e3 : (⟨#[100, 105, 118, 40]⟩ : ByteArray).size = 4 := rfl
 have e4 : (⟨#[44, 32]⟩ : ByteArray).size = 2 := rfl
 have e5 : (⟨#[120]⟩ : ByteArray).size = 1 := rfl
 refine AW.reg (Z1 Fx.fl89_1 ?_)
 refine Z0 Fx.ty3 ?_
 refine Z7 (AW.block (sR (Z9 ?_)))
 refine sB ?_
 refine cD ?_ ?_ <;> intro h5
 ·
  refine sR (Z1 Fx.fl89_2 ?_)
  refine Z0 Fx.ty3 ?_
  refine Z12 Fx.fn82 (K.itoaI hn.var.1 hn.var.2) ?_
  refine SeqK.q (q_addS rfl rfl rfl (by first | omega | (simp only [ByteArray.size_append]; omega))) rfl rfl rfl ?_
  refine SeqK.q (q_addS rfl rfl rfl (by first | omega | (simp only [ByteArray.size_append]; omega))) rfl rfl rfl ?_
  refine sB ?_
  exact aR (f1 (q := ⟨by rw [fmtP_eq, if_pos h5]; rfl, rfl⟩))
 refine sR (Z9 ?_)
 refine sB ?_
 refine cD ?_ ?_ <;> intro h12
 rotate_left
 ·
  refine AW.skip (sR (Z1 Fx.fl89_2 ?_))
  refine Z0 Fx.ty3 ?_
  refine Z12 Fx.fn82 (K.itoaI hn.var.1 hn.var.2) ?_
  refine SeqK.q (q_addS rfl rfl rfl (by first | omega | (simp only [ByteArray.size_append]; omega))) rfl rfl rfl ?_
  refine sB ?_
  exact aR (f1 (q := ⟨by rw [fmtP_eq, if_neg h5, if_neg h12]; rfl, rfl⟩))
 refine AW.seq ?_
 have hp0 := (hn.dv h12).2.2
 have hd := (K.size _ (hn.dv h12).2.1).1
 have hso := hs _ (List.getElem_mem hp0)
 have hco := cntTs_mem (List.getElem_mem hp0)
 have hpc := Pt.cnt_eq p
 refine AW.draw Fx.mo ?_
 refine Z23 Fx.fl89_4 ?_
 refine Z18 Fx.ty87 ?_
 refine Z29 Fx.sl87 (idx_tm hp0) ?_
 refine Z32 (.g [_, _]) Fx.ty32 ?_
 refine Z45 Fx.fn56 (ih _ (List.getElem_mem hp0)) ?_
 refine LexK.q (q_addS rfl rfl rfl (by first | omega | (simp only [ByteArray.size_append]; omega))) rfl rfl rfl ?_
 refine LexK.q (q_addS rfl rfl rfl (by first | omega | (simp only [ByteArray.size_append]; omega))) rfl rfl rfl ?_
 refine Z23 Fx.fl89_3 ?_
 refine Z18 Fx.ty2 ?_
 refine Z45 Fx.fn114 (K.fintI (hn.dv h12).1 (hn.dv h12).2.1) ?_
 refine LexK.q (q_addS rfl rfl rfl (by first | omega | (simp only [ByteArray.size_append]; omega))) rfl rfl rfl ?_
 refine LexK.q (q_addS rfl rfl rfl (by first | omega | (simp only [ByteArray.size_append]; omega))) rfl rfl rfl ?_
 refine Z52 ?_
 refine Z48 ?_
 exact aR (f1 (q := ⟨by rw [fmtP_eq, if_neg h5, if_pos h12, fmtO_eq hp0]; rfl, rfl⟩))
theorem write_any (H0 H : Heap) (k : Nat) (s e : ByteArray) (neg : Bool) (B : BU H0 H k s) (hb : s.size + e.size + 3 ≤ 140737488355328) : E.Spec Tryz.prog 83 [bC neg, sC e, .a (.bp k 0)] H fun x H' => x = .tup [] ∧ BU H0 H' k (s ++ sep (decide (s.size = 0)) neg ++ e) := by
  cases neg
  · exact writeF H0 H k s e B hb
  · exact writeT H0 H k s e B hb
theorem fmtP_pos {N : Nat → Prop} (K : NumOk N) {p : Pt} (h : NumP N p) : 1 ≤ (fmtP p).size := by
  have e1 : slen.size = 8 := rfl
  have e3 : sdiv.size = 4 := rfl
  have e5 : sx.size = 1 := rfl
  rw [fmtP_eq]
  split
  · simp only [ByteArray.size_append]; omega
  · split
    · simp only [ByteArray.size_append]; omega
    · simp only [ByteArray.size_append]; omega
theorem elS_pos {N : Nat → Prop} (K : NumOk N) {p : Pt} (h : NumP N p) : 1 ≤ (elS p).size := by
  have := fmtP_pos K h
  unfold elS
  split
  · simp only [ByteArray.size_append]; omega
  · exact this
theorem elS_size {N : Nat → Prop} (K : NumOk N) {p : Pt} (h : NumP N p) (ho : ∀ o ∈ p.of, (fmtT o).size ≤ 60 * o.cnt) : (elS p).size ≤ 60 * cntTs p.of + 60 := by
  have h1 := fmtP_size K h ho
  have h5 := (K.size _ h.coef.1).1
  have : sstar.size = 1 := rfl
  unfold elS
  split
  · simp only [ByteArray.size_append]; omega
  · omega
theorem fmtPs_pos {N : Nat → Prop} (K : NumOk N) {l : List Pt} (h : ∀ p ∈ l, NumP N p) : ∀ s, s.size + l.length ≤ (fmtPs l s).size := by
  induction l with
  | nil => intro s; rw [fmtPs]; simp
  | cons p r ih =>
    intro s
    have h1 := ih (fun q hq => h q (by simp [hq])) (s ++ sep (decide (s.size = 0)) (decide (p.coef < 0)) ++ elS p)
    have h2 := elS_pos K (h p (by simp))
    rw [fmtPs]
    show _ ≤ (fmtPs r (s ++ sep (decide (s.size = 0)) (decide (p.coef < 0)) ++ elS p)).size
    simp only [ByteArray.size_append, List.length_cons] at h1 ⊢
    omega
abbrev fS (t : Tm) (i : Nat) : ByteArray := fmtPs (t.ps.take i) ByteArray.empty
theorem format_of (N : Nat → Prop) (K : NumOk N) (t : Tm) (hn : numT N t) (hN : t.cnt ≤ 100000) (ih : ∀ p ∈ t.ps, ∀ o ∈ p.of, numT N o → Pure Tryz.prog 56 [tmC o] (.c (sC (fmtT o)))) : Pure Tryz.prog 56 [tmC t] (.c (sC (fmtT t))) := by
 intro H
 refine Spec.enter Tryz.func56 rfl ?_
 refine AW.wk (Wk.keep 55 [(0, .c (tmC t))] [] (H) rfl ⟨rfl, trivial⟩ trivial (fun _ _ h => h) rfl) ?_
 refine sR (Z20 (r := [_, _]) ?_)
 refine sB ?_
 refine AW.seq ?_
 have hlt := len_ps t
 have hnt := (numT_eq t).1 hn
 have hss : ∀ i, i ≤ t.ps.length → (fS t i).size ≤ 60 * t.cnt := fun i hi => by
  have h1 := fmtPs_size K (l := t.ps.take i) (fun p hp => ⟨(hnt.2 p (List.mem_of_mem_take hp)).1, fmtP_size K (hnt.2 p (List.mem_of_mem_take hp)).1 fun o ho => fmtT_size K o ((hnt.2 p (List.mem_of_mem_take hp)).2 o ho)⟩) ByteArray.empty
  have h2 := cntPs_take_le t.ps i
  have h3 := Tm.cnt_eq t
  have h4 : ByteArray.empty.size = 0 := rfl
  show (fmtPs (t.ps.take i) ByteArray.empty).size ≤ _
  omega
 refine AW.reg ?_
 refine SeqK.newAllocR (r := [.t (.v (.pointer none)), .t (.v (.slice none 0 0))]) 2 rfl rfl rfl Fx.ze100 rfl rfl rfl rfl (fun k hk => ?_)
 refine Z7 (sR (SeqK.q (q_mkFn rfl rfl rfl) rfl rfl rfl ?_))
 refine sB ?_
 refine AW.seq (sR (Z1 Fx.fl32_1 ?_))
 refine Z0 Fx.ty30 ?_
 refine Z22 Fx.un30 ?_
 refine sM ?_
 refine Z7 (AW.block ?_)
 refine AW.loop (fun (i : Nat) s => ∃ (Hx : Heap), (i ≤ t.ps.length ∧ BU H Hx k (fS t i)) ∧ s = ⟨55, sp [(1, .lp 1 0), (2, .c (sC ⟨#[]⟩)), (3, .c (.a (.bp k 0))), (4, .c (.a (.fn 83 [.bp k 0]))), (11, .c (.a (.t (.sl .un 5 (t.ps.map ptT))))), (12, iX .i64 (((t.ps.map ptT).length : Nat) : Int)), (13, iX .i64 ((i : Nat) : Int))], lv [(1, .box (zTm t))], Hx⟩) (fun i => t.ps.length - i) 0 ⟨_, by exact Wk.keep 55 _ _ _ rfl ⟨rfl, rfl, rfl, rfl, rfl, rfl, rfl, trivial⟩ ⟨rfl, trivial⟩ (fun _ _ h => h) rfl, _, ⟨Nat.zero_le _, ⟨hk, fun j o h => by rw [upd_ne _ _ (fun e => by subst e; rw [hk] at h; cases h)]; exact h, .inl ⟨rfl, upd_same _ _ _⟩⟩⟩, rfl⟩ (fun i s hs => ?_)
 obtain ⟨Hx, ⟨hi0, B⟩, rfl⟩ := hs
 refine sR (Z30 ?_)
 refine Z7 (AW.seq ?_)
 refine cD ?_ ?_ <;> intro h14
 ·
  have hi : i < t.ps.length := by rw [List.length_map] at h14; omega
  have hpi := hnt.2 _ (List.getElem_mem hi)
  have hsi := hss i (by omega)
  have hel := elS_size K hpi.1 (fun o ho => fmtT_size K o (hpi.2 o ho))
  have hcp := cnt_p (List.getElem_mem hi)
  have hcq := Pt.cnt_eq t.ps[i]
  have hcf := (K.size _ hpi.1.coef.1).1
  have e1 : (⟨#[42]⟩ : ByteArray).size = 1 := rfl
  have hfp := fmtP_size K hpi.1 (fun o ho => fmtT_size K o (hpi.2 o ho))
  refine AW.skip (AW.seq (AW.block (sR (Z24 Fx.sl30 (idx_map (f := ptT) hi) ?_))))
  refine Z28 (.g [_, _, _, _, _]) Fx.ty89 ?_
  refine Z16 (r := [_, _, _, _, _]) Fx.ze89 ?_
  refine Z2 (r := [_, _, _, _, _]) Fx.ty89 ?_
  refine Z7 (sR (Z10 (r := .g [_, _, _, _, _]) Fx.ty89 ?_))
  refine SeqK.q (q_call _ rfl Fx.fn85 rfl (fpart_of N K t.ps[i] hpi.1 (by have := cnt_p (List.getElem_mem hi); omega) (fun o ho => fmtT_size K o (hpi.2 o ho)) (fun o ho => ih _ (List.getElem_mem hi) o ho (hpi.2 o ho))) rfl) rfl rfl rfl ?_
  refine sB ?_
  refine AW.seq (sR (Z1 Fx.fl89_0 ?_))
  refine Z0 Fx.ty2 ?_
  refine SeqK.q (q_call _ rfl Fx.fn86 rfl (abs_any _ (by first | exact hpi.1.coef.2 | exact hnt.1.2)) rfl) rfl rfl rfl ?_
  refine sB ?_
  refine sR (sM ?_)
  refine Z26 ?_
  refine Z7 ?_
  refine cD ?_ ?_ <;> intro h23
  ·
   refine AW.reg (sM ?_)
   refine SeqK.q (q_call _ rfl Fx.fn87 rfl (K.fuint _ (by first | exact hpi.1.coef.1 | exact hnt.1.1)) rfl) rfl rfl rfl ?_
   refine SeqK.q (q_addS rfl rfl rfl (by first | omega | (simp only [ByteArray.size_append]; omega))) rfl rfl rfl ?_
   refine sM ?_
   refine SeqK.q (q_addS rfl rfl rfl (by first | omega | (simp only [ByteArray.size_append]; omega))) rfl rfl rfl ?_
   refine sB ?_
   refine AW.reg (sM ?_)
   refine Z1 Fx.fl89_0 ?_
   refine Z0 Fx.ty2 ?_
   refine Z30 ?_
   refine sM ?_
   refine SeqK.callV rfl rfl rfl rfl rfl Fx.fn83 rfl (write_any H Hx k _ _ _ B (by first | (simp only [ByteArray.size_append]; omega) | omega)) (fun _ _ h => by rw [h.1]; rfl) (fun x34 H34 q34 => ?_)
   obtain ⟨rfl, B34⟩ := q34
   refine Z7 (AW.reg (Z13 ?_))
   refine sM ?_
   refine Z7 ?_
   exact ⟨i + 1, _, by exact Wk.keep 55 _ _ _ rfl ⟨rfl, rfl, rfl, rfl, rfl, rfl, rfl, trivial⟩ ⟨rfl, trivial⟩ (fun _ _ h => h) rfl, by omega, _, ⟨hi, by rw [fS, fmtPs_take hi, elS, if_pos (show t.ps[i].coef.natAbs ≠ 1 by omega)]; exact B34⟩, rfl⟩
  refine AW.skip (AW.reg (sM ?_))
  refine Z1 Fx.fl89_0 ?_
  refine Z0 Fx.ty2 ?_
  refine Z30 ?_
  refine sM ?_
  refine SeqK.callV rfl rfl rfl rfl rfl Fx.fn83 rfl (write_any H Hx k _ _ _ B (by first | (simp only [ByteArray.size_append]; omega) | omega)) (fun _ _ h => by rw [h.1]; rfl) (fun x34 H34 q34 => ?_)
  obtain ⟨rfl, B34⟩ := q34
  refine Z7 (AW.reg (Z13 ?_))
  refine sM ?_
  refine Z7 ?_
  exact ⟨i + 1, _, by exact Wk.keep 55 _ _ _ rfl ⟨rfl, rfl, rfl, rfl, rfl, rfl, rfl, trivial⟩ ⟨rfl, trivial⟩ (fun _ _ h => h) rfl, by omega, _, ⟨hi, by rw [fS, fmtPs_take hi, elS, if_neg (show ¬ t.ps[i].coef.natAbs ≠ 1 by omega)]; exact B34⟩, rfl⟩
 refine AW.exit ?_
 refine eth_e ?_
 refine eth_e ?_
 refine exit_here ?_
 refine AW.seq (AW.seq ?_)
 obtain rfl : i = t.ps.length := by rw [List.length_map] at h14; omega
 have hfull : fS t t.ps.length = fmtPs t.ps ByteArray.empty := by rw [fS, List.take_length]
 have hsl := hss _ (Nat.le_refl t.ps.length)
 rw [hfull] at B hsl
 have hps := fmtPs_pos K (fun p hp => (hnt.2 p hp).1) ByteArray.empty
 have hcs := K.size _ hnt.1.1
 have hsep := sep_size (decide ((fmtPs t.ps ByteArray.empty).size = 0)) (decide (t.c < 0))
 refine AW.reg (Z1 Fx.fl32_0 ?_)
 refine Z0 Fx.ty2 ?_
 refine Z26 ?_
 refine Z17 ?_ ?_ <;> intro g39
 ·
  iterate 4 refine oF ?_
  refine Z8 ?_
  refine Z7 (AW.condT rfl ?_)
  have hcond : t.c ≠ 0 ∨ t.ps.length = 0 := by simp only [List.length_map] at *; omega
  refine AW.drawO [0, 1, 2, 3, 4, 5, 6, 7, 8] Fx.mo (by kernel_rfl) ?_
  refine LexO.q rfl (by kernel_rfl) (q_mvC rfl rfl) rfl rfl rfl ?_
  refine LexO.q rfl (by kernel_rfl) (q_fieldL _ rfl Fx.fl32_0 rfl rfl) rfl rfl rfl ?_
  refine LexO.r rfl (by kernel_rfl) (b_load (r := .a _) rfl Fx.ty2 rfl rfl rfl rfl rfl rfl) rfl ?_
  refine LexO.q rfl (by kernel_rfl) (q_lss rfl rfl rfl) rfl rfl rfl ?_
  refine LexO.q rfl (by kernel_rfl) (q_fieldL _ rfl Fx.fl32_0 rfl rfl) rfl rfl rfl ?_
  refine LexO.r rfl (by kernel_rfl) (b_load (r := .a _) rfl Fx.ty2 rfl rfl rfl rfl rfl rfl) rfl ?_
  refine LexO.q rfl (by kernel_rfl) (q_call _ rfl Fx.fn86 rfl (abs_any _ (by first | exact hpi.1.coef.2 | exact hnt.1.2)) rfl) rfl rfl rfl ?_
  refine LexO.q rfl (by kernel_rfl) (q_call _ rfl Fx.fn87 rfl (K.fuint _ (by first | exact hpi.1.coef.1 | exact hnt.1.1)) rfl) rfl rfl rfl ?_
  refine LexO.callV rfl (by kernel_rfl) (by kernel_rfl) (by kernel_rfl) rfl rfl rfl rfl rfl Fx.fn83 rfl (write_any H Hx k _ _ _ B (by omega)) (fun _ _ h => by rw [h.1]; rfl) (fun x53 H53 q53 => ?_)
  obtain ⟨rfl, B53⟩ := q53
  replace B := B53
  refine LexO.nil (by kernel_rfl) ?_
  refine sR ?_
  refine SeqK.callE rfl rfl rfl rfl Fx.fn60 rfl (bstr_any H _ k _ B (by first | omega | (simp only [ByteArray.size_append]; omega)) (by first | omega | (simp only [ByteArray.size_append]; omega))) (fun _ _ h => by rw [h.1]; rfl) (fun x54 H54 q54 => ?_)
  obtain ⟨rfl, hsub⟩ := q54
  refine sB ?_
  exact aR (fin_x (x := .c _) (H) (.tmp rfl .nil) rfl (hsub) (⟨by first | rw [fmtT_eq, if_pos hcond] | rw [fmtT_eq, if_neg hcond], rfl⟩))
 refine Z5 Fx.fl32_1 ?_
 refine Z3 Fx.ty30 ?_
 refine Z50 Fx.un30 ?_
 refine Z21 ?_
 refine Z4 ?_
 refine Z7 ?_
 refine cD ?_ ?_ <;> intro h44
 ·
  have hcond : t.c ≠ 0 ∨ t.ps.length = 0 := by simp only [List.length_map] at *; omega
  refine AW.drawO [0, 1, 2, 3, 4, 5, 6, 7, 8] Fx.mo (by kernel_rfl) ?_
  refine LexO.q rfl (by kernel_rfl) (q_mvC rfl rfl) rfl rfl rfl ?_
  refine LexO.q rfl (by kernel_rfl) (q_fieldL _ rfl Fx.fl32_0 rfl rfl) rfl rfl rfl ?_
  refine LexO.r rfl (by kernel_rfl) (b_load (r := .a _) rfl Fx.ty2 rfl rfl rfl rfl rfl rfl) rfl ?_
  refine LexO.q rfl (by kernel_rfl) (q_lss rfl rfl rfl) rfl rfl rfl ?_
  refine LexO.q rfl (by kernel_rfl) (q_fieldL _ rfl Fx.fl32_0 rfl rfl) rfl rfl rfl ?_
  refine LexO.r rfl (by kernel_rfl) (b_load (r := .a _) rfl Fx.ty2 rfl rfl rfl rfl rfl rfl) rfl ?_
  refine LexO.q rfl (by kernel_rfl) (q_call _ rfl Fx.fn86 rfl (abs_any _ (by first | exact hpi.1.coef.2 | exact hnt.1.2)) rfl) rfl rfl rfl ?_
  refine LexO.q rfl (by kernel_rfl) (q_call _ rfl Fx.fn87 rfl (K.fuint _ (by first | exact hpi.1.coef.1 | exact hnt.1.1)) rfl) rfl rfl rfl ?_
  refine LexO.callV rfl (by kernel_rfl) (by kernel_rfl) (by kernel_rfl) rfl rfl rfl rfl rfl Fx.fn83 rfl (write_any H Hx k _ _ _ B (by omega)) (fun _ _ h => by rw [h.1]; rfl) (fun x53 H53 q53 => ?_)
  obtain ⟨rfl, B53⟩ := q53
  replace B := B53
  refine LexO.nil (by kernel_rfl) ?_
  refine sR ?_
  refine SeqK.callE rfl rfl rfl rfl Fx.fn60 rfl (bstr_any H _ k _ B (by first | omega | (simp only [ByteArray.size_append]; omega)) (by first | omega | (simp only [ByteArray.size_append]; omega))) (fun _ _ h => by rw [h.1]; rfl) (fun x54 H54 q54 => ?_)
  obtain ⟨rfl, hsub⟩ := q54
  refine sB ?_
  exact aR (fin_x (x := .c _) (H) (.tmp rfl .nil) rfl (hsub) (⟨by first | rw [fmtT_eq, if_pos hcond] | rw [fmtT_eq, if_neg hcond], rfl⟩))
 have hcond : ¬ (t.c ≠ 0 ∨ t.ps.length = 0) := by simp only [List.length_map] at *; omega
 refine AW.skip (sR ?_)
 refine SeqK.callE rfl rfl rfl rfl Fx.fn60 rfl (bstr_any H _ k _ B (by first | omega | (simp only [ByteArray.size_append]; omega)) (by first | omega | (simp only [ByteArray.size_append]; omega))) (fun _ _ h => by rw [h.1]; rfl) (fun x54 H54 q54 => ?_)
 obtain ⟨rfl, hsub⟩ := q54
 refine sB ?_
 exact aR (fin_x (x := .c _) (H) (.tmp rfl .nil) rfl (hsub) (⟨by first | rw [fmtT_eq, if_pos hcond] | rw [fmtT_eq, if_neg hcond], rfl⟩))
theorem format_any {N : Nat → Prop} (K : NumOk N) (t : Tm) : numT N t → t.cnt ≤ 100000 → Pure Tryz.prog 56 [tmC t] (.c (sC (fmtT t))) := by
  induction t using Tm.ind with
  | h t ih =>
    intro hn hN
    exact format_of N K t hn hN fun p hp o ho ho2 => ih p hp o ho ho2 (by have := cnt_of hp ho; omega)
theorem ptT_len (p : Pt) : (ptT p).length = 5 := rfl
theorem QV.xw {P : Program} {o : Oper} {s : S} {x y : X} (h : QV P o s x) (hx : XW x y) : QV P o s y := by
  refine ⟨fun d e => (by rw [hx.1] at e; cases e), fun c w a hm hr => ?_⟩
  refine wp_weak0 (h.2 c w a hm hr) ?_
  rintro a' w' ⟨v, c', h1, h2, h3⟩
  exact ⟨v, c', h1, hx.2 _ _ h2, h3⟩
theorem clone_row (H : Heap) (z : Nz) (l : List Pt) (hb : l.length ≤ 100000) : E.Spec Tryz.prog 182 [.a (.t (.sl z 5 (l.map ptT)))] H fun x H' => ∃ k, H k = none ∧ x = .c (.a (.os k 0 l.length 5)) ∧ H' = upd H k (some (.row 89 5 (rowE ptT l))) := by
 refine Spec.enter Tryz.func182 rfl ?_
 refine AW.wk (Wk.keep 8 [(0, .c (.a (.t (.sl z 5 (l.map ptT)))))] [] (H) rfl ⟨rfl, trivial⟩ trivial (fun _ _ h => h) rfl) ?_
 refine sR (sB ?_)
 refine AW.seq (sR (sM ?_))
 refine SeqK.eqlNU rfl rfl rfl rfl rfl rfl Fx.nk30 (fun b4 hb4 => ?_)
 refine Z7 ?_
 refine AW.cond _ rfl (fun h4 => ?_) (fun h4 => ?_)
 ·
  have he := hb4 h4
  have he2 : l = [] := List.map_eq_nil_iff.1 he
  refine sR (sB ?_)
  refine AW.gh (Gh.row 2 89 5 rfl) ?_
  rintro s1 ⟨k2, hk2, rfl⟩
  exact aR (fin_x (x := .c _) (_) (.tmp rfl .nil) rfl (fun _ _ h => h) (⟨k2, hk2, by rw [he2]; rfl, by rw [he2]; rfl⟩))
 refine AW.skip (sR (SeqK.q (q_build0 rfl Fx.el30) rfl rfl rfl ?_))
 refine sM ?_
 refine SeqK.appZR (es := l.map ptT) rfl rfl Fx.el30 rfl rfl (by simp; omega) rfl rfl (fun k7 hk7 => ?_)
 rw [show (l.map ptT).length = l.length by simp]
 refine sB ?_
 exact aR (fin_x (x := .c _) (_) (.tmp rfl .nil) rfl (fun _ _ h => h) (⟨k7, hk7, rfl, rfl⟩))
theorem upd_upd' {α : Type} (H : Nat → α) (k : Nat) (x y : α) : upd (upd H k x) k y = upd H k y := by
  funext j
  by_cases h : j = k
  · subst h; rw [upd_same, upd_same]
  · rw [upd_ne _ _ h, upd_ne _ _ h, upd_ne _ _ h]
theorem xwOf {l : List Tm} {h : 0 < l.length} (h1 : l.length = 1) : XW (.c (.a (.t (.sl .nn 2 [tmL l[0]])))) (.c (.a (.t (.sl .un 2 (l.map tmT))))) := by
  match l, h1 with
  | [o], _ =>
    have : [o].map tmT = [tmL o] := by rw [List.map_cons, List.map_nil, tmT_eq]
    rw [this]; exact XW.un
structure oneP (p : Pt) : Prop where
  len : p.of.length ≤ 1
  sub : ∀ o ∈ p.of, vldT o = true
theorem vldP_one {p : Pt} (h : vldP p = true) : oneP p := by
  rw [vldP_eq] at h
  split at h
  · simp only [Bool.and_eq_true, List.isEmpty_iff] at h
    exact ⟨by rw [h.2.2]; simp, by rw [h.2.2]; simp⟩
  · simp only [Bool.and_eq_true] at h
    have h3 := h.2.2
    cases ho : p.of with
    | nil => exact ⟨by rw [ho]; simp, by rw [ho]; simp⟩
    | cons o r =>
      cases r with
      | cons o2 r2 => rw [ho] at h3; simp [vldO] at h3
      | nil =>
        rw [ho] at h3
        simp only [vldO, Bool.and_eq_true] at h3
        exact ⟨by rw [ho]; simp, by rw [ho]; intro x hx; simp at hx; subst hx; exact h3.2⟩
theorem vldT_one {t : Tm} (h : vldT t = true) : ∀ p ∈ t.ps, oneP p := fun p hp => by
  rw [vldT_eq] at h
  simp only [Bool.and_eq_true] at h
  exact vldP_one (vldPs_iff.1 h.1.1 p hp)
theorem clone_of (H : Heap) (t : Tm) (h1 : ∀ p ∈ t.ps, oneP p) (hN : t.cnt ≤ 100000) (ih : ∀ p ∈ t.ps, ∀ o ∈ p.of, vldT o = true → Pure Tryz.prog 165 [tmC o] (.c (tmC o))) : E.Spec Tryz.prog 165 [tmC t] H fun x H' => ∃ k, H k = none ∧ x = .c (.g [.t (.v (.int .i64 t.c)), .os k 0 t.ps.length 5]) ∧ H' = upd H k (some (.row 89 5 (rowE ptT t.ps))) := by
 refine Spec.enter Tryz.func165 rfl ?_
 refine AW.wk (Wk.keep 34 [(0, .c (tmC t))] [] (H) rfl ⟨rfl, trivial⟩ trivial (fun _ _ h => h) rfl) ?_
 refine sR (Z20 (r := [_, _]) ?_)
 refine Z16 (r := [_, _]) Fx.ze32 ?_
 refine Z7 (AW.seq ?_)
 have hlt := len_ps t
 refine AW.reg (Z1 Fx.fl32_1 ?_)
 refine Z0 Fx.ty30 ?_
 refine SeqK.callE rfl rfl rfl rfl Fx.fn182 rfl (clone_row _ .un t.ps (by omega)) (fun _ _ ⟨_, _, h, _⟩ => by rw [h]; rfl) (fun x7 H7 q7 => ?_)
 obtain ⟨k7, hk7, rfl, rfl⟩ := q7
 refine Z1 Fx.fl32_1 ?_
 refine Z2 (r := [_, _]) Fx.ty30 ?_
 refine Z7 (AW.seq (sR (Z1 Fx.fl32_1 ?_)))
 refine Z0 Fx.ty30 ?_
 refine SeqK.q (q_lenOs rfl Fx.un30 rfl) rfl rfl rfl ?_
 refine sM ?_
 refine Z7 (AW.block ?_)
 refine AW.loop (fun (i : Nat) s => (i ≤ t.ps.length) ∧ s = ⟨34, sp [(1, .lp 1 0), (2, .lp 2 0), (10, .c (.a (.os k7 0 t.ps.length 5))), (11, iX .i64 ((t.ps.length : Nat) : Int)), (12, iX .i64 ((i : Nat) : Int))], lv [(1, .box [.t (.v (.int .i64 t.c)), .os k7 0 t.ps.length 5]), (2, .box [.t (.v (.int .i64 0)), .t (.v (.slice none 0 0))])], upd H k7 (some (.row 89 5 (rowE ptT t.ps)))⟩) (fun i => t.ps.length - i) 0 ⟨_, by exact Wk.keep 34 _ _ _ rfl ⟨rfl, rfl, rfl, rfl, rfl, trivial⟩ ⟨rfl, rfl, trivial⟩ (fun _ _ h => h) rfl, Nat.zero_le _, rfl⟩ (fun i s hs => ?_)
 obtain ⟨hi0, rfl⟩ := hs
 refine sR (Z30 ?_)
 refine Z7 (AW.seq ?_)
 refine cD ?_ ?_ <;> intro h13
 rotate_left
 ·
  refine AW.exit ?_
  refine eth_e ?_
  refine eth_e ?_
  refine exit_here ?_
  refine sR (Z10 (r := .g [_, _]) Fx.ty32 ?_)
  refine Z2 (r := [_, _]) Fx.ty32 ?_
  refine Z7 (AW.ret ?_)
  exact fin_x (x := .c _) (_) (.cellL rfl rfl Fx.ty32 rfl rfl .nil) rfl (fun _ _ h => h) (⟨k7, hk7, rfl, rfl⟩)
 have hi : i < t.ps.length := by omega
 have h1i := h1 _ (List.getElem_mem hi)
 refine AW.skip (AW.seq (AW.block (sR (sM ?_))))
 refine Z53 Fx.sl30 ?_
 refine SeqK.r (g_loadR rfl Fx.ty89 rfl (upd_same _ _ _) (congrArg (mkC _) (row_load ptT_len hi)) (row_in0 ptT_len hi) (by decide) rfl rfl) rfl ?_
 refine Z16 (r := [_, _, _, _, _]) Fx.ze89 ?_
 refine sA ?_
 refine Z2 (r := [_, _, _, _, _]) Fx.ty89 ?_
 refine Z7 (sR (Z1 Fx.fl89_4 ?_))
 refine Z0 Fx.ty87 ?_
 refine Z22 Fx.un87 ?_
 refine Z43 ?_
 refine Z7 ?_
 refine cD ?_ ?_ <;> intro h20
 rotate_left
 ·
  refine AW.skip (AW.reg (Z13 ?_))
  refine sM ?_
  refine Z7 ?_
  exact ⟨i + 1, _, by exact Wk.keep 34 _ _ _ rfl ⟨rfl, rfl, rfl, rfl, rfl, trivial⟩ ⟨rfl, rfl, trivial⟩ (fun _ _ h => h) rfl, by omega, hi, rfl⟩
 have hp0 : 0 < t.ps[i].of.length := by rw [List.length_map] at h20; omega
 have hp1 : t.ps[i].of.length = 1 := by have := h1i.len; omega
 refine AW.draw Fx.mo ?_
 refine Z23 Fx.fl32_1 ?_
 refine Z18 Fx.ty30 ?_
 refine Z44 ?_
 refine Z23 Fx.fl89_4 ?_
 refine Z18 Fx.ty87 ?_
 refine Z29 Fx.sl87 (idx_tm hp0) ?_
 refine Z32 (.g [_, _]) Fx.ty32 ?_
 refine Z45 Fx.fn165 (ih _ (List.getElem_mem hi) _ (List.getElem_mem hp0) (h1i.sub _ (List.getElem_mem hp0))) ?_
 refine LexK.q (QV.xw (q_buildSlice _ rfl Fx.el87 rfl (by decide) rfl) (xwOf (h := hp0) hp1)) rfl rfl rfl ?_
 refine LexK.q (q_indexOs _ rfl Fx.sl30 rfl rfl (by omega) (by omega) rfl) rfl rfl rfl ?_
 refine LexK.q (q_fieldH _ rfl Fx.fl89_4 rfl rfl) rfl rfl rfl ?_
 refine LexK.r (g_storeR rfl rfl Fx.ty87 rfl rfl (upd_same _ _ _) ((row_stf (v := [.t (.sl .un 2 (t.ps[i].of.map tmT))]) ptT_len hi (by simp) t.ps[i] rfl).trans (by rw [List.set_getElem_self])) rfl (row_in ptT_len hi (by decide)) (by decide)) rfl ?_
 refine Z48 ?_
 rw [upd_upd' H k7]
 refine AW.reg (Z13 ?_)
 refine sM ?_
 refine Z7 ?_
 exact ⟨i + 1, _, by exact Wk.keep 34 _ _ _ rfl ⟨rfl, rfl, rfl, rfl, rfl, trivial⟩ ⟨rfl, rfl, trivial⟩ (fun _ _ h => h) rfl, by omega, hi, rfl⟩
theorem upd_back {α : Type} {H : Nat → Option α} {k : Nat} {x : Option α} (h : H k = none) : upd (upd H k x) k none = H := by
  funext j
  by_cases e : j = k
  · subst e; rw [upd_same, h]
  · rw [upd_ne _ _ e, upd_ne _ _ e]
theorem clone_any (t : Tm) : (∀ p ∈ t.ps, oneP p) → t.cnt ≤ 100000 → Pure Tryz.prog 165 [tmC t] (.c (tmC t)) := by
  induction t using Tm.ind with
  | h t ih =>
    intro h1 hN H
    refine E.Spec.freeze (clone_of H t h1 hN fun p hp o ho hv => ih p hp o ho (vldT_one hv) (by have := cnt_of hp ho; omega)) fun x H' ⟨k, hk, hx, hH⟩ => ?_
    subst hx hH
    refine ⟨k, 5, 89, t.ps.map ptT, upd_same _ _ _, fun e he => by obtain ⟨p, _, rfl⟩ := List.mem_map.1 he; rfl, by decide, ?_, upd_back hk⟩
    simp [fzX, fzC, fzA]
theorem XW.tm0 {n : Int} : XW (.c (.g [.t (.v (.int .i64 n)), .t (.v (.slice none 0 0))])) (.c (tmC ⟨n, []⟩)) := ⟨rfl, fun c v h => by
  obtain ⟨us, rfl, h1, h2⟩ := h
  refine ⟨us, rfl, by simpa using h1, fun i x v hx hv => ?_⟩
  match i with
  | 0 => simp at hx; subst hx; exact h2 0 _ v rfl hv
  | 1 =>
    simp at hx; subst hx
    exact XW.nilU.2 c v (h2 1 _ v rfl hv)
  | i + 2 => simp at hx⟩
theorem XW.tmA {n : Int} {a b : A} (h : XW (.c (.a a)) (.c (.a b))) : XW (.c (.g [.t (.v (.int .i64 n)), a])) (.c (.g [.t (.v (.int .i64 n)), b])) := ⟨rfl, fun c v h0 => by
  obtain ⟨us, rfl, h1, h2⟩ := h0
  refine ⟨us, rfl, by simpa using h1, fun i x v hx hv => ?_⟩
  match i with
  | 0 => simp at hx; subst hx; exact h2 0 _ v rfl hv
  | 1 =>
    simp at hx; subst hx
    exact h.2 c v (h2 1 _ v rfl hv)
  | i + 2 => simp at hx⟩
abbrev tm0 : Tm := ⟨0, []⟩
def lim (t : Tm) : Tm × Int := if smallB t = true then (t, 0) else (tm0, 3)
abbrev trC (r : Tm × Int) : X := .tup [tmC r.1, iC r.2]
theorem checked_any (t : Tm) (h : bokT t) (hN : t.cnt ≤ 100000) : Pure Tryz.prog 166 [tmC t] (trC (lim t)) := by
 intro H
 refine Spec.enter Tryz.func166 rfl ?_
 refine AW.wk (Wk.keep 9 [(0, .c (tmC t))] [] (H) rfl ⟨rfl, trivial⟩ trivial (fun _ _ h => h) rfl) ?_
 refine sR (Z20 (r := [_, _]) ?_)
 refine Z16 (r := [_, _]) Fx.ze32 ?_
 refine sB ?_
 refine AW.seq (sR (Z10 (r := .g [_, _]) Fx.ty32 ?_))
 refine Z12 Fx.fn75 (small_any t h hN) ?_
 refine Z49 ?_
 refine Z7 ?_
 refine AW.cond _ rfl (fun h6 => ?_) (fun h6 => ?_)
 ·
  refine sR (Z11 (zs := [_, _]) (r := [_, _]) [(0, 1), (1, 1)] Fx.ze32 Fx.bp32 ?_)
  refine Z47 7 XW.tm0 ?_
  refine Z2 (r := [_, _]) Fx.ty32 ?_
  refine sB ?_
  exact aR (f2 (.cellL rfl rfl Fx.ty32 rfl rfl (.tmp rfl .nil)) (⟨by rw [lim, if_neg (by intro hs; rw [hs] at h6; cases h6)]; rfl, rfl⟩))
 refine AW.skip (sR (Z10 (r := .g [_, _]) Fx.ty32 ?_))
 refine Z2 (r := [_, _]) Fx.ty32 ?_
 refine sB ?_
 exact aR (f2 (.cellL rfl rfl Fx.ty32 rfl rfl (.tmp rfl .nil)) (⟨by rw [lim, if_pos (by simpa using h6)]; rfl, rfl⟩))
def mulP (p : Pt) (n : Int) : Pt := ⟨p.coef * n, p.kind, p.var, p.dv, p.of⟩
def mulT (t : Tm) (n : Int) : Tm := ⟨t.c * n, t.ps.map fun p => mulP p n⟩
def scale (t : Tm) (n : Int) : Tm × Int := if n = 0 then (tm0, 0) else lim (mulT t n)
abbrev sclP (l : List Pt) (n : Int) (i : Nat) : List Pt := (l.take i).map (fun p => mulP p n) ++ l.drop i
theorem sclP_len (l : List Pt) (n : Int) (i : Nat) : (sclP l n i).length = l.length := by simp [sclP]; omega
theorem sclP_at {l : List Pt} {n : Int} {i : Nat} (hi : i < l.length) (h : i < (sclP l n i).length) : (sclP l n i)[i] = l[i] := by
  simp [sclP, List.getElem_append, Nat.min_eq_left (Nat.le_of_lt hi)]
theorem sclP_set {l : List Pt} {n : Int} {i : Nat} (hi : i < l.length) : (sclP l n i).set i (mulP l[i] n) = sclP l n (i + 1) := by
  unfold sclP
  have h1 : ((l.take i).map (fun p => mulP p n)).length = i := by simp; omega
  rw [List.set_append, if_neg (by omega), h1, Nat.sub_self, List.drop_eq_getElem_cons hi, List.set_cons_zero, List.take_succ_eq_append_getElem hi, List.map_append, List.append_assoc]
  rfl
theorem sclP_end (l : List Pt) (n : Int) : sclP l n l.length = l.map fun p => mulP p n := by simp [sclP]
theorem mul_small {t : Tm} {n : Int} (hs : smallB (mulT t n) = true) : t.c.natAbs * n.natAbs ≤ 2 ^ 40 ∧ ∀ p ∈ t.ps, p.coef.natAbs * n.natAbs ≤ 2 ^ 20 := by
  have h := smallB_iff.1 hs
  refine ⟨by have := h.1; rw [← Int.natAbs_mul]; exact this, fun p hp => ?_⟩
  have := h.2.1 (mulP p n) (List.mem_map_of_mem hp)
  rw [← Int.natAbs_mul]; exact this
theorem mul_bok {t : Tm} {n : Int} (h : bokT t) (hc : t.c.natAbs * n.natAbs ≤ 2 ^ 40) (hp : ∀ p ∈ t.ps, p.coef.natAbs * n.natAbs ≤ 2 ^ 20) : bokT (mulT t n) := by
  refine ⟨?_, fun p hp' => ?_, fun p hp' => ?_⟩
  · rw [← Int.natAbs_mul] at hc
    show -9223372036854775808 ≤ t.c * n ∧ t.c * n ≤ 9223372036854775807
    omega
  · obtain ⟨q, hq, rfl⟩ := List.mem_map.1 hp'
    have := hp q hq
    rw [← Int.natAbs_mul] at this
    show -9223372036854775808 ≤ q.coef * n ∧ q.coef * n ≤ 9223372036854775807
    omega
  · obtain ⟨q, hq, rfl⟩ := List.mem_map.1 hp'
    exact h.part q hq
theorem mul_cnt (t : Tm) (n : Int) : (mulT t n).cnt = t.cnt := by
  have key : ∀ l : List Pt, cntPs (l.map fun p => mulP p n) = cntPs l := fun l => by
    induction l with
    | nil => rfl
    | cons p r ih => simp only [List.map_cons, cntPs, ih]; rw [Pt.cnt_eq, Pt.cnt_eq]; rfl
  rw [Tm.cnt_eq, Tm.cnt_eq]
  exact congrArg _ (key t.ps)
theorem w64m {a b : Int} {M : Nat} (hM : M ≤ 2 ^ 60) (h : a.natAbs * b.natAbs ≤ M) : IntKind.i64.wrap (a * b) = a * b := by
  rw [← Int.natAbs_mul] at h
  exact w64 (by omega) (by omega)
theorem cap_le_iff {x m : Nat} (hm : m ≤ 2 ^ 60) : ((cap x : Nat) : Int) > (m : Int) ↔ m < x := by unfold cap; omega
theorem cloneR_any (H : Heap) (t : Tm) (h1 : ∀ p ∈ t.ps, oneP p) (hN : t.cnt ≤ 100000) : E.Spec Tryz.prog 165 [tmC t] H fun x H' => ∃ k, H k = none ∧ x = .c (.g [.t (.v (.int .i64 t.c)), .os k 0 t.ps.length 5]) ∧ H' = upd H k (some (.row 89 5 (rowE ptT t.ps))) :=
  clone_of H t h1 hN fun p hp o ho hv => clone_any o (vldT_one hv) (by have := cnt_of hp ho; omega)
theorem scale_no {t : Tm} {n : Int} (h0 : n ≠ 0) (h : ¬ (t.c.natAbs * n.natAbs ≤ 2 ^ 40 ∧ ∀ p ∈ t.ps, p.coef.natAbs * n.natAbs ≤ 2 ^ 20)) : scale t n = (tm0, 3) := by
  rw [scale, if_neg h0, lim, if_neg (fun hs => h (mul_small hs))]
theorem scale_any (t : Tm) (n : Int) (h : bokT t) (h1 : ∀ p ∈ t.ps, oneP p) (hn : R64 n) (hN : t.cnt ≤ 100000) : Pure Tryz.prog 139 [tmC t, iC n] (trC (scale t n)) := by
 intro H
 refine Spec.enter Tryz.func139 rfl ?_
 refine AW.wk (Wk.keep 57 [(0, .c (tmC t)), (1, .c (iC n))] [] (H) rfl ⟨rfl, rfl, trivial⟩ trivial (fun _ _ h => h) rfl) ?_
 refine sR (Z20 (r := [_, _]) ?_)
 refine Z16 (r := [_, _]) Fx.ze32 ?_
 refine sB ?_
 refine AW.seq (sR (sM ?_))
 refine Z9 ?_
 refine Z7 ?_
 refine cD ?_ ?_ <;> intro h10
 ·
  refine sR (Z11 (zs := [_, _]) (r := [_, _]) [(0, 1), (1, 1)] Fx.ze32 Fx.bp32 ?_)
  refine Z47 11 XW.tm0 ?_
  refine Z2 (r := [_, _]) Fx.ty32 ?_
  refine sB ?_
  exact aR (f2 (.cellL rfl rfl Fx.ty32 rfl rfl (.tmp rfl .nil)) (⟨by rw [scale, if_pos h10]; rfl, rfl⟩))
 refine AW.skip (AW.seq (AW.seq ?_))
 have hlt := len_ps t
 have hcR := h.c
 refine AW.reg (Z1 Fx.fl32_0 ?_)
 refine Z0 Fx.ty2 ?_
 refine SeqK.q (q_call _ rfl Fx.fn86 rfl (abs_any _ (by first | exact h.c | exact hn | exact h.coef _ (List.getElem_mem hi))) rfl) rfl rfl rfl ?_
 refine sM ?_
 refine SeqK.q (q_call _ rfl Fx.fn86 rfl (abs_any _ (by first | exact h.c | exact hn | exact h.coef _ (List.getElem_mem hi))) rfl) rfl rfl rfl ?_
 refine SeqK.q (q_call _ rfl Fx.fn145 rfl (times_any _ _ (by omega) (by omega)) rfl) rfl rfl rfl ?_
 refine Z43 ?_
 refine Z7 ?_
 refine cD ?_ ?_ <;> intro h18
 ·
  refine sR (Z11 (zs := [_, _]) (r := [_, _]) [(0, 1), (1, 1)] Fx.ze32 Fx.bp32 ?_)
  refine Z47 19 XW.tm0 ?_
  refine Z2 (r := [_, _]) Fx.ty32 ?_
  refine sB ?_
  exact aR (f2 (.cellL rfl rfl Fx.ty32 rfl rfl (.tmp rfl .nil)) (⟨by rw [scale_no h10 (fun hh => absurd hh.1 (Nat.not_le_of_lt ((cap_le_iff (m := 2 ^ 40) (by decide)).1 h18)))]; rfl, rfl⟩))
 refine AW.skip (AW.seq ?_)
 have hcM : t.c.natAbs * n.natAbs ≤ 2 ^ 40 := Nat.le_of_not_lt (fun hh => h18 ((cap_le_iff (m := 2 ^ 40) (by decide)).2 hh))
 refine AW.reg (Z10 (r := .g [_, _]) Fx.ty32 ?_)
 refine SeqK.callE rfl rfl rfl rfl Fx.fn165 rfl (cloneR_any _ t h1 hN) (fun _ _ ⟨_, _, h, _⟩ => by rw [h]; rfl) (fun x21 H21 q21 => ?_)
 obtain ⟨k21, hk21, rfl, rfl⟩ := q21
 refine Z16 (r := [_, _]) Fx.ze32 ?_
 refine Z2 (r := [_, _]) Fx.ty32 ?_
 refine Z7 (sR (Z1 Fx.fl32_0 ?_))
 refine Z0 Fx.ty2 ?_
 refine sM ?_
 refine SeqK.q (q_mul _ rfl rfl rfl (w64m (M := 2 ^ 40) (by decide) hcM)) rfl rfl rfl ?_
 refine Z1 Fx.fl32_0 ?_
 refine Z2 (r := [_, _]) Fx.ty2 ?_
 refine Z7 (AW.seq (sR (Z1 Fx.fl32_1 ?_)))
 refine Z0 Fx.ty30 ?_
 refine Z22 Fx.un30 ?_
 refine sM ?_
 refine Z7 (AW.block ?_)
 refine AW.loop (fun (i : Nat) s => (i ≤ t.ps.length ∧ ∀ p ∈ t.ps.take i, p.coef.natAbs * n.natAbs ≤ 2 ^ 20) ∧ s = ⟨57, sp [(1, .c (iC n)), (2, .lp 2 0), (4, .lp 4 0), (5, .c (iC 0)), (6, .lp 6 0), (28, .c (.a (.t (.sl .un 5 (t.ps.map ptT))))), (29, iX .i64 (((t.ps.map ptT).length : Nat) : Int)), (30, iX .i64 ((i : Nat) : Int))], lv [(2, .box (zTm t)), (4, .box [.t (.v (.int .i64 0)), .t (.v (.slice none 0 0))]), (6, .box [.t (.v (.int .i64 (t.c * n))), .os k21 0 t.ps.length 5])], upd H k21 (some (.row 89 5 (rowE ptT (sclP t.ps n i))))⟩) (fun i => t.ps.length - i) 0 ⟨_, by exact Wk.keep 57 _ _ _ rfl ⟨rfl, rfl, rfl, rfl, rfl, rfl, rfl, rfl, trivial⟩ ⟨rfl, rfl, rfl, trivial⟩ (fun _ _ h => h) rfl, ⟨Nat.zero_le _, by simp⟩, rfl⟩ (fun i s hs => ?_)
 obtain ⟨⟨hi0, hall⟩, rfl⟩ := hs
 refine sR (Z30 ?_)
 refine Z7 (AW.seq ?_)
 refine cD ?_ ?_ <;> intro h31
 rotate_left
 ·
  refine AW.exit ?_
  refine eth_e ?_
  refine eth_e ?_
  refine exit_here ?_
  refine AW.seq ?_
  obtain rfl : i = t.ps.length := by rw [List.length_map] at h31; omega
  rw [List.take_length] at hall
  rw [sclP_end]
  refine AW.reg (Z10 (r := .g [_, _]) Fx.ty32 ?_)
  refine SeqK.gh (Gh.freeze k21 5 89 ((mulT t n).ps.map ptT) (upd_same _ _ _) (fun e he => by obtain ⟨p, _, rfl⟩ := List.mem_map.1 he; rfl) (by decide)) ?_
  rintro s1 rfl
  refine SeqK.gh (Wk.gh (Wk.keep 57 [(4, .lp 4 0), (5, .c (iC 0)), (53, .c (tmC (mulT t n)))] [(4, .box [.t (.v (.int .i64 0)), .t (.v (.slice none 0 0))])] (H) rfl ⟨rfl, rfl, by show fzX _ _ _ (.c (.g [.t (.v (.int .i64 (t.c * n))), .os k21 0 t.ps.length 5])) = _; rw [show t.ps.length = ((mulT t n).ps.map ptT).length by simp [mulT]]; simp [fzX, fzC, fzA, mulT], trivial⟩ ⟨rfl, trivial⟩ (fun j o h => by show upd (upd H k21 _) k21 none j = _; rw [upd_back hk21]; exact h) rfl)) ?_
  rintro s1 rfl
  refine SeqK.q (q_call _ rfl Fx.fn166 rfl (checked_any (mulT t n) (mul_bok h hcM hall) (by rw [mul_cnt]; exact hN)) rfl) rfl rfl rfl ?_
  refine Z6 ?_
  refine Z6 ?_
  refine Z2 (r := [_, _]) Fx.ty32 ?_
  refine sB ?_
  exact aR (f2 (.cellL rfl rfl Fx.ty32 rfl rfl (.tmp rfl .nil)) (⟨by rw [scale, if_neg h10]; rfl, rfl⟩))
 have hi : i < t.ps.length := by rw [List.length_map] at h31; omega
 have hcf := h.coef _ (List.getElem_mem hi)
 refine AW.skip (AW.seq (AW.block (sR (sM ?_))))
 refine Z24 Fx.sl30 (idx_map (f := ptT) hi) ?_
 refine Z28 (.g [_, _, _, _, _]) Fx.ty89 ?_
 refine Z16 (r := [_, _, _, _, _]) Fx.ze89 ?_
 refine sA ?_
 refine Z2 (r := [_, _, _, _, _]) Fx.ty89 ?_
 refine Z7 (AW.seq (sR (Z1 Fx.fl89_0 ?_)))
 refine Z0 Fx.ty2 ?_
 refine SeqK.q (q_call _ rfl Fx.fn86 rfl (abs_any _ (by first | exact h.c | exact hn | exact h.coef _ (List.getElem_mem hi))) rfl) rfl rfl rfl ?_
 refine sM ?_
 refine SeqK.q (q_call _ rfl Fx.fn86 rfl (abs_any _ (by first | exact h.c | exact hn | exact h.coef _ (List.getElem_mem hi))) rfl) rfl rfl rfl ?_
 refine SeqK.q (q_call _ rfl Fx.fn145 rfl (times_any _ _ (by omega) (by omega)) rfl) rfl rfl rfl ?_
 refine Z43 ?_
 refine Z7 ?_
 refine cD ?_ ?_ <;> intro h41
 ·
  refine sR (Z11 (zs := [_, _]) (r := [_, _]) [(0, 1), (1, 1)] Fx.ze32 Fx.bp32 ?_)
  refine Z47 42 XW.tm0 ?_
  refine Z2 (r := [_, _]) Fx.ty32 ?_
  refine sB ?_
  exact aR (fin_x (x := .tup [_, _]) (H) (.cellL rfl rfl Fx.ty32 rfl rfl (.tmp rfl .nil)) rfl (fun j o h => by show upd H k21 _ j = _; rw [upd_ne _ _ (fun e => by subst e; rw [hk21] at h; cases h)]; exact h) (⟨by rw [scale_no h10 (fun hh => absurd (hh.2 _ (List.getElem_mem hi)) (Nat.not_le_of_lt ((cap_le_iff (m := 2 ^ 20) (by decide)).1 h41)))]; rfl, rfl⟩))
 refine AW.skip ?_
 have hcoM : t.ps[i].coef.natAbs * n.natAbs ≤ 2 ^ 20 := Nat.le_of_not_lt (fun hh => h41 ((cap_le_iff (m := 2 ^ 20) (by decide)).2 hh))
 have hsl := sclP_len t.ps n i
 refine AW.reg (Z1 Fx.fl32_1 ?_)
 refine Z0 Fx.ty30 ?_
 refine sM ?_
 refine Z1 Fx.fl89_0 ?_
 refine Z0 Fx.ty2 ?_
 refine sM ?_
 refine SeqK.q (q_mul _ rfl rfl rfl (w64m (M := 2 ^ 20) (by decide) hcoM)) rfl rfl rfl ?_
 refine Z53 Fx.sl30 ?_
 refine SeqK.q (q_fieldH _ rfl Fx.fl89_0 rfl rfl) rfl rfl rfl ?_
 refine SeqK.r (g_storeR rfl rfl Fx.ty2 rfl rfl (upd_same _ _ _) ((row_stf (v := [.t (.v (.int .i64 (t.ps[i].coef * n)))]) ptT_len (show i < (sclP t.ps n i).length by omega) (by simp) (mulP t.ps[i] n) (by rw [sclP_at hi]; rfl)).trans (by rw [sclP_set hi])) rfl (row_in ptT_len (show i < (sclP t.ps n i).length by omega) (by decide)) (by decide)) rfl ?_
 refine Z7 ?_
 rw [upd_upd' H k21]
 refine AW.reg (Z13 ?_)
 refine sM ?_
 refine Z7 ?_
 exact ⟨i + 1, _, by exact Wk.keep 57 _ _ _ rfl ⟨rfl, rfl, rfl, rfl, rfl, rfl, rfl, rfl, trivial⟩ ⟨rfl, rfl, rfl, trivial⟩ (fun _ _ h => h) rfl, by omega, ⟨hi, take_step hi hall hcoM⟩, rfl⟩
abbrev divT (t : Tm) (b : Int) : Tm := ⟨0, [⟨1, 2, 0, b, [t]⟩]⟩
def div (t : Tm) (b : Int) : Tm × Int := if b < 1 ∨ b > 1000 then (tm0, 1) else if b = 1 then (t, 0) else if (t.ps.length : Int) = 0 then (⟨t.c / b, []⟩, 0) else lim (divT t b)
theorem divT_bok {t : Tm} {b : Int} (hv : vldT t = true) (h1 : 1 ≤ b) (h2 : b ≤ 1000) : bokT (divT t b) := by
  refine ⟨by show -9223372036854775808 ≤ (0 : Int) ∧ (0 : Int) ≤ 9223372036854775807; decide, fun p hp => ?_, fun p hp => ?_⟩
  · obtain rfl : p = ⟨1, 2, 0, b, [t]⟩ := by simpa using hp
    show -9223372036854775808 ≤ (1 : Int) ∧ (1 : Int) ≤ 9223372036854775807
    decide
  · obtain rfl : p = ⟨1, 2, 0, b, [t]⟩ := by simpa using hp
    exact fun _ => ⟨⟨h1, h2⟩, by simp, hv⟩
theorem divT_cnt (t : Tm) (b : Int) : (divT t b).cnt = t.cnt + 2 := by simp [divT, Tm.cnt, cntPs, Pt.cnt, cntTs]; omega
theorem div_any (t : Tm) (b : Int) (hv : vldT t = true) (hN : t.cnt ≤ 90000) : Pure Tryz.prog 181 [tmC t, iC b] (trC (div t b)) := by
 intro H
 refine Spec.enter Tryz.func181 rfl ?_
 refine AW.wk (Wk.keep 39 [(0, .c (tmC t)), (1, .c (iC b))] [] (H) rfl ⟨rfl, rfl, trivial⟩ trivial (fun _ _ h => h) rfl) ?_
 refine sR (Z20 (r := [_, _]) ?_)
 refine Z16 (r := [_, _]) Fx.ze32 ?_
 refine sB ?_
 refine AW.seq (AW.block (sR (sM ?_)))
 refine Z30 ?_
 refine Z17 ?_ ?_ <;> intro g9
 ·
  iterate 2 refine oF ?_
  refine Z8 ?_
  refine sB ?_
  refine AW.condT rfl ?_
  refine sR (Z11 (zs := [_, _]) (r := [_, _]) [(0, 1), (1, 1)] Fx.ze32 Fx.bp32 ?_)
  refine Z47 13 XW.tm0 ?_
  refine Z2 (r := [_, _]) Fx.ty32 ?_
  refine sB ?_
  exact aR (f2 (.cellL rfl rfl Fx.ty32 rfl rfl (.tmp rfl .nil)) (⟨by rw [div, if_pos (by omega)]; rfl, rfl⟩))
 refine Z14 ?_
 refine SeqK.on (q_gtr rfl rfl rfl) rfl rfl rfl rfl rfl ?_
 refine Z4 ?_
 refine sB ?_
 refine cD ?_ ?_ <;> intro h6
 ·
  refine sR (Z11 (zs := [_, _]) (r := [_, _]) [(0, 1), (1, 1)] Fx.ze32 Fx.bp32 ?_)
  refine Z47 13 XW.tm0 ?_
  refine Z2 (r := [_, _]) Fx.ty32 ?_
  refine sB ?_
  exact aR (f2 (.cellL rfl rfl Fx.ty32 rfl rfl (.tmp rfl .nil)) (⟨by rw [div, if_pos (by omega)]; rfl, rfl⟩))
 refine sR (sM ?_)
 refine Z9 ?_
 refine sB ?_
 refine cD ?_ ?_ <;> intro h14
 ·
  refine sR (Z10 (r := .g [_, _]) Fx.ty32 ?_)
  refine SeqK.q (q_call _ rfl Fx.fn165 rfl (clone_any t (vldT_one hv) (by omega)) rfl) rfl rfl rfl ?_
  refine Z2 (r := [_, _]) Fx.ty32 ?_
  refine sB ?_
  exact aR (f2 (.cellL rfl rfl Fx.ty32 rfl rfl (.tmp rfl .nil)) (⟨by rw [div, if_neg (by omega), if_pos h14]; rfl, rfl⟩))
 refine sR (Z1 Fx.fl32_1 ?_)
 refine Z0 Fx.ty30 ?_
 refine Z22 Fx.un30 ?_
 refine Z9 ?_
 refine sB ?_
 refine cD ?_ ?_ <;> intro h19
 ·
  refine sR (Z1 Fx.fl32_0 ?_)
  refine Z0 Fx.ty2 ?_
  refine sM ?_
  refine SeqK.q (q_call _ rfl Fx.fn112 rfl (floor_any _ _ (vldT_bok hv).c (by omega)) rfl) rfl rfl rfl ?_
  refine Z11 (zs := [_, _]) (r := [_, _]) [(0, 1), (1, 1)] Fx.ze32 Fx.bp32 ?_
  refine Z47 28 XW.tm0 ?_
  refine Z2 (r := [_, _]) Fx.ty32 ?_
  refine sB ?_
  exact aR (f2 (.cellL rfl rfl Fx.ty32 rfl rfl (.tmp rfl .nil)) (⟨by rw [div, if_neg (by omega), if_neg h14, if_pos (by rw [List.length_map] at h19; omega)]; rfl, rfl⟩))
 refine AW.skip (sR (sM ?_))
 refine Z10 (r := .g [_, _]) Fx.ty32 ?_
 refine SeqK.q (q_call _ rfl Fx.fn165 rfl (clone_any t (vldT_one hv) (by omega)) rfl) rfl rfl rfl ?_
 refine Z27 Fx.el87 ?_
 refine SeqK.xw 32 rfl (xwOf (l := [t]) (h := by simp) rfl) ?_
 refine Z11 (zs := [_, _, _, _, _]) (r := [_, _, _, _, _]) [(0, 1), (1, 1), (2, 1), (3, 1), (4, 1)] Fx.ze89 Fx.bp89 ?_
 refine Z27 Fx.el30 ?_
 refine Z47 34 .un ?_
 refine Z11 (zs := [_, _]) (r := [_, _]) [(0, 1), (1, 1)] Fx.ze32 Fx.bp32 ?_
 refine SeqK.q (q_call _ rfl Fx.fn166 rfl (checked_any (divT t b) (divT_bok hv (by omega) (by omega)) (by rw [divT_cnt]; omega)) rfl) rfl rfl rfl ?_
 refine Z6 ?_
 refine Z6 ?_
 refine Z2 (r := [_, _]) Fx.ty32 ?_
 refine sB ?_
 exact aR (f2 (.cellL rfl rfl Fx.ty32 rfl rfl (.tmp rfl .nil)) (⟨by rw [div, if_neg (by omega), if_neg h14, if_neg (by rw [List.length_map] at h19; omega)]; rfl, rfl⟩))
def nzc (p : Pt) (l : List Pt) : List Pt := if p.coef ≠ 0 then p :: l else l
def addP (p q : Pt) : Pt := ⟨q.coef + p.coef, q.kind, q.var, q.dv, q.of⟩
def mrg : List Pt → List Pt → List Pt
  | [], [] => []
  | [], q :: s => nzc q (mrg [] s)
  | p :: r, [] => nzc p (mrg r [])
  | p :: r, q :: s => if cmpP p q < 0 then nzc p (mrg r (q :: s)) else if 0 < cmpP p q then nzc q (mrg (p :: r) s) else nzc (addP p q) (mrg r s)
termination_by a b => a.length + b.length
theorem mrg_l {a b : List Pt} {i j : Nat} (hi : i < a.length) (hj : j = b.length) : mrg (a.drop i) (b.drop j) = nzc a[i] (mrg (a.drop (i + 1)) (b.drop j)) := by
  subst hj
  rw [List.drop_length, List.drop_eq_getElem_cons hi, mrg]
theorem mrg_r {a b : List Pt} {i j : Nat} (hi : i = a.length) (hj : j < b.length) : mrg (a.drop i) (b.drop j) = nzc b[j] (mrg (a.drop i) (b.drop (j + 1))) := by
  subst hi
  rw [List.drop_length, List.drop_eq_getElem_cons hj, mrg]
theorem mrg_lt {a b : List Pt} {i j : Nat} (hi : i < a.length) (hj : j < b.length) (h : cmpP a[i] b[j] < 0) : mrg (a.drop i) (b.drop j) = nzc a[i] (mrg (a.drop (i + 1)) (b.drop j)) := by
  rw [List.drop_eq_getElem_cons hi, List.drop_eq_getElem_cons hj, mrg, if_pos h, ← List.drop_eq_getElem_cons hj]
theorem mrg_gt {a b : List Pt} {i j : Nat} (hi : i < a.length) (hj : j < b.length) (h : 0 < cmpP a[i] b[j]) : mrg (a.drop i) (b.drop j) = nzc b[j] (mrg (a.drop i) (b.drop (j + 1))) := by
  rw [List.drop_eq_getElem_cons hi, List.drop_eq_getElem_cons hj, mrg, if_neg (by omega), if_pos h, ← List.drop_eq_getElem_cons hi]
theorem mrg_eq {a b : List Pt} {i j : Nat} (hi : i < a.length) (hj : j < b.length) (h : cmpP a[i] b[j] = 0) : mrg (a.drop i) (b.drop j) = nzc (addP a[i] b[j]) (mrg (a.drop (i + 1)) (b.drop (j + 1))) := by
  rw [List.drop_eq_getElem_cons hi, List.drop_eq_getElem_cons hj, mrg, if_neg (by omega), if_neg (by omega)]
theorem put_nz {out r full : List Pt} {p : Pt} {m : List Pt} (h : m = nzc p r) (hI : out ++ m = full) (hp : p.coef ≠ 0) : (out ++ [p]) ++ r = full := by
  rw [← hI, h, nzc, if_pos hp]; simp
theorem put_z {out r full : List Pt} {p : Pt} {m : List Pt} (h : m = nzc p r) (hI : out ++ m = full) (hp : ¬ p.coef ≠ 0) : out ++ r = full := by
  rw [← hI, h, nzc, if_neg hp]
def like (l : List Pt) (p : Pt) : Prop := ∃ q ∈ l, p.kind = q.kind ∧ p.dv = q.dv ∧ p.of = q.of ∧ p.var = q.var
theorem like_mono {l l' : List Pt} {p : Pt} (h : like l p) (hs : ∀ q ∈ l, q ∈ l') : like l' p := by
  obtain ⟨q, h1, h2⟩ := h; exact ⟨q, hs q h1, h2⟩
theorem mem_nzc {p q : Pt} {l : List Pt} (h : q ∈ nzc p l) : q = p ∨ q ∈ l := by
  unfold nzc at h; split at h
  · exact List.mem_cons.1 h
  · exact .inr h
theorem mrg_mem : ∀ (a b : List Pt), (∀ p ∈ a, p.coef.natAbs ≤ 2 ^ 20) → (∀ p ∈ b, p.coef.natAbs ≤ 2 ^ 20) → ∀ p ∈ mrg a b, like (a ++ b) p ∧ p.coef.natAbs ≤ 2 ^ 21
  | [], [], _, _ => by simp [mrg]
  | [], q :: s, ha, hb => by
    intro p hp
    rw [mrg] at hp
    rcases mem_nzc hp with rfl | hp
    · exact ⟨⟨p, by simp, rfl, rfl, rfl, rfl⟩, by have := hb p (by simp); omega⟩
    · obtain ⟨h1, h2⟩ := mrg_mem [] s (by simp) (fun x hx => hb x (by simp [hx])) p hp
      exact ⟨like_mono h1 (by simp; intro x hx; exact .inr hx), h2⟩
  | q :: r, [], ha, hb => by
    intro p hp
    rw [mrg] at hp
    rcases mem_nzc hp with rfl | hp
    · exact ⟨⟨p, by simp, rfl, rfl, rfl, rfl⟩, by have := ha p (by simp); omega⟩
    · obtain ⟨h1, h2⟩ := mrg_mem r [] (fun x hx => ha x (by simp [hx])) (by simp) p hp
      exact ⟨like_mono h1 (by simp; intro x hx; exact .inr hx), h2⟩
  | x :: r, y :: s, ha, hb => by
    intro p hp
    have hx := ha x (by simp)
    have hy := hb y (by simp)
    have ha' : ∀ p ∈ r, p.coef.natAbs ≤ 2 ^ 20 := fun z hz => ha z (by simp [hz])
    have hb' : ∀ p ∈ s, p.coef.natAbs ≤ 2 ^ 20 := fun z hz => hb z (by simp [hz])
    rw [mrg] at hp
    split at hp
    · rcases mem_nzc hp with rfl | hp
      · exact ⟨⟨p, by simp, rfl, rfl, rfl, rfl⟩, by omega⟩
      · obtain ⟨h1, h2⟩ := mrg_mem r (y :: s) ha' hb p hp
        exact ⟨like_mono h1 (by simp only [List.mem_append, List.mem_cons]; intro z hz; rcases hz with h | h | h <;> simp [h]), h2⟩
    · split at hp
      · rcases mem_nzc hp with rfl | hp
        · exact ⟨⟨p, by simp, rfl, rfl, rfl, rfl⟩, by omega⟩
        · obtain ⟨h1, h2⟩ := mrg_mem (x :: r) s ha hb' p hp
          exact ⟨like_mono h1 (by simp only [List.mem_append, List.mem_cons]; intro z hz; rcases hz with (h | h) | h <;> simp [h]), h2⟩
      · rcases mem_nzc hp with rfl | hp
        · exact ⟨⟨y, by simp, rfl, rfl, rfl, rfl⟩, by show (y.coef + x.coef).natAbs ≤ _; omega⟩
        · obtain ⟨h1, h2⟩ := mrg_mem r s ha' hb' p hp
          exact ⟨like_mono h1 (by simp only [List.mem_append, List.mem_cons]; intro z hz; rcases hz with h | h <;> simp [h]), h2⟩
termination_by a b => a.length + b.length
theorem nzc_cnt (p : Pt) (l : List Pt) : cntPs (nzc p l) ≤ 1 + p.cnt + cntPs l := by
  unfold nzc; split
  · simp only [cntPs]; omega
  · omega
theorem mrg_cnt : ∀ (a b : List Pt), cntPs (mrg a b) ≤ cntPs a + cntPs b
  | [], [] => by simp [mrg, cntPs]
  | [], q :: s => by
    have h1 := mrg_cnt [] s
    have h2 := nzc_cnt q (mrg [] s)
    rw [mrg]; simp only [cntPs] at *; omega
  | p :: r, [] => by
    have h1 := mrg_cnt r []
    have h2 := nzc_cnt p (mrg r [])
    rw [mrg]; simp only [cntPs] at *; omega
  | p :: r, q :: s => by
    rw [mrg]
    split
    · have h1 := mrg_cnt r (q :: s)
      have h2 := nzc_cnt p (mrg r (q :: s))
      simp only [cntPs] at *; omega
    · split
      · have h1 := mrg_cnt (p :: r) s
        have h2 := nzc_cnt q (mrg (p :: r) s)
        simp only [cntPs] at *; omega
      · have h1 := mrg_cnt r s
        have h2 := nzc_cnt (addP p q) (mrg r s)
        have h3 : (addP p q).cnt = q.cnt := by rw [Pt.cnt_eq, Pt.cnt_eq]; rfl
        simp only [cntPs] at *; omega
termination_by a b => a.length + b.length
abbrev sumT (a b : Tm) : Tm := ⟨a.c + b.c, mrg a.ps b.ps⟩
def add (a b : Tm) : Tm × Int := lim (sumT a b)
theorem vld_coef {t : Tm} (h : vldT t = true) : t.c.natAbs ≤ 2 ^ 40 ∧ ∀ p ∈ t.ps, p.coef.natAbs ≤ 2 ^ 20 := by
  have := smallB_iff.1 (vldT_small h)
  exact ⟨this.1, this.2.1⟩
theorem vld_parts {t : Tm} (h : vldT t = true) : ∀ p ∈ t.ps, vldP p = true := by
  rw [vldT_eq] at h
  simp only [Bool.and_eq_true] at h
  exact vldPs_iff.1 h.1.1
theorem sum_bok {a b : Tm} (ha : vldT a = true) (hb : vldT b = true) : bokT (sumT a b) ∧ ∀ p ∈ mrg a.ps b.ps, oneP p := by
  have hca := vld_coef ha
  have hcb := vld_coef hb
  have hm := mrg_mem a.ps b.ps hca.2 hcb.2
  have hv : ∀ q ∈ a.ps ++ b.ps, vldP q = true := fun q hq => (List.mem_append.1 hq).elim (vld_parts ha q) (vld_parts hb q)
  refine ⟨⟨by show -9223372036854775808 ≤ a.c + b.c ∧ a.c + b.c ≤ 9223372036854775807; omega, fun p hp => by have := (hm p hp).2; omega, fun p hp => ?_⟩, fun p hp => ?_⟩
  · obtain ⟨⟨q, hq, h1, h2, h3, h4⟩, _⟩ := hm p hp
    have := vldP_bok (hv q hq)
    unfold bokP at this ⊢
    rw [h1, h2]
    simp only [h3]
    exact this
  · obtain ⟨⟨q, hq, h1, h2, h3, h4⟩, _⟩ := hm p hp
    have := vldP_one (hv q hq)
    exact ⟨by rw [h3]; exact this.len, by rw [h3]; exact this.sub⟩
theorem sum_cnt (a b : Tm) : (sumT a b).cnt ≤ a.cnt + b.cnt := by
  have := mrg_cnt a.ps b.ps
  rw [Tm.cnt_eq, Tm.cnt_eq a, Tm.cnt_eq b]; show 1 + cntPs (mrg a.ps b.ps) ≤ _; omega
theorem lim_one {t : Tm} (h : ∀ p ∈ t.ps, oneP p) : ∀ p ∈ (lim t).1.ps, oneP p := by
  unfold lim; split
  · exact h
  · simp
theorem lim_cnt {t : Tm} (h : t.cnt ≤ 100000) : (lim t).1.cnt ≤ 100000 := by
  unfold lim; split
  · exact h
  · decide
end Go.Proofs.YtnnoafgdjjpidaaGreatDoor.W
