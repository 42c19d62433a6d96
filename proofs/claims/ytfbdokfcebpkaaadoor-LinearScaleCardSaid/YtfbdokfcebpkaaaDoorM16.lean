/- Parts of the proof, one after the other: W28, W29, W30, W31. No condition. -/
import Derived.Test.YtfbdokfcebpkaaaDoorM15
namespace Go.Proofs.YtfbdokfcebpkaaaDoor.W
open Go.RowKit E M
set_option linter.unusedVariables false
set_option linter.unusedSimpArgs false
set_option linter.unusedSectionVars false

set_option maxRecDepth 20000 in
theorem rcnN_of (t : Tm) (L : Nat) (hL : L ≤ 100000) (hr : t.cnt ≤ 100000) (ih : ∀ p ∈ t.ps, ∀ o ∈ p.of, ∀ M : Nat, M ≤ L → Pure Tryd.prog 18 [tmC o, iC (M : Int)] (.c (iC ((min o.cnt (M + 1) : Nat) : Int)))) : Pure Tryd.prog 18 [tmC t, iC (L : Int)] (.c (iC ((min t.cnt (L + 1) : Nat) : Int))) := by
  intro H
  refine Spec.enter Tryd.func18 rfl ?_
  refine AW.wk (Wk.keep 54 [(0, .c (tmC t)), (1, .c (iC (L : Int)))] [] (H) rfl ⟨rfl, rfl, trivial⟩ trivial (fun _ _ h => h) rfl) ?_
  refine AW.seq ?_
  refine AW.reg ?_
  refine SeqK.r (b_box (r := [_, _]) rfl rfl rfl rfl rfl rfl) rfl ?_
  refine SeqK.q (q_asC rfl rfl) rfl rfl rfl ?_
  refine SeqK.nil ?_
  refine AW.seq ?_
  have hlt := len_ps t
  have hct := Tm.cnt_eq t
  refine AW.reg ?_
  refine SeqK.q (q_asC rfl rfl) rfl rfl rfl ?_
  refine SeqK.nil ?_
  refine AW.seq ?_
  refine AW.seq ?_
  refine AW.reg ?_
  refine SeqK.q (q_asC rfl rfl) rfl rfl rfl ?_
  refine SeqK.nil ?_
  refine AW.block ?_
  refine AW.loop (fun (i : Nat) s => (i ≤ t.ps.length) ∧ s = ⟨54, sp [(1, .c (iC (L : Int))), (2, .lp 2 0), (4, .c (iC 0)), (5, iX .i64 ((min (1 + cntPs (t.ps.take i)) (L + 1) : Nat) : Int)), (6, iX .i64 ((i : Nat) : Int))], lv [(2, .box [.t (.v (.int .i64 t.c)), .t (.sl .un 5 (t.ps.map ptT))])], H⟩) (fun i => t.ps.length - i) 0 ⟨_, Wk.keep 54 [(1, .c (iC (L : Int))), (2, .lp 2 0), (4, .c (iC 0)), (5, iX .i64 ((min (1 + cntPs (t.ps.take ((0 : Nat)))) (L + 1) : Nat) : Int)), (6, iX .i64 ((((0 : Nat)) : Nat) : Int))] [(2, .box [.t (.v (.int .i64 t.c)), .t (.sl .un 5 (t.ps.map ptT))])] (H) rfl ⟨rfl, rfl, rfl, rfl, rfl, trivial⟩ ⟨rfl, trivial⟩ (fun _ _ h => h) rfl, Nat.zero_le _, rfl⟩ (fun i s hs => ?_)
  obtain ⟨hi0, rfl⟩ := hs
  refine AW.seq ?_
  refine AW.seq ?_
  refine AW.reg ?_
  refine SeqK.q (q_mvC rfl rfl) rfl rfl rfl ?_
  refine SeqK.q (q_fieldL _ rfl Fx.fl24_1 rfl rfl) rfl rfl rfl ?_
  refine SeqK.r (b_load (r := .a _) rfl Fx.ty22 rfl rfl rfl rfl rfl rfl) rfl ?_
  refine SeqK.q (q_len rfl Fx.un22 rfl) rfl rfl rfl ?_
  refine SeqK.q (q_lss rfl rfl rfl) rfl rfl rfl ?_
  refine SeqK.qD (q_mvC rfl rfl) rfl rfl rfl (fun g13 => ?_) (fun g13 => ?_)
  ·
    have hi : i < t.ps.length := by rw [List.length_map] at g13; omega
    have hlo := len_of (List.getElem_mem hi)
    have hcl := cntTs_le hi
    have hct1 := cntPs_take hi
    refine SeqK.on (q_mvC rfl rfl) rfl rfl rfl rfl rfl ?_
    refine SeqK.on (q_mvC rfl rfl) rfl rfl rfl rfl rfl ?_
    refine SeqK.on (q_leq rfl rfl rfl) rfl rfl rfl rfl rfl ?_
    refine SeqK.q (q_pkT rfl rfl rfl) rfl rfl rfl ?_
    refine SeqK.nil ?_
    refine AW.condD rfl (fun h17 => ?_) (fun h17 => ?_)
    ·
      refine AW.skip ?_
      refine AW.seq ?_
      refine AW.block ?_
      refine AW.seq ?_
      refine AW.reg ?_
      refine SeqK.q (q_mvC rfl rfl) rfl rfl rfl ?_
      refine SeqK.q (q_add _ rfl rfl rfl ((by rw [w64 (by omega) (by omega)]; have e0 : cntTs (t.ps[i].of.take 0) = 0 := rfl; omega : IntKind.i64.wrap _ = ((min (1 + cntPs (t.ps.take i) + 1 + cntTs (t.ps[i].of.take 0)) (L + 1) : Nat) : Int)))) rfl rfl rfl ?_
      refine SeqK.q (q_asC rfl rfl) rfl rfl rfl ?_
      refine SeqK.nil ?_
      refine AW.seq ?_
      refine AW.reg ?_
      refine SeqK.q (q_asC rfl rfl) rfl rfl rfl ?_
      refine SeqK.nil ?_
      refine AW.block ?_
      refine AW.loop (fun (j : Nat) s => (j ≤ t.ps[i].of.length) ∧ s = ⟨54, sp [(1, .c (iC (L : Int))), (2, .lp 2 0), (4, .c (iC 0)), (5, iX .i64 ((min (1 + cntPs (t.ps.take i) + 1 + cntTs (t.ps[i].of.take j)) (L + 1) : Nat) : Int)), (6, iX .i64 ((i : Nat) : Int)), (7, iX .i64 ((j : Nat) : Int))], lv [(2, .box [.t (.v (.int .i64 t.c)), .t (.sl .un 5 (t.ps.map ptT))])], H⟩) (fun j => t.ps[i].of.length - j) 0 ⟨_, Wk.keep 54 [(1, .c (iC (L : Int))), (2, .lp 2 0), (4, .c (iC 0)), (5, iX .i64 ((min (1 + cntPs (t.ps.take i) + 1 + cntTs (t.ps[i].of.take ((0 : Nat)))) (L + 1) : Nat) : Int)), (6, iX .i64 ((i : Nat) : Int)), (7, iX .i64 ((((0 : Nat)) : Nat) : Int))] [(2, .box [.t (.v (.int .i64 t.c)), .t (.sl .un 5 (t.ps.map ptT))])] (H) rfl ⟨rfl, rfl, rfl, rfl, rfl, rfl, trivial⟩ ⟨rfl, trivial⟩ (fun _ _ h => h) rfl, Nat.zero_le _, rfl⟩ (fun j s hs => ?_)
      obtain ⟨hj0, rfl⟩ := hs
      refine AW.seq ?_
      refine AW.seq ?_
      refine AW.reg ?_
      refine SeqK.q (q_mvC rfl rfl) rfl rfl rfl ?_
      refine SeqK.q (q_fieldL _ rfl Fx.fl24_1 rfl rfl) rfl rfl rfl ?_
      refine SeqK.r (b_load (r := .a _) rfl Fx.ty22 rfl rfl rfl rfl rfl rfl) rfl ?_
      refine SeqK.q (q_mvC rfl rfl) rfl rfl rfl ?_
      refine SeqK.q (q_index _ rfl Fx.sl22 rfl rfl (by omega) (idx_map (f := ptT) hi)) rfl rfl rfl ?_
      refine SeqK.q (q_fieldP _ rfl Fx.fl62_4 rfl rfl) rfl rfl rfl ?_
      refine SeqK.q (q_load (.a _) rfl Fx.ty60 rfl rfl rfl) rfl rfl rfl ?_
      refine SeqK.q (q_len rfl Fx.un60 rfl) rfl rfl rfl ?_
      refine SeqK.q (q_lss rfl rfl rfl) rfl rfl rfl ?_
      refine SeqK.qD (q_mvC rfl rfl) rfl rfl rfl (fun g31 => ?_) (fun g31 => ?_)
      ·
        have hj : j < t.ps[i].of.length := by rw [List.length_map] at g31; omega
        have hct2 := cntTs_take hj
        refine SeqK.on (q_mvC rfl rfl) rfl rfl rfl rfl rfl ?_
        refine SeqK.on (q_mvC rfl rfl) rfl rfl rfl rfl rfl ?_
        refine SeqK.on (q_leq rfl rfl rfl) rfl rfl rfl rfl rfl ?_
        refine SeqK.q (q_pkT rfl rfl rfl) rfl rfl rfl ?_
        refine SeqK.nil ?_
        refine AW.condD rfl (fun h35 => ?_) (fun h35 => ?_)
        ·
          have hS : 1 + cntPs (t.ps.take i) + 1 + cntTs (t.ps[i].of.take j) ≤ L := by omega
          refine AW.skip ?_
          refine AW.seq ?_
          refine AW.block ?_
          refine AW.reg ?_
          refine SeqK.q (q_mvC rfl rfl) rfl rfl rfl ?_
          refine SeqK.q (q_fieldL _ rfl Fx.fl24_1 rfl rfl) rfl rfl rfl ?_
          refine SeqK.r (b_load (r := .a _) rfl Fx.ty22 rfl rfl rfl rfl rfl rfl) rfl ?_
          refine SeqK.q (q_mvC rfl rfl) rfl rfl rfl ?_
          refine SeqK.q (q_index _ rfl Fx.sl22 rfl rfl (by omega) (idx_map (f := ptT) hi)) rfl rfl rfl ?_
          refine SeqK.q (q_fieldP _ rfl Fx.fl62_4 rfl rfl) rfl rfl rfl ?_
          refine SeqK.q (q_load (.a _) rfl Fx.ty60 rfl rfl rfl) rfl rfl rfl ?_
          refine SeqK.q (q_mvC rfl rfl) rfl rfl rfl ?_
          refine SeqK.q (q_index _ rfl Fx.sl60 rfl rfl (by omega) (idx_tm hj)) rfl rfl rfl ?_
          refine SeqK.q (q_load (.g [_, _]) rfl Fx.ty24 rfl rfl rfl) rfl rfl rfl ?_
          refine SeqK.q (q_mvC rfl rfl) rfl rfl rfl ?_
          refine SeqK.q (q_mvC rfl rfl) rfl rfl rfl ?_
          refine SeqK.q (q_sub _ rfl rfl rfl ((by rw [w64 (by omega) (by omega)]; omega : IntKind.i64.wrap _ = ((L - (1 + cntPs (t.ps.take i) + 1 + cntTs (t.ps[i].of.take j)) : Nat) : Int)))) rfl rfl rfl ?_
          refine SeqK.q (q_call _ rfl Fx.fn18 rfl (ih _ (List.getElem_mem hi) _ (List.getElem_mem hj) _ (by omega)) rfl) rfl rfl rfl ?_
          refine SeqK.q (q_add _ rfl rfl rfl ((by rw [w64 (by omega) (by omega)]; omega : IntKind.i64.wrap _ = ((min (1 + cntPs (t.ps.take i) + 1 + cntTs (t.ps[i].of.take (j + 1))) (L + 1) : Nat) : Int)))) rfl rfl rfl ?_
          refine SeqK.q (q_asC rfl rfl) rfl rfl rfl ?_
          refine SeqK.nil ?_
          refine AW.reg ?_
          refine SeqK.q (q_mvC rfl rfl) rfl rfl rfl ?_
          refine SeqK.q (q_add _ rfl rfl rfl (w64 (by omega) (by omega))) rfl rfl rfl ?_
          refine SeqK.q (q_asC rfl rfl) rfl rfl rfl ?_
          refine SeqK.nil ?_
          exact ⟨j + 1, _, Wk.keep 54 [(1, .c (iC (L : Int))), (2, .lp 2 0), (4, .c (iC 0)), (5, iX .i64 ((min (1 + cntPs (t.ps.take i) + 1 + cntTs (t.ps[i].of.take (j + 1))) (L + 1) : Nat) : Int)), (6, iX .i64 ((i : Nat) : Int)), (7, iX .i64 (((j + 1) : Nat) : Int))] [(2, .box [.t (.v (.int .i64 t.c)), .t (.sl .un 5 (t.ps.map ptT))])] (H) rfl ⟨rfl, rfl, rfl, rfl, rfl, rfl, trivial⟩ ⟨rfl, trivial⟩ (fun _ _ h => h) rfl, by omega, hj, rfl⟩
        ·
          refine AW.exit ?_
          refine eth_e ?_
          refine eth_e ?_
          refine exit_here ?_
          refine AW.wk (Wk.keep 54 [(1, .c (iC (L : Int))), (2, .lp 2 0), (4, .c (iC 0)), (5, iX .i64 ((min (1 + cntPs (t.ps.take (i + 1))) (L + 1) : Nat) : Int)), (6, iX .i64 ((i : Nat) : Int))] [(2, .box [.t (.v (.int .i64 t.c)), .t (.sl .un 5 (t.ps.map ptT))])] (H) rfl ⟨rfl, rfl, rfl, iXe (by have := cntTs_take_le t.ps[i].of j; first | (have hjl : j = t.ps[i].of.length := (by rw [List.length_map] at g31; omega); subst hjl; rw [List.take_length]; omega) | omega), rfl, trivial⟩ ⟨rfl, trivial⟩ (fun _ _ h => h) rfl) ?_
          refine AW.reg ?_
          refine SeqK.q (q_mvC rfl rfl) rfl rfl rfl ?_
          refine SeqK.q (q_add _ rfl rfl rfl (w64 (by omega) (by omega))) rfl rfl rfl ?_
          refine SeqK.q (q_asC rfl rfl) rfl rfl rfl ?_
          refine SeqK.nil ?_
          exact ⟨i + 1, _, Wk.keep 54 [(1, .c (iC (L : Int))), (2, .lp 2 0), (4, .c (iC 0)), (5, iX .i64 ((min (1 + cntPs (t.ps.take (i + 1))) (L + 1) : Nat) : Int)), (6, iX .i64 (((i + 1) : Nat) : Int))] [(2, .box [.t (.v (.int .i64 t.c)), .t (.sl .un 5 (t.ps.map ptT))])] (H) rfl ⟨rfl, rfl, rfl, rfl, rfl, trivial⟩ ⟨rfl, trivial⟩ (fun _ _ h => h) rfl, by omega, hi, rfl⟩
      ·
        refine SeqK.off rfl rfl rfl rfl rfl rfl ?_
        refine SeqK.off rfl rfl rfl rfl rfl rfl ?_
        refine SeqK.off rfl rfl rfl rfl rfl rfl ?_
        refine SeqK.q (q_pkF rfl rfl rfl) rfl rfl rfl ?_
        refine SeqK.nil ?_
        refine AW.condF rfl ?_
        refine AW.exit ?_
        refine eth_e ?_
        refine eth_e ?_
        refine exit_here ?_
        refine AW.wk (Wk.keep 54 [(1, .c (iC (L : Int))), (2, .lp 2 0), (4, .c (iC 0)), (5, iX .i64 ((min (1 + cntPs (t.ps.take (i + 1))) (L + 1) : Nat) : Int)), (6, iX .i64 ((i : Nat) : Int))] [(2, .box [.t (.v (.int .i64 t.c)), .t (.sl .un 5 (t.ps.map ptT))])] (H) rfl ⟨rfl, rfl, rfl, iXe (by have := cntTs_take_le t.ps[i].of j; first | (have hjl : j = t.ps[i].of.length := (by rw [List.length_map] at g31; omega); subst hjl; rw [List.take_length]; omega) | omega), rfl, trivial⟩ ⟨rfl, trivial⟩ (fun _ _ h => h) rfl) ?_
        refine AW.reg ?_
        refine SeqK.q (q_mvC rfl rfl) rfl rfl rfl ?_
        refine SeqK.q (q_add _ rfl rfl rfl (w64 (by omega) (by omega))) rfl rfl rfl ?_
        refine SeqK.q (q_asC rfl rfl) rfl rfl rfl ?_
        refine SeqK.nil ?_
        exact ⟨i + 1, _, Wk.keep 54 [(1, .c (iC (L : Int))), (2, .lp 2 0), (4, .c (iC 0)), (5, iX .i64 ((min (1 + cntPs (t.ps.take (i + 1))) (L + 1) : Nat) : Int)), (6, iX .i64 (((i + 1) : Nat) : Int))] [(2, .box [.t (.v (.int .i64 t.c)), .t (.sl .un 5 (t.ps.map ptT))])] (H) rfl ⟨rfl, rfl, rfl, rfl, rfl, trivial⟩ ⟨rfl, trivial⟩ (fun _ _ h => h) rfl, by omega, hi, rfl⟩
    ·
      refine AW.exit ?_
      refine eth_e ?_
      refine eth_e ?_
      refine exit_here ?_
      refine AW.seq ?_
      refine AW.reg ?_
      refine SeqK.q (q_mvC rfl rfl) rfl rfl rfl ?_
      refine SeqK.q (q_asC rfl rfl) rfl rfl rfl ?_
      refine SeqK.nil ?_
      refine AW.ret ?_
      exact fin_x (x := .c _) (H) (.tmp rfl .nil) rfl (fun _ _ h => h) (⟨by rw [show min t.cnt (L + 1) = min (1 + cntPs (t.ps.take i)) (L + 1) by have := cntPs_take_le t.ps i; first | (have hil : i = t.ps.length := (by rw [List.length_map] at g13; omega); subst hil; rw [List.take_length]; omega) | omega], rfl⟩)
  ·
    refine SeqK.off rfl rfl rfl rfl rfl rfl ?_
    refine SeqK.off rfl rfl rfl rfl rfl rfl ?_
    refine SeqK.off rfl rfl rfl rfl rfl rfl ?_
    refine SeqK.q (q_pkF rfl rfl rfl) rfl rfl rfl ?_
    refine SeqK.nil ?_
    refine AW.condF rfl ?_
    refine AW.exit ?_
    refine eth_e ?_
    refine eth_e ?_
    refine exit_here ?_
    refine AW.seq ?_
    refine AW.reg ?_
    refine SeqK.q (q_mvC rfl rfl) rfl rfl rfl ?_
    refine SeqK.q (q_asC rfl rfl) rfl rfl rfl ?_
    refine SeqK.nil ?_
    refine AW.ret ?_
    exact fin_x (x := .c _) (H) (.tmp rfl .nil) rfl (fun _ _ h => h) (⟨by rw [show min t.cnt (L + 1) = min (1 + cntPs (t.ps.take i)) (L + 1) by have := cntPs_take_le t.ps i; first | (have hil : i = t.ps.length := (by rw [List.length_map] at g13; omega); subst hil; rw [List.take_length]; omega) | omega], rfl⟩)

theorem rcnN_any (t : Tm) : t.cnt ≤ 100000 → ∀ L : Nat, L ≤ 100000 → Pure Tryd.prog 18 [tmC t, iC (L : Int)] (.c (iC ((min t.cnt (L + 1) : Nat) : Int))) := by
  induction t using Tm.ind with
  | h t ih =>
    intro hr L hL
    exact rcnN_of t L hL hr fun p hp o ho M hM => ih p hp o ho (by have := cnt_of hp ho; omega) M (by omega)
def timesI (a n : Int) : Int := if a.natAbs * n.natAbs ≤ 2 ^ 60 then a * n else 2 ^ 60
theorem timesI_zero {a n : Int} (h : a = 0 ∨ n = 0) : timesI a n = 0 := by
  unfold timesI; rcases h with rfl | rfl <;> simp
theorem timesI_big {a n : Int} (h : 2 ^ 60 < a.natAbs * n.natAbs) : timesI a n = 2 ^ 60 := if_neg (by omega)
theorem big_l {a n : Nat} (h : 2 ^ 60 < a) (hn : 1 ≤ n) : 2 ^ 60 < a * n := Nat.lt_of_lt_of_le h (Nat.le_mul_of_pos_right _ hn)
theorem big_r {a n : Nat} (h : 2 ^ 60 < n) (hn : 1 ≤ a) : 2 ^ 60 < a * n := by rw [Nat.mul_comm]; exact big_l h hn
theorem quo60 {n : Nat} (h : n ≤ 2 ^ 60) : IntKind.i64.wrap ((1152921504606846976 : Int).tdiv (n : Int)) = ((1152921504606846976 / n : Nat) : Int) := by
  have h1 : (1152921504606846976 : Int).tdiv (n : Int) = ((1152921504606846976 / n : Nat) : Int) := rfl
  have h2 : ((1152921504606846976 / n : Nat) : Int) ≤ ((1152921504606846976 : Nat) : Int) := by exact_mod_cast Nat.div_le_self 1152921504606846976 n
  have h0 : (0 : Int) ≤ ((1152921504606846976 / n : Nat) : Int) := Int.natCast_nonneg _
  rw [h1, w64 (by omega) (by omega)]
theorem div_lt_iff {a n : Nat} (hn : 1 ≤ n) : 1152921504606846976 / n < a ↔ 2 ^ 60 < a * n := by
  rw [Nat.div_lt_iff_lt_mul (by omega)]
theorem nd_t {p : Prop} [Decidable p] (h : (!decide p) = true) : ¬ p := by simpa using h
theorem nd_f {p : Prop} [Decidable p] (h : (!decide p) = false) : p := by simpa using h
theorem quo_lt {a n : Nat} (hn : 1 ≤ n) : ((1152921504606846976 / n : Nat) : Int) < (a : Int) ↔ 2 ^ 60 < a * n := by
  rw [Int.ofNat_lt]; exact div_lt_iff hn
theorem timesX {a b : Int} (h : a = b) : X.c (iC a) = X.c (iC b) := by rw [h]

set_option maxRecDepth 20000 in
theorem rtimes_any (a b : Int) (ha : R64 a) (hb : R64 b) : Pure Tryd.prog 72 [iC a, iC b] (.c (iC (timesI a b))) := by
  intro H
  refine Spec.enter Tryd.func72 rfl ?_
  refine AW.wk (Wk.keep 30 [(0, .c (iC a)), (1, .c (iC b))] [] (H) rfl ⟨rfl, rfl, trivial⟩ trivial (fun _ _ h => h) rfl) ?_
  refine AW.seq ?_
  refine AW.reg ?_
  refine SeqK.q (q_asC rfl rfl) rfl rfl rfl ?_
  refine SeqK.nil ?_
  refine AW.seq ?_
  refine AW.seq ?_
  refine AW.reg ?_
  refine SeqK.q (q_mvC rfl rfl) rfl rfl rfl ?_
  refine SeqK.q (q_eql rfl rfl rfl) rfl rfl rfl ?_
  refine SeqK.qD (q_mvC rfl rfl) rfl rfl rfl (fun g7 => ?_) (fun g7 => ?_)
  ·
    refine SeqK.off rfl rfl rfl rfl rfl rfl ?_
    refine SeqK.off rfl rfl rfl rfl rfl rfl ?_
    refine SeqK.q (q_pkT rfl rfl rfl) rfl rfl rfl ?_
    refine SeqK.nil ?_
    refine AW.condT rfl ?_
    refine AW.seq ?_
    refine AW.reg ?_
    refine SeqK.q (q_asC rfl rfl) rfl rfl rfl ?_
    refine SeqK.nil ?_
    refine AW.ret ?_
    exact fin_x (x := .c _) (H) (.tmp rfl .nil) rfl (fun _ _ h => h) (⟨timesX (timesI_zero (by omega)).symm, rfl⟩)
  ·
    refine SeqK.on (q_mvC rfl rfl) rfl rfl rfl rfl rfl ?_
    refine SeqK.on (q_eql rfl rfl rfl) rfl rfl rfl rfl rfl ?_
    refine SeqK.q (q_pkF rfl rfl rfl) rfl rfl rfl ?_
    refine SeqK.nil ?_
    refine AW.condD rfl (fun h10 => ?_) (fun h10 => ?_)
    ·
      refine AW.seq ?_
      refine AW.reg ?_
      refine SeqK.q (q_asC rfl rfl) rfl rfl rfl ?_
      refine SeqK.nil ?_
      refine AW.ret ?_
      exact fin_x (x := .c _) (H) (.tmp rfl .nil) rfl (fun _ _ h => h) (⟨timesX (timesI_zero (by omega)).symm, rfl⟩)
    ·
      refine AW.skip ?_
      refine AW.seq ?_
      refine AW.seq ?_
      have ha0 : 1 ≤ a.natAbs := by omega
      have hb0 : 1 ≤ b.natAbs := by omega
      refine AW.reg ?_
      refine SeqK.q (q_mvC rfl rfl) rfl rfl rfl ?_
      refine SeqK.q (q_call _ rfl Fx.fn58 rfl (within_any _ _ _) rfl) rfl rfl rfl ?_
      refine SeqK.q (q_not rfl rfl) rfl rfl rfl ?_
      refine SeqK.qB (q_mvC rfl rfl) rfl rfl rfl (fun g14 => ?_) (fun g14 => ?_)
      ·
        have k := nd_t g14
        refine SeqK.off rfl rfl rfl rfl rfl rfl ?_
        refine SeqK.off rfl rfl rfl rfl rfl rfl ?_
        refine SeqK.off rfl rfl rfl rfl rfl rfl ?_
        refine SeqK.q (q_pkT rfl rfl rfl) rfl rfl rfl ?_
        refine SeqK.q (q_mvC rfl rfl) rfl rfl rfl ?_
        refine SeqK.off rfl rfl rfl rfl rfl rfl ?_
        refine SeqK.off rfl rfl rfl rfl rfl rfl ?_
        refine SeqK.off rfl rfl rfl rfl rfl rfl ?_
        refine SeqK.off rfl rfl rfl rfl rfl rfl ?_
        refine SeqK.off rfl rfl rfl rfl rfl rfl ?_
        refine SeqK.off rfl rfl rfl rfl rfl rfl ?_
        refine SeqK.q (q_pkT rfl rfl rfl) rfl rfl rfl ?_
        refine SeqK.nil ?_
        refine AW.condT rfl ?_
        refine AW.seq ?_
        refine AW.reg ?_
        refine SeqK.q (q_asC rfl rfl) rfl rfl rfl ?_
        refine SeqK.nil ?_
        refine AW.ret ?_
        exact fin_x (x := .c _) (H) (.tmp rfl .nil) rfl (fun _ _ h => h) (⟨timesX (timesI_big (by first | exact big_l (by omega) hb0 | exact big_r (by omega) ha0 | exact (quo_lt hb0).1 h26)).symm, rfl⟩)
      ·
        have k := nd_f g14
        refine SeqK.on (q_mvC rfl rfl) rfl rfl rfl rfl rfl ?_
        refine SeqK.on (q_call _ rfl Fx.fn58 rfl (within_any _ _ _) rfl) rfl rfl rfl rfl rfl ?_
        refine SeqK.on (q_not rfl rfl) rfl rfl rfl rfl rfl ?_
        refine SeqK.q (q_pkF rfl rfl rfl) rfl rfl rfl ?_
        refine SeqK.qB (q_mvC rfl rfl) rfl rfl rfl (fun g19 => ?_) (fun g19 => ?_)
        ·
          have k2 := nd_t g19
          refine SeqK.off rfl rfl rfl rfl rfl rfl ?_
          refine SeqK.off rfl rfl rfl rfl rfl rfl ?_
          refine SeqK.off rfl rfl rfl rfl rfl rfl ?_
          refine SeqK.off rfl rfl rfl rfl rfl rfl ?_
          refine SeqK.off rfl rfl rfl rfl rfl rfl ?_
          refine SeqK.off rfl rfl rfl rfl rfl rfl ?_
          refine SeqK.q (q_pkT rfl rfl rfl) rfl rfl rfl ?_
          refine SeqK.nil ?_
          refine AW.condT rfl ?_
          refine AW.seq ?_
          refine AW.reg ?_
          refine SeqK.q (q_asC rfl rfl) rfl rfl rfl ?_
          refine SeqK.nil ?_
          refine AW.ret ?_
          exact fin_x (x := .c _) (H) (.tmp rfl .nil) rfl (fun _ _ h => h) (⟨timesX (timesI_big (by first | exact big_l (by omega) hb0 | exact big_r (by omega) ha0 | exact (quo_lt hb0).1 h26)).symm, rfl⟩)
        ·
          have k2 := nd_f g19
          refine SeqK.on (q_mvC rfl rfl) rfl rfl rfl rfl rfl ?_
          refine SeqK.on (q_call _ rfl Fx.fn54 rfl (rabs_any _ (by omega)) rfl) rfl rfl rfl rfl rfl ?_
          refine SeqK.on (q_mvC rfl rfl) rfl rfl rfl rfl rfl ?_
          refine SeqK.on (q_call _ rfl Fx.fn54 rfl (rabs_any _ (by omega)) rfl) rfl rfl rfl rfl rfl ?_
          refine SeqK.on (q_quo _ rfl rfl rfl (by omega) (quo60 (by omega))) rfl rfl rfl rfl rfl ?_
          refine SeqK.on (q_gtr rfl rfl rfl) rfl rfl rfl rfl rfl ?_
          refine SeqK.q (q_pkF rfl rfl rfl) rfl rfl rfl ?_
          refine SeqK.nil ?_
          refine AW.condD rfl (fun h26 => ?_) (fun h26 => ?_)
          ·
            refine AW.seq ?_
            refine AW.reg ?_
            refine SeqK.q (q_asC rfl rfl) rfl rfl rfl ?_
            refine SeqK.nil ?_
            refine AW.ret ?_
            exact fin_x (x := .c _) (H) (.tmp rfl .nil) rfl (fun _ _ h => h) (⟨timesX (timesI_big (by first | exact big_l (by omega) hb0 | exact big_r (by omega) ha0 | exact (quo_lt hb0).1 h26)).symm, rfl⟩)
          ·
            have hab : a.natAbs * b.natAbs ≤ 2 ^ 60 := Nat.le_of_not_lt fun hh => h26 ((quo_lt hb0).2 hh)
            refine AW.skip ?_
            refine AW.seq ?_
            refine AW.reg ?_
            refine SeqK.q (q_mvC rfl rfl) rfl rfl rfl ?_
            refine SeqK.q (q_mvC rfl rfl) rfl rfl rfl ?_
            refine SeqK.q (q_mul _ rfl rfl rfl (w64m (M := 2 ^ 60) (by decide) hab)) rfl rfl rfl ?_
            refine SeqK.q (q_asC rfl rfl) rfl rfl rfl ?_
            refine SeqK.nil ?_
            refine AW.ret ?_
            exact fin_x (x := .c _) (H) (.tmp rfl .nil) rfl (fun _ _ h => h) (⟨timesX (if_pos hab).symm, rfl⟩)

set_option maxRecDepth 20000 in
theorem limited_any (t : Tm) (h : bokT t) (hN : t.cnt ≤ 100000) : Pure Tryd.prog 70 [tmC t] (trC (lim t)) := by
  intro H
  refine Spec.enter Tryd.func70 rfl ?_
  refine AW.wk (Wk.keep 9 [(0, .c (tmC t))] [] (H) rfl ⟨rfl, trivial⟩ trivial (fun _ _ h => h) rfl) ?_
  refine AW.seq ?_
  refine AW.reg ?_
  refine SeqK.r (b_box (r := [_, _]) rfl rfl rfl rfl rfl rfl) rfl ?_
  refine SeqK.r (b_alloc (r := [_, _]) rfl rfl Fx.ze24 rfl rfl rfl rfl) rfl ?_
  refine SeqK.q (q_asC rfl rfl) rfl rfl rfl ?_
  refine SeqK.nil ?_
  refine AW.seq ?_
  refine AW.seq ?_
  refine AW.reg ?_
  refine SeqK.r (b_load (r := .g [_, _]) rfl Fx.ty24 rfl rfl rfl rfl rfl rfl) rfl ?_
  refine SeqK.q (q_call _ rfl Fx.fn59 rfl (rsmall_any t h hN) rfl) rfl rfl rfl ?_
  refine SeqK.q (q_not rfl rfl) rfl rfl rfl ?_
  refine SeqK.nil ?_
  refine AW.cond _ rfl (fun h6 => ?_) (fun h6 => ?_)
  ·
    refine AW.seq ?_
    refine AW.reg ?_
    refine SeqK.q (q_build2 (zs := [_, _]) (r := [_, _]) [(0, 1), (1, 1)] _ rfl Fx.ze24 rfl Fx.bp24 rfl rfl rfl rfl) rfl rfl rfl ?_
    refine SeqK.xw 7 rfl XW.tm0 ?_
    refine SeqK.r (b_store (r := [_, _]) rfl rfl Fx.ty24 rfl rfl rfl rfl rfl rfl) rfl ?_
    refine SeqK.q (q_asC rfl rfl) rfl rfl rfl ?_
    refine SeqK.nil ?_
    refine AW.ret ?_
    exact fin_x (x := .tup [_, _]) (H) (.cellL rfl rfl Fx.ty24 rfl rfl (.tmp rfl .nil)) rfl (fun _ _ h => h) (⟨by rw [lim, if_neg (by intro hs; rw [hs] at h6; cases h6)]; rfl, rfl⟩)
  ·
    refine AW.skip ?_
    refine AW.seq ?_
    refine AW.reg ?_
    refine SeqK.r (b_load (r := .g [_, _]) rfl Fx.ty24 rfl rfl rfl rfl rfl rfl) rfl ?_
    refine SeqK.r (b_store (r := [_, _]) rfl rfl Fx.ty24 rfl rfl rfl rfl rfl rfl) rfl ?_
    refine SeqK.q (q_asC rfl rfl) rfl rfl rfl ?_
    refine SeqK.nil ?_
    refine AW.ret ?_
    exact fin_x (x := .tup [_, _]) (H) (.cellL rfl rfl Fx.ty24 rfl rfl (.tmp rfl .nil)) rfl (fun _ _ h => h) (⟨by rw [lim, if_pos (by simpa using h6)]; rfl, rfl⟩)

abbrev sameB (t x : Tm) : Bool := decide (t.cnt ≤ 400) && decide (cmpT t x = 0)
theorem sameB_self {t : Tm} (h : t.cnt ≤ 400) : sameB t t = true := by simp [sameB, h, cmpT_self]

set_option maxRecDepth 20000 in
theorem same_any (t x : Tm) (hN : t.cnt ≤ 100000) : Pure Tryd.prog 29 [tmC t, tmC x] (.c (bC (sameB t x))) := by
  intro H
  refine Spec.enter Tryd.func29 rfl ?_
  refine AW.wk (Wk.keep 14 [(0, .c (tmC t)), (1, .c (tmC x))] [] (H) rfl ⟨rfl, rfl, trivial⟩ trivial (fun _ _ h => h) rfl) ?_
  refine AW.seq ?_
  refine AW.reg ?_
  refine SeqK.r (b_box (r := [_, _]) rfl rfl rfl rfl rfl rfl) rfl ?_
  refine SeqK.r (b_box (r := [_, _]) rfl rfl rfl rfl rfl rfl) rfl ?_
  refine SeqK.q (q_asC rfl rfl) rfl rfl rfl ?_
  refine SeqK.nil ?_
  refine AW.seq ?_
  refine AW.reg ?_
  refine SeqK.r (b_load (r := .g [_, _]) rfl Fx.ty24 rfl rfl rfl rfl rfl rfl) rfl ?_
  refine SeqK.q (q_call _ rfl Fx.fn18 rfl (rcnN_any t hN 400 (by decide)) rfl) rfl rfl rfl ?_
  refine SeqK.q (q_leq rfl rfl rfl) rfl rfl rfl ?_
  refine SeqK.qD (q_mvC rfl rfl) rfl rfl rfl (fun g8 => ?_) (fun g8 => ?_)
  ·
    refine SeqK.rOn (b_load (r := .g [_, _]) rfl Fx.ty24 rfl rfl rfl rfl rfl rfl) rfl rfl rfl ?_
    refine SeqK.rOn (b_load (r := .g [_, _]) rfl Fx.ty24 rfl rfl rfl rfl rfl rfl) rfl rfl rfl ?_
    refine SeqK.on (q_call _ rfl Fx.fn15 rfl (rcmp_any t (by omega) x) rfl) rfl rfl rfl rfl rfl ?_
    refine SeqK.on (q_eql rfl rfl rfl) rfl rfl rfl rfl rfl ?_
    refine SeqK.q (q_pkT rfl rfl rfl) rfl rfl rfl ?_
    refine SeqK.q (q_asC rfl rfl) rfl rfl rfl ?_
    refine SeqK.nil ?_
    refine AW.ret ?_
    exact fin_x (x := .c _) (H) (.tmp rfl .nil) rfl (fun _ _ h => h) (⟨bCe (by rw [sameB, show decide (t.cnt ≤ 400) = true by simp; omega]; rfl), rfl⟩)
  ·
    refine SeqK.off rfl rfl rfl rfl rfl rfl ?_
    refine SeqK.off rfl rfl rfl rfl rfl rfl ?_
    refine SeqK.off rfl rfl rfl rfl rfl rfl ?_
    refine SeqK.off rfl rfl rfl rfl rfl rfl ?_
    refine SeqK.q (q_pkF rfl rfl rfl) rfl rfl rfl ?_
    refine SeqK.q (q_asC rfl rfl) rfl rfl rfl ?_
    refine SeqK.nil ?_
    refine AW.ret ?_
    exact fin_x (x := .c _) (H) (.tmp rfl .nil) rfl (fun _ _ h => h) (⟨bCe (by rw [sameB, show decide (t.cnt ≤ 400) = false by simp; omega]; rfl), rfl⟩)

end Go.Proofs.YtfbdokfcebpkaaaDoor.W
namespace Go.Proofs.YtfbdokfcebpkaaaDoor.W
open Go.RowKit E M
set_option linter.unusedVariables false
set_option linter.unusedSimpArgs false
set_option linter.unusedSectionVars false
def mulR (p : Pt) (n : Int) : Pt := ⟨timesI p.coef n, p.kind, p.var, p.dv, p.of⟩
def scR : List Pt → Int → List Pt
  | [], _ => []
  | p :: r, n => nzc (mulR p n) (scR r n)
abbrev refT (t : Tm) (n : Int) : Tm := ⟨timesI t.c n, scR t.ps n⟩
theorem scR_drop {l : List Pt} {n : Int} {i : Nat} (hi : i < l.length) : scR (l.drop i) n = nzc (mulR l[i] n) (scR (l.drop (i + 1)) n) := by
  rw [List.drop_eq_getElem_cons hi, scR]
theorem scR_mem {n : Int} : ∀ {l : List Pt} {q : Pt}, q ∈ scR l n → ∃ p ∈ l, q = mulR p n
  | [], q, h => by simp [scR] at h
  | p :: r, q, h => by
    rw [scR] at h
    rcases mem_nzc h with rfl | h
    · exact ⟨p, by simp, rfl⟩
    · obtain ⟨p', h1, h2⟩ := scR_mem h
      exact ⟨p', by simp [h1], h2⟩
theorem nzc_sub {p q : Pt} {l : List Pt} (h : q ∈ l) : q ∈ nzc p l := by
  unfold nzc; split
  · exact List.mem_cons_of_mem _ h
  · exact h
theorem scR_in {n : Int} : ∀ {l : List Pt} {p : Pt}, p ∈ l → (mulR p n).coef ≠ 0 → mulR p n ∈ scR l n
  | q :: r, p, h, hc => by
    rw [scR]
    rcases List.mem_cons.1 h with rfl | h
    · rw [nzc, if_pos hc]; exact List.mem_cons_self ..
    · exact nzc_sub (scR_in h hc)
theorem scR_cnt (n : Int) : ∀ l : List Pt, cntPs (scR l n) ≤ cntPs l
  | [] => by simp [scR]
  | p :: r => by
    have h1 := scR_cnt n r
    have h2 := nzc_cnt (mulR p n) (scR r n)
    have h3 : (mulR p n).cnt = p.cnt := by rw [Pt.cnt_eq, Pt.cnt_eq]; rfl
    rw [scR]; simp only [cntPs]; omega
theorem scR_all {n : Int} : ∀ {l : List Pt}, (∀ p ∈ l, mulR p n = mulP p n ∧ p.coef * n ≠ 0) → scR l n = l.map fun p => mulP p n
  | [], _ => rfl
  | p :: r, h => by
    obtain ⟨h1, h2⟩ := h p (by simp)
    rw [scR, h1, nzc, if_pos (show (mulP p n).coef ≠ 0 from h2), scR_all fun q hq => h q (by simp [hq])]; rfl
theorem timesI_le (a n : Int) : (timesI a n).natAbs ≤ 2 ^ 60 := by
  unfold timesI; split
  · rename_i h; rw [← Int.natAbs_mul] at h; exact h
  · decide
theorem timesI_gt {a n : Int} {m : Nat} (hm : m < 2 ^ 60) (h : m < a.natAbs * n.natAbs) : m < (timesI a n).natAbs := by
  unfold timesI; split
  · rw [← Int.natAbs_mul] at h; exact h
  · exact hm
theorem refT_bok {t : Tm} {n : Int} (h : bokT t) : bokT (refT t n) := by
  have h1 := timesI_le t.c n
  refine ⟨by show -9223372036854775808 ≤ timesI t.c n ∧ timesI t.c n ≤ 9223372036854775807; omega, fun p hp => ?_, fun p hp => ?_⟩
  · obtain ⟨q, hq, rfl⟩ := scR_mem hp
    have h2 := timesI_le q.coef n
    show -9223372036854775808 ≤ timesI q.coef n ∧ timesI q.coef n ≤ 9223372036854775807
    omega
  · obtain ⟨q, hq, rfl⟩ := scR_mem hp
    exact h.part q hq
theorem refT_cnt (t : Tm) (n : Int) : (refT t n).cnt ≤ t.cnt := by
  have := scR_cnt n t.ps
  rw [Tm.cnt_eq, Tm.cnt_eq t]; show 1 + cntPs (scR t.ps n) ≤ _; omega
theorem vld_nz {t : Tm} (h : vldT t = true) : ∀ p ∈ t.ps, p.coef ≠ 0 := fun p hp e => by
  have := vld_parts h p hp
  rw [vT0 e] at this; cases this
theorem refT_lim {t : Tm} {n : Int} (h : vldT t = true) : lim (refT t n) = scale t n := by
  by_cases hn : n = 0
  · subst hn
    have h1 : scR t.ps 0 = [] := by
      generalize t.ps = l
      induction l with
      | nil => rfl
      | cons p r ih =>
        have e : (mulR p 0).coef = 0 := timesI_zero (.inr rfl)
        rw [scR, ih, nzc, if_neg (by simp [e])]
    rw [scale, if_pos rfl, refT, h1, timesI_zero (.inr rfl)]
    rw [lim, if_pos (by decide)]
  · by_cases hs : t.c.natAbs * n.natAbs ≤ 2 ^ 40 ∧ ∀ p ∈ t.ps, p.coef.natAbs * n.natAbs ≤ 2 ^ 20
    · rw [scale, if_neg hn]
      have e1 : timesI t.c n = t.c * n := if_pos (Nat.le_trans hs.1 (by decide))
      have e2 : scR t.ps n = t.ps.map fun p => mulP p n := scR_all fun p hp => ⟨by
        have : timesI p.coef n = p.coef * n := if_pos (Nat.le_trans (hs.2 p hp) (by decide))
        rw [mulR, this]; rfl, Int.mul_ne_zero (vld_nz h p hp) hn⟩
      rw [refT, e1, e2]; rfl
    · rw [scale_no hn hs, lim, if_neg]
      intro hb
      have hb := smallB_iff.1 hb
      by_cases hc : t.c.natAbs * n.natAbs ≤ 2 ^ 40
      · refine hs ⟨hc, fun p hp => Nat.le_of_not_lt fun hlt => ?_⟩
        have h1 : 2 ^ 20 < (mulR p n).coef.natAbs := timesI_gt (a := p.coef) (n := n) (by decide) hlt
        have := hb.2.1 _ (scR_in hp (by omega))
        omega
      · have h1 : 2 ^ 40 < (timesI t.c n).natAbs := timesI_gt (by decide) (by omega)
        have := hb.1
        exact absurd this (Nat.not_le_of_lt h1)

set_option maxRecDepth 20000 in
theorem rscale_any (t : Tm) (n : Int) (h : vldT t = true) (hn : R64 n) (hN : t.cnt ≤ 100000) : Pure Tryd.prog 31 [tmC t, iC n] (trC (scale t n)) := by
  intro H
  refine Spec.enter Tryd.func31 rfl ?_
  refine AW.wk (Wk.keep 44 [(0, .c (tmC t)), (1, .c (iC n))] [] (H) rfl ⟨rfl, rfl, trivial⟩ trivial (fun _ _ h => h) rfl) ?_
  refine AW.seq ?_
  refine AW.reg ?_
  refine SeqK.r (b_box (r := [_, _]) rfl rfl rfl rfl rfl rfl) rfl ?_
  refine SeqK.r (b_alloc (r := [_, _]) rfl rfl Fx.ze24 rfl rfl rfl rfl) rfl ?_
  refine SeqK.q (q_asC rfl rfl) rfl rfl rfl ?_
  refine SeqK.nil ?_
  refine AW.seq ?_
  have hlt := len_ps t
  have hb := vldT_bok h
  refine AW.reg ?_
  refine SeqK.q (q_fieldL _ rfl Fx.fl24_0 rfl rfl) rfl rfl rfl ?_
  refine SeqK.r (b_load (r := .a _) rfl Fx.ty2 rfl rfl rfl rfl rfl rfl) rfl ?_
  refine SeqK.q (q_mvC rfl rfl) rfl rfl rfl ?_
  refine SeqK.q (q_call _ rfl Fx.fn72 rfl (rtimes_any _ _ (by first | exact hb.c | exact hb.coef _ (List.getElem_mem hi)) hn) rfl) rfl rfl rfl ?_
  refine SeqK.q (q_build2 (zs := [_, _]) (r := [_, _]) [(0, 1), (1, 1)] _ rfl Fx.ze24 rfl Fx.bp24 rfl rfl rfl rfl) rfl rfl rfl ?_
  refine SeqK.r (b_alloc (r := [_, _]) rfl rfl Fx.ze24 rfl rfl rfl rfl) rfl ?_
  refine SeqK.r (b_store (r := [_, _]) rfl rfl Fx.ty24 rfl rfl rfl rfl rfl rfl) rfl ?_
  refine SeqK.nil ?_
  refine AW.seq ?_
  refine AW.seq ?_
  refine AW.reg ?_
  refine SeqK.q (q_asC rfl rfl) rfl rfl rfl ?_
  refine SeqK.nil ?_
  refine AW.block ?_
  refine AW.tipL 6 1 62 5 rfl rfl (fun k0 hk0 => ?_)
  refine AW.loop (fun (i : Nat) s => ∃ (kt : Nat) (out : List Pt) (zs : List (List E.T)), (i ≤ t.ps.length ∧ H kt = none ∧ out.length ≤ i ∧ zs = out.map ptT ∧ out ++ scR (t.ps.drop i) n = scR t.ps n) ∧ s = ⟨44, sp [(1, .c (iC n)), (2, .lp 2 0), (4, .lp 4 0), (5, .c (iC 0)), (6, .lp 6 0), (7, iX .i64 ((i : Nat) : Int))], lv [(2, .box [.t (.v (.int .i64 t.c)), .t (.sl .un 5 (t.ps.map ptT))]), (4, .box [.t (.v (.int .i64 0)), .t (.v (.slice none 0 0))]), (6, .box [.t (.v (.int .i64 (timesI t.c n))), .ts kt .ne 5 zs])], upd H kt (some (.tip 62 5 zs.length))⟩) (fun i => t.ps.length - i) 0 ⟨_, Wk.keep 44 [(1, .c (iC n)), (2, .lp 2 0), (4, .lp 4 0), (5, .c (iC 0)), (6, .lp 6 0), (7, iX .i64 ((((0 : Nat)) : Nat) : Int))] [(2, .box [.t (.v (.int .i64 t.c)), .t (.sl .un 5 (t.ps.map ptT))]), (4, .box [.t (.v (.int .i64 0)), .t (.v (.slice none 0 0))]), (6, .box [.t (.v (.int .i64 (timesI t.c n))), .ts (k0) .ne 5 ([])])] (upd H (k0) (some (.tip 62 5 ([]).length))) rfl ⟨rfl, rfl, rfl, rfl, rfl, rfl, trivial⟩ ⟨rfl, rfl, rfl, trivial⟩ (fun _ _ h => h) rfl, k0, [], [], ⟨Nat.zero_le _, hk0, by simp, rfl, rfl⟩, rfl⟩ (fun i s hs => ?_)
  obtain ⟨kt, out, zs, ⟨hi0, hkt, hol, hzs, hI⟩, rfl⟩ := hs
  refine AW.seq ?_
  refine AW.seq ?_
  refine AW.reg ?_
  refine SeqK.q (q_mvC rfl rfl) rfl rfl rfl ?_
  refine SeqK.q (q_fieldL _ rfl Fx.fl24_1 rfl rfl) rfl rfl rfl ?_
  refine SeqK.r (b_load (r := .a _) rfl Fx.ty22 rfl rfl rfl rfl rfl rfl) rfl ?_
  refine SeqK.q (q_len rfl Fx.un22 rfl) rfl rfl rfl ?_
  refine SeqK.q (q_lss rfl rfl rfl) rfl rfl rfl ?_
  refine SeqK.nil ?_
  refine AW.condD rfl (fun h18 => ?_) (fun h18 => ?_)
  ·
    have hi : i < t.ps.length := by rw [List.length_map] at h18; omega
    refine AW.skip ?_
    refine AW.seq ?_
    refine AW.block ?_
    refine AW.seq ?_
    refine AW.reg ?_
    refine SeqK.q (q_fieldL _ rfl Fx.fl24_1 rfl rfl) rfl rfl rfl ?_
    refine SeqK.r (b_load (r := .a _) rfl Fx.ty22 rfl rfl rfl rfl rfl rfl) rfl ?_
    refine SeqK.q (q_mvC rfl rfl) rfl rfl rfl ?_
    refine SeqK.q (q_index _ rfl Fx.sl22 rfl rfl (by omega) (idx_map (f := ptT) hi)) rfl rfl rfl ?_
    refine SeqK.q (q_load (.g [_, _, _, _, _]) rfl Fx.ty62 rfl rfl rfl) rfl rfl rfl ?_
    refine SeqK.r (b_alloc (r := [_, _, _, _, _]) rfl rfl Fx.ze62 rfl rfl rfl rfl) rfl ?_
    refine SeqK.r (b_store (r := [_, _, _, _, _]) rfl rfl Fx.ty62 rfl rfl rfl rfl rfl rfl) rfl ?_
    refine SeqK.nil ?_
    refine AW.seq ?_
    refine AW.reg ?_
    refine SeqK.q (q_fieldL _ rfl Fx.fl62_0 rfl rfl) rfl rfl rfl ?_
    refine SeqK.r (b_load (r := .a _) rfl Fx.ty2 rfl rfl rfl rfl rfl rfl) rfl ?_
    refine SeqK.q (q_mvC rfl rfl) rfl rfl rfl ?_
    refine SeqK.q (q_call _ rfl Fx.fn72 rfl (rtimes_any _ _ (by first | exact hb.c | exact hb.coef _ (List.getElem_mem hi)) hn) rfl) rfl rfl rfl ?_
    refine SeqK.q (q_fieldL _ rfl Fx.fl62_0 rfl rfl) rfl rfl rfl ?_
    refine SeqK.r (b_store (r := [_, _, _, _, _]) rfl rfl Fx.ty2 rfl rfl rfl rfl rfl rfl) rfl ?_
    refine SeqK.nil ?_
    refine AW.seq ?_
    refine AW.reg ?_
    refine SeqK.q (q_fieldL _ rfl Fx.fl62_0 rfl rfl) rfl rfl rfl ?_
    refine SeqK.r (b_load (r := .a _) rfl Fx.ty2 rfl rfl rfl rfl rfl rfl) rfl ?_
    refine SeqK.q (q_neq rfl rfl rfl) rfl rfl rfl ?_
    refine SeqK.nil ?_
    refine AW.condD rfl (fun h33 => ?_) (fun h33 => ?_)
    ·
      refine AW.reg ?_
      refine SeqK.q (q_fieldL _ rfl Fx.fl24_1 rfl rfl) rfl rfl rfl ?_
      refine SeqK.r (b_load (r := .a _) rfl Fx.ty22 rfl rfl rfl rfl rfl rfl) rfl ?_
      refine SeqK.r (b_load (r := .g [_, _, _, _, _]) rfl Fx.ty62 rfl rfl rfl rfl rfl rfl) rfl ?_
      refine SeqK.q (q_buildSlice _ rfl Fx.el22 rfl (by decide) rfl) rfl rfl rfl ?_
      refine SeqK.app1 rfl (hkt) rfl Fx.el22 rfl rfl (by have hzl : zs.length = out.length := (by rw [hzs, List.length_map]); constructor <;> (simp; omega)) rfl rfl (fun k38 hk38 => ?_)
      refine SeqK.q (q_fieldL _ rfl Fx.fl24_1 rfl rfl) rfl rfl rfl ?_
      refine SeqK.r (b_store (r := [_, _]) rfl rfl Fx.ty22 rfl rfl rfl rfl rfl rfl) rfl ?_
      refine SeqK.nil ?_
      refine AW.reg ?_
      refine SeqK.q (q_mvC rfl rfl) rfl rfl rfl ?_
      refine SeqK.q (q_add _ rfl rfl rfl (w64 (by omega) (by omega))) rfl rfl rfl ?_
      refine SeqK.q (q_asC rfl rfl) rfl rfl rfl ?_
      refine SeqK.nil ?_
      exact ⟨i + 1, _, Wk.keep 44 [(1, .c (iC n)), (2, .lp 2 0), (4, .lp 4 0), (5, .c (iC 0)), (6, .lp 6 0), (7, iX .i64 (((i + 1) : Nat) : Int))] [(2, .box [.t (.v (.int .i64 t.c)), .t (.sl .un 5 (t.ps.map ptT))]), (4, .box [.t (.v (.int .i64 0)), .t (.v (.slice none 0 0))]), (6, .box [.t (.v (.int .i64 (timesI t.c n))), .ts (k38) .ne 5 (zs ++ [ptT (mulR t.ps[i] n)])])] (upd H (k38) (some (.tip 62 5 (zs ++ [ptT (mulR t.ps[i] n)]).length))) rfl ⟨rfl, rfl, rfl, rfl, rfl, rfl, trivial⟩ ⟨rfl, rfl, rfl, trivial⟩ (fun _ _ h => h) rfl, by omega, k38, out ++ [mulR t.ps[i] n], zs ++ [ptT (mulR t.ps[i] n)], ⟨by omega, hk38, by simp; omega, map_put hzs, put_nz (scR_drop hi) hI h33⟩, rfl⟩
    ·
      refine AW.skip ?_
      refine AW.reg ?_
      refine SeqK.q (q_mvC rfl rfl) rfl rfl rfl ?_
      refine SeqK.q (q_add _ rfl rfl rfl (w64 (by omega) (by omega))) rfl rfl rfl ?_
      refine SeqK.q (q_asC rfl rfl) rfl rfl rfl ?_
      refine SeqK.nil ?_
      exact ⟨i + 1, _, Wk.keep 44 [(1, .c (iC n)), (2, .lp 2 0), (4, .lp 4 0), (5, .c (iC 0)), (6, .lp 6 0), (7, iX .i64 (((i + 1) : Nat) : Int))] [(2, .box [.t (.v (.int .i64 t.c)), .t (.sl .un 5 (t.ps.map ptT))]), (4, .box [.t (.v (.int .i64 0)), .t (.v (.slice none 0 0))]), (6, .box [.t (.v (.int .i64 (timesI t.c n))), .ts (kt) .ne 5 (zs)])] (upd H (kt) (some (.tip 62 5 (zs).length))) rfl ⟨rfl, rfl, rfl, rfl, rfl, rfl, trivial⟩ ⟨rfl, rfl, rfl, trivial⟩ (fun _ _ h => h) rfl, by omega, kt, out, zs, ⟨by omega, hkt, by omega, hzs, put_z (scR_drop hi) hI h33⟩, rfl⟩
  ·
    refine AW.exit ?_
    refine eth_e ?_
    refine eth_e ?_
    refine exit_here ?_
    refine AW.seq ?_
    have hij : i = t.ps.length := by rw [List.length_map] at h18; omega
    subst hij
    rw [List.drop_length, scR, List.append_nil] at hI
    subst hI
    subst hzs
    refine AW.reg ?_
    refine SeqK.r (b_load (r := .g [_, _]) rfl Fx.ty24 rfl rfl rfl rfl rfl rfl) rfl ?_
    refine SeqK.xw 40 rfl (XW.tmA XW.ts) ?_
    refine SeqK.xw 40 rfl (XW.tmA XW.un) ?_
    refine SeqK.q (q_call _ rfl Fx.fn70 rfl (limited_any (refT t n) (refT_bok hb) (by have := refT_cnt t n; omega)) rfl) rfl rfl rfl ?_
    refine SeqK.q (q_extract _ rfl rfl rfl) rfl rfl rfl ?_
    refine SeqK.q (q_extract _ rfl rfl rfl) rfl rfl rfl ?_
    refine SeqK.r (b_store (r := [_, _]) rfl rfl Fx.ty24 rfl rfl rfl rfl rfl rfl) rfl ?_
    refine SeqK.q (q_asC rfl rfl) rfl rfl rfl ?_
    refine SeqK.nil ?_
    refine AW.ret ?_
    exact fin_x (x := .tup [_, _]) (H) (.cellL rfl rfl Fx.ty24 rfl rfl (.tmp rfl .nil)) rfl (fun j o h => by show upd H kt _ j = _; rw [upd_ne _ _ (fun e => by subst e; rw [hkt] at h; cases h)]; exact h) (⟨by rw [← refT_lim h]; rfl, rfl⟩)

end Go.Proofs.YtfbdokfcebpkaaaDoor.W
namespace Go.Proofs.YtfbdokfcebpkaaaDoor.W
open Go.RowKit E M
set_option linter.unusedVariables false
set_option linter.unusedSimpArgs false
set_option linter.unusedSectionVars false
/-- equal but for the wrap -/
def md (a b : Int) : Prop := ∃ k : Int, a = b + k * 18446744073709551616
theorem md.rfl' (a : Int) : md a a := ⟨0, by omega⟩
theorem md.symm {a b : Int} (h : md a b) : md b a := by obtain ⟨k, h⟩ := h; exact ⟨-k, by omega⟩
theorem md.trans {a b c : Int} (h : md a b) (h' : md b c) : md a c := by obtain ⟨k, h⟩ := h; obtain ⟨j, h'⟩ := h'; exact ⟨k + j, by omega⟩
theorem md.add {a b c d : Int} (h : md a b) (h' : md c d) : md (a + c) (b + d) := by obtain ⟨k, h⟩ := h; obtain ⟨j, h'⟩ := h'; exact ⟨k + j, by omega⟩
theorem md.mul {a b : Int} (h : md a b) (n : Int) : md (a * n) (b * n) := by obtain ⟨k, h⟩ := h; exact ⟨k * n, by subst h; grind⟩
theorem md_w (a : Int) : md (w a) a := by
  refine ⟨-((a + 9223372036854775808) / 18446744073709551616), ?_⟩
  show IntKind.i64.wrap a = _
  rw [IntKind.wrap_i64]; omega
theorem md_eq {a b : Int} (ha : R64 a) (hb : R64 b) (h : md a b) : a = b := by
  obtain ⟨k, h⟩ := h
  obtain ⟨h1, h2⟩ := ha
  obtain ⟨h3, h4⟩ := hb
  omega
theorem w_md {a b : Int} (h : md a b) : w a = w b := md_eq (w_R a) (w_R b) ((md_w a).trans (h.trans (md_w b).symm))
theorem w_eq {a : Int} (h : R64 a) : w a = a := md_eq (w_R a) h (md_w a)
def sumV (r : List RV) : List Pt → Int
  | [] => 0
  | p :: l => p.coef * (valP r p).1 + sumV r l
theorem valPs_sum (r : List RV) : ∀ (l : List Pt) (s : Int), R64 s → ((∀ p ∈ l, (valP r p).2 = true) → valPs r l s = (w (s + sumV r l), true)) ∧ (¬ (∀ p ∈ l, (valP r p).2 = true) → valPs r l s = (0, false))
  | [], s, h => by
    refine ⟨fun _ => ?_, fun h => absurd (by simp) h⟩
    rw [valPs, sumV, Int.add_zero, w_eq h]
  | p :: l, s, h => by
    obtain ⟨h1, h2⟩ := valPs_sum r l (w (s + w (p.coef * (valP r p).1))) (w_R _)
    rw [valPs, sumV]
    refine ⟨fun hp => ?_, fun hp => ?_⟩
    · rw [if_pos (hp p (by simp)), h1 fun q hq => hp q (by simp [hq])]
      refine congrArg (fun x => (x, true)) (w_md ?_)
      have e1 := ((md_w (s + w (p.coef * (valP r p).1))).trans ((md.rfl' s).add (md_w _))).add (md.rfl' (sumV r l))
      have e2 : s + p.coef * (valP r p).1 + sumV r l = s + (p.coef * (valP r p).1 + sumV r l) := by omega
      rw [← e2]; exact e1
    · split
      · rename_i hq
        exact h2 fun hh => hp fun q hq' => (List.mem_cons.1 hq').elim (fun e => e ▸ hq) (hh q)
      · rfl
theorem valT_sum {r : List RV} {t : Tm} (h : R64 t.c) (hp : ∀ p ∈ t.ps, (valP r p).2 = true) : valT r t = (w (t.c + sumV r t.ps), true) := by
  rw [valT_eq]; exact (valPs_sum r t.ps t.c h).1 hp
theorem valT_ok {r : List RV} {t : Tm} (h : R64 t.c) (hv : (valT r t).2 = true) : ∀ p ∈ t.ps, (valP r p).2 = true := by
  refine Classical.not_not.1 fun hn => ?_
  rw [valT_eq, (valPs_sum r t.ps t.c h).2 hn] at hv; cases hv
theorem valP_mul (r : List RV) (p : Pt) (n : Int) : valP r (mulP p n) = valP r p := by rw [valP_eq, valP_eq]; rfl
theorem sumV_mul (r : List RV) (n : Int) : ∀ l : List Pt, sumV r (l.map fun p => mulP p n) = sumV r l * n
  | [] => by simp [sumV]
  | p :: l => by
    rw [List.map_cons, sumV, sumV, sumV_mul r n l, valP_mul, Int.add_mul]
    show p.coef * n * (valP r p).1 + _ = _
    rw [Int.mul_right_comm]
theorem scale_val {r : List RV} {t : Tm} {n : Int} (h : vldT t = true) (hs : (scale t n).2 = 0) (hv : (valT r t).2 = true) : valT r (scale t n).1 = (w ((valT r t).1 * n), true) := by
  have hc := (vldT_bok h).c
  have hp := valT_ok hc hv
  unfold scale at hs ⊢
  by_cases hn : n = 0
  · subst hn
    rw [if_pos rfl, valT_eq, Int.mul_zero, w_eq (by decide)]; rfl
  · rw [if_neg hn] at hs ⊢
    obtain ⟨h1, h2⟩ := lim_ok hs
    rw [h1, valT_sum hc hp]
    have hm : R64 (mulT t n).c := by
      have := (smallB_iff.1 h2).1
      show -9223372036854775808 ≤ (mulT t n).c ∧ (mulT t n).c ≤ 9223372036854775807
      omega
    rw [valT_sum hm (fun p hp' => by
      obtain ⟨q, hq, rfl⟩ := List.mem_map.1 hp'
      rw [valP_mul]; exact hp q hq)]
    refine congrArg (fun x => (x, true)) (w_md ?_)
    show md (t.c * n + sumV r (t.ps.map fun p => mulP p n)) _
    rw [sumV_mul, ← Int.add_mul]
    exact ((md_w _).mul n).symm
theorem scale_vld' {t : Tm} {n : Int} (h : vldT t = true) : vldT (scale t n).1 = true := by
  by_cases hs : (scale t n).2 = 0
  · exact scale_vld h hs
  · unfold scale at hs ⊢
    split at hs
    · rw [if_pos (by assumption)]; exact vld0
    · rw [if_neg (by assumption)]
      unfold lim at hs ⊢
      split at hs
      · exact absurd rfl hs
      · rw [if_neg (by assumption)]; exact vld0
end Go.Proofs.YtfbdokfcebpkaaaDoor.W
namespace Go.Proofs.YtfbdokfcebpkaaaDoor.W
open Go.RowKit E M
set_option linter.unusedVariables false
set_option linter.unusedSimpArgs false
set_option linter.unusedSectionVars false

set_option maxRecDepth 20000 in
theorem scale_law (t : Tm) (rt : rgT t) (n : Int) (rn : R64 n) (r : List RV) (z : Nz) (hL : r.length ≤ 1000000000000000000) (H : Heap) : E.Spec Tryd.prog 9 [tmC t, iC n, rowC z r] H fun x H' => x = bX true := by
  refine Spec.enter Tryd.func9 rfl ?_
  refine AW.wk (Wk.keep 77 [(0, .c (tmC t)), (1, .c (iC n)), (2, .c (rowC z r))] [] (H) rfl ⟨rfl, rfl, rfl, trivial⟩ trivial (fun _ _ h => h) rfl) ?_
  refine AW.seq ?_
  refine AW.reg ?_
  refine SeqK.r (b_box (r := [_, _]) rfl rfl rfl rfl rfl rfl) rfl ?_
  refine SeqK.q (q_asC rfl rfl) rfl rfl rfl ?_
  refine SeqK.nil ?_
  refine AW.seq ?_
  refine AW.seq ?_
  refine AW.reg ?_
  refine SeqK.q (q_call _ rfl Fx.fn12 rfl (awake_any) rfl) rfl rfl rfl ?_
  refine SeqK.q (q_not rfl rfl) rfl rfl rfl ?_
  refine SeqK.q (q_mvC rfl rfl) rfl rfl rfl ?_
  refine SeqK.rOn (b_load (r := .g [_, _]) rfl Fx.ty24 rfl rfl rfl rfl rfl rfl) rfl rfl rfl ?_
  refine SeqK.on (q_call _ rfl Fx.fn13 rfl (lsmall_any t rt) rfl) rfl rfl rfl rfl rfl ?_
  refine SeqK.on (q_not rfl rfl) rfl rfl rfl rfl rfl ?_
  refine SeqK.q (q_pkF rfl rfl rfl) rfl rfl rfl ?_
  refine SeqK.qB (q_mvC rfl rfl) rfl rfl rfl (fun g22 => ?_) (fun g22 => ?_)
  ·
    refine SeqK.off rfl rfl rfl rfl rfl rfl ?_
    refine SeqK.off rfl rfl rfl rfl rfl rfl ?_
    refine SeqK.off rfl rfl rfl rfl rfl rfl ?_
    refine SeqK.q (q_pkT rfl rfl rfl) rfl rfl rfl ?_
    refine SeqK.nil ?_
    refine AW.condT rfl ?_
    refine AW.seq ?_
    refine AW.reg ?_
    refine SeqK.q (q_call _ rfl Fx.fn12 rfl (awake_any) rfl) rfl rfl rfl ?_
    refine SeqK.q (q_asC rfl rfl) rfl rfl rfl ?_
    refine SeqK.nil ?_
    refine AW.ret ?_
    exact fin_x (x := .c _) (_) (.tmp rfl .nil) rfl (fun _ _ h => h) (by first | rfl | (simp; done) | (simp [kv]))
  ·
    refine SeqK.on (q_mvC rfl rfl) rfl rfl rfl rfl rfl ?_
    refine SeqK.on (q_call _ rfl Fx.fn22 rfl (row_any r z hL) rfl) rfl rfl rfl rfl rfl ?_
    refine SeqK.on (q_not rfl rfl) rfl rfl rfl rfl rfl ?_
    refine SeqK.q (q_pkF rfl rfl rfl) rfl rfl rfl ?_
    refine SeqK.nil ?_
    refine AW.cond _ rfl (fun h26 => ?_) (fun h26 => ?_)
    ·
      refine AW.seq ?_
      refine AW.reg ?_
      refine SeqK.q (q_call _ rfl Fx.fn12 rfl (awake_any) rfl) rfl rfl rfl ?_
      refine SeqK.q (q_asC rfl rfl) rfl rfl rfl ?_
      refine SeqK.nil ?_
      refine AW.ret ?_
      exact fin_x (x := .c _) (_) (.tmp rfl .nil) rfl (fun _ _ h => h) (by first | rfl | (simp; done) | (simp [kv]))
    ·
      refine AW.skip ?_
      refine AW.seq ?_
      have kt := sm_iff' (by simpa using g22)
      have kc := scale_cnt t n
      have ks := sameB_self (t := (scale t n).1) (by omega)
      refine AW.reg ?_
      refine SeqK.r (b_load (r := .g [_, _]) rfl Fx.ty24 rfl rfl rfl rfl rfl rfl) rfl ?_
      refine SeqK.q (q_mvC rfl rfl) rfl rfl rfl ?_
      refine SeqK.q (q_call _ rfl Fx.fn30 rfl (scale_any t n (vldT_bok kt.2) (vldT_one kt.2) rn (by have := kt.1; omega)) rfl) rfl rfl rfl ?_
      refine SeqK.q (q_mvT rfl rfl) rfl rfl rfl ?_
      refine SeqK.q (q_extract _ rfl rfl rfl) rfl rfl rfl ?_
      refine SeqK.q (q_extract _ rfl rfl rfl) rfl rfl rfl ?_
      refine SeqK.r (b_alloc (r := [_, _]) rfl rfl Fx.ze24 rfl rfl rfl rfl) rfl ?_
      refine SeqK.r (b_store (r := [_, _]) rfl rfl Fx.ty24 rfl rfl rfl rfl rfl rfl) rfl ?_
      refine SeqK.q (q_asC rfl rfl) rfl rfl rfl ?_
      refine SeqK.nil ?_
      refine AW.seq ?_
      refine AW.reg ?_
      refine SeqK.r (b_load (r := .g [_, _]) rfl Fx.ty24 rfl rfl rfl rfl rfl rfl) rfl ?_
      refine SeqK.q (q_mvC rfl rfl) rfl rfl rfl ?_
      refine SeqK.q (q_call _ rfl Fx.fn31 rfl (rscale_any t n kt.2 rn (by have := kt.1; omega)) rfl) rfl rfl rfl ?_
      refine SeqK.q (q_mvT rfl rfl) rfl rfl rfl ?_
      refine SeqK.q (q_extract _ rfl rfl rfl) rfl rfl rfl ?_
      refine SeqK.q (q_extract _ rfl rfl rfl) rfl rfl rfl ?_
      refine SeqK.r (b_alloc (r := [_, _]) rfl rfl Fx.ze24 rfl rfl rfl rfl) rfl ?_
      refine SeqK.r (b_store (r := [_, _]) rfl rfl Fx.ty24 rfl rfl rfl rfl rfl rfl) rfl ?_
      refine SeqK.q (q_asC rfl rfl) rfl rfl rfl ?_
      refine SeqK.nil ?_
      refine AW.seq ?_
      refine AW.seq ?_
      refine AW.reg ?_
      refine SeqK.q (q_mvC rfl rfl) rfl rfl rfl ?_
      refine SeqK.q (q_mvC rfl rfl) rfl rfl rfl ?_
      refine SeqK.q (q_neq rfl rfl rfl) rfl rfl rfl ?_
      refine SeqK.qD (q_mvC rfl rfl) rfl rfl rfl (fun g43 => ?_) (fun g43 => ?_)
      ·
        exact absurd rfl g43
      ·
        refine SeqK.rOn (b_load (r := .g [_, _]) rfl Fx.ty24 rfl rfl rfl rfl rfl rfl) rfl rfl rfl ?_
        refine SeqK.rOn (b_load (r := .g [_, _]) rfl Fx.ty24 rfl rfl rfl rfl rfl rfl) rfl rfl rfl ?_
        refine SeqK.on (q_call _ rfl Fx.fn29 rfl (same_any (scale t n).1 (scale t n).1 (by have := scale_cnt t n; omega)) rfl) rfl rfl rfl rfl rfl ?_
        refine SeqK.on (q_not rfl rfl) rfl rfl rfl rfl rfl ?_
        refine SeqK.q (q_pkF rfl rfl rfl) rfl rfl rfl ?_
        refine SeqK.nil ?_
        refine AW.cond _ rfl (fun h48 => ?_) (fun h48 => ?_)
        ·
          exact absurd h48 (by simp [ks])
        ·
          refine AW.skip ?_
          refine AW.seq ?_
          refine AW.reg ?_
          refine SeqK.r (b_load (r := .g [_, _]) rfl Fx.ty24 rfl rfl rfl rfl rfl rfl) rfl ?_
          refine SeqK.q (q_mvC rfl rfl) rfl rfl rfl ?_
          refine SeqK.q (q_call _ rfl Fx.fn26 rfl (rvalue_any r z t kt.2 (by have := kt.1; omega)) rfl) rfl rfl rfl ?_
          refine SeqK.q (q_mvT rfl rfl) rfl rfl rfl ?_
          refine SeqK.q (q_extract _ rfl rfl rfl) rfl rfl rfl ?_
          refine SeqK.q (q_extract _ rfl rfl rfl) rfl rfl rfl ?_
          refine SeqK.q (q_asC rfl rfl) rfl rfl rfl ?_
          refine SeqK.q (q_asC rfl rfl) rfl rfl rfl ?_
          refine SeqK.nil ?_
          refine AW.seq ?_
          refine AW.reg ?_
          refine SeqK.r (b_load (r := .g [_, _]) rfl Fx.ty24 rfl rfl rfl rfl rfl rfl) rfl ?_
          refine SeqK.q (q_mvC rfl rfl) rfl rfl rfl ?_
          refine SeqK.q (q_call _ rfl Fx.fn25 rfl (value_any r z (scale t n).1 (scale_vld' kt.2) (by have := scale_cnt t n; omega)) rfl) rfl rfl rfl ?_
          refine SeqK.q (q_mvT rfl rfl) rfl rfl rfl ?_
          refine SeqK.q (q_extract _ rfl rfl rfl) rfl rfl rfl ?_
          refine SeqK.q (q_extract _ rfl rfl rfl) rfl rfl rfl ?_
          refine SeqK.q (q_asC rfl rfl) rfl rfl rfl ?_
          refine SeqK.q (q_asC rfl rfl) rfl rfl rfl ?_
          refine SeqK.nil ?_
          refine AW.seq ?_
          refine AW.reg ?_
          refine SeqK.q (q_mvC rfl rfl) rfl rfl rfl ?_
          refine SeqK.q (q_neq rfl rfl rfl) rfl rfl rfl ?_
          refine SeqK.qD (q_mvC rfl rfl) rfl rfl rfl (fun g63 => ?_) (fun g63 => ?_)
          ·
            refine SeqK.off rfl rfl rfl rfl rfl rfl ?_
            refine SeqK.off rfl rfl rfl rfl rfl rfl ?_
            refine SeqK.q (q_pkT rfl rfl rfl) rfl rfl rfl ?_
            refine SeqK.q (q_mvC rfl rfl) rfl rfl rfl ?_
            refine SeqK.off rfl rfl rfl rfl rfl rfl ?_
            refine SeqK.off rfl rfl rfl rfl rfl rfl ?_
            refine SeqK.offU rfl rfl rfl rfl rfl ?_
            refine SeqK.offU rfl rfl rfl rfl rfl ?_
            refine SeqK.offU rfl rfl rfl rfl rfl ?_
            refine SeqK.offU rfl rfl rfl rfl rfl ?_
            refine SeqK.offU rfl rfl rfl rfl rfl ?_
            refine SeqK.off rfl rfl rfl rfl rfl rfl ?_
            refine SeqK.q (q_pkT rfl rfl rfl) rfl rfl rfl ?_
            refine SeqK.q (q_asC rfl rfl) rfl rfl rfl ?_
            refine SeqK.nil ?_
            refine AW.ret ?_
            exact fin_x (x := .c _) (_) (.tmp rfl .nil) rfl (fun _ _ h => h) (by first | rfl | (simp; done) | (simp [kv]))
          ·
            refine SeqK.on (q_mvC rfl rfl) rfl rfl rfl rfl rfl ?_
            refine SeqK.on (q_not rfl rfl) rfl rfl rfl rfl rfl ?_
            refine SeqK.q (q_pkF rfl rfl rfl) rfl rfl rfl ?_
            refine SeqK.qB (q_mvC rfl rfl) rfl rfl rfl (fun g67 => ?_) (fun g67 => ?_)
            ·
              refine SeqK.off rfl rfl rfl rfl rfl rfl ?_
              refine SeqK.off rfl rfl rfl rfl rfl rfl ?_
              refine SeqK.offU rfl rfl rfl rfl rfl ?_
              refine SeqK.offU rfl rfl rfl rfl rfl ?_
              refine SeqK.offU rfl rfl rfl rfl rfl ?_
              refine SeqK.offU rfl rfl rfl rfl rfl ?_
              refine SeqK.offU rfl rfl rfl rfl rfl ?_
              refine SeqK.off rfl rfl rfl rfl rfl rfl ?_
              refine SeqK.q (q_pkT rfl rfl rfl) rfl rfl rfl ?_
              refine SeqK.q (q_asC rfl rfl) rfl rfl rfl ?_
              refine SeqK.nil ?_
              refine AW.ret ?_
              exact fin_x (x := .c _) (_) (.tmp rfl .nil) rfl (fun _ _ h => h) (by first | rfl | (simp; done) | (simp [kv]))
            ·
              have kv := scale_val (r := r) kt.2 (Classical.not_not.1 g63) (by simpa using g67)
              refine SeqK.on (q_mvC rfl rfl) rfl rfl rfl rfl rfl ?_
              refine SeqK.onB (q_mvC rfl rfl) rfl rfl rfl rfl rfl (fun g69 => ?_) (fun g69 => ?_)
              ·
                refine SeqK.on (q_mvC rfl rfl) rfl rfl rfl rfl rfl ?_
                refine SeqK.on (q_mvC rfl rfl) rfl rfl rfl rfl rfl ?_
                refine SeqK.on (q_mvC rfl rfl) rfl rfl rfl rfl rfl ?_
                refine SeqK.on (q_mul _ rfl rfl rfl ((rfl : IntKind.i64.wrap _ = w ((valT r t).1 * n)))) rfl rfl rfl rfl rfl ?_
                refine SeqK.on (q_eql rfl rfl rfl) rfl rfl rfl rfl rfl ?_
                refine SeqK.on (q_pkT rfl rfl rfl) rfl rfl rfl rfl rfl ?_
                refine SeqK.q (q_pkF rfl rfl rfl) rfl rfl rfl ?_
                refine SeqK.q (q_asC rfl rfl) rfl rfl rfl ?_
                refine SeqK.nil ?_
                refine AW.ret ?_
                exact fin_x (x := .c _) (_) (.tmp rfl .nil) rfl (fun _ _ h => h) (by first | rfl | (simp; done) | (simp [kv]))
              ·
                exact absurd g69 (by rw [kv]; simp)

end Go.Proofs.YtfbdokfcebpkaaaDoor.W
