/- Parts of the proof, one after the other: W28, W29, W30, W31. No condition. -/
import Derived.Test.YtfbdokfcebpkaaaDoorM15
namespace Go.Proofs.YtfbdokfcebpkaaaDoor.W
open Go.RowKit E M
set_option linter.unusedVariables false
set_option linter.unusedSimpArgs false
set_option linter.unusedSectionVars false

set_option maxRecDepth 20000 in
theorem rcnN_of (t : Tm) (L : Nat) (hL : L ≤ 100000) (hr : t.cnt ≤ 100000) (ih : ∀ p ∈ t.ps, ∀ o ∈ p.of, ∀ M : Nat, M ≤ L → Pure Tryd.prog 18 [tmC o, iC (M : Int)] (.c (iC ((min o.cnt (M + 1) : Nat) : Int)))) : Pure Tryd.prog 18 [tmC t, iC (L : Int)] (.c (iC ((min t.cnt (L + 1) : Nat) : Int))) := by
  intro H
  refine Spec.enter Tryd.func18 rfl ?_
  refine AW.wk (Wk.keep 54 [(0, .c (tmC t)), (1, .c (iC (L : Int)))] [] (H) rfl ⟨rfl, rfl, trivial⟩ trivial (fun _ _ h => h) rfl) ?_
  refine AW.seq ?_
  refine AW.reg ?_
  refine SeqK.r (b_box (r := [_, _]) rfl rfl rfl rfl rfl rfl) rfl ?_
  refine SeqK.q (q_asC rfl rfl) rfl rfl rfl ?_
  refine SeqK.nil ?_
  refine AW.seq ?_
  have hlt := len_ps t
  have hct := Tm.cnt_eq t
  refine AW.reg ?_
  refine SeqK.q (q_asC rfl rfl) rfl rfl rfl ?_
  refine SeqK.nil ?_
  refine AW.seq ?_
  refine AW.seq ?_
  refine AW.reg ?_
  refine SeqK.q (q_asC rfl rfl) rfl rfl rfl ?_
  refine SeqK.nil ?_
  refine AW.block ?_
  refine AW.loop (fun (i : Nat) s => (i ≤ t.ps.length) ∧ s = ⟨54, sp [(1, .c (iC (L : Int))), (2, .lp 2 0), (4, .c (iC 0)), (5, iX .i64 ((min (1 + cntPs (t.ps.take i)) (L + 1) : Nat) : Int)), (6, iX .i64 ((i : Nat) : Int))], lv [(2, .box [.t (.v (.int .i64 t.c)), .t (.sl .un 5 (t.ps.map ptT))])], H⟩) (fun i => t.ps.length - i) 0 ⟨_, Wk.keep 54 [(1, .c (iC (L : Int))), (2, .lp 2 0), (4, .c (iC 0)), (5, iX .i64 ((min (1 + cntPs (t.ps.take ((0 : Nat)))) (L + 1) : Nat) : Int)), (6, iX .i64 ((((0 : Nat)) : Nat) : Int))] [(2, .box [.t (.v (.int .i64 t.c)), .t (.sl .un 5 (t.ps.map ptT))])] (H) rfl ⟨rfl, rfl, rfl, rfl, rfl, trivial⟩ ⟨rfl, trivial⟩ (fun _ _ h => h) rfl, Nat.zero_le _, rfl⟩ (fun i s hs => ?_)
  obtain ⟨hi0, rfl⟩ := hs
  refine AW.seq ?_
  refine AW.seq ?_
  refine AW.reg ?_
  refine SeqK.q (q_mvC rfl rfl) rfl rfl rfl ?_
  refine SeqK.q (q_fieldL _ rfl Fx.fl24_1 rfl rfl) rfl rfl rfl ?_
  refine SeqK.r (b_load (r := .a _) rfl Fx.ty22 rfl rfl rfl rfl rfl rfl) rfl ?_
  refine SeqK.q (q_len rfl Fx.un22 rfl) rfl rfl rfl ?_
  refine SeqK.q (q_lss rfl rfl rfl) rfl rfl rfl ?_
  refine SeqK.qD (q_mvC rfl rfl) rfl rfl rfl (fun g13 => ?_) (fun g13 => ?_)
  ·
    have hi : i < t.ps.length := by rw [List.length_map] at g13; omega
    have hlo := len_of (List.getElem_mem hi)
    have hcl := cntTs_le hi
    have hct1 := cntPs_take hi
    refine SeqK.on (q_mvC rfl rfl) rfl rfl rfl rfl rfl ?_
    refine SeqK.on (q_mvC rfl rfl) rfl rfl rfl rfl rfl ?_
    refine SeqK.on (q_leq rfl rfl rfl) rfl rfl rfl rfl rfl ?_
    refine SeqK.q (q_pkT rfl rfl rfl) rfl rfl rfl ?_
    refine SeqK.nil ?_
    refine AW.condD rfl (fun h17 => ?_) (fun h17 => ?_)
    ·
      refine AW.skip ?_
      refine AW.seq ?_
      refine AW.block ?_
      refine AW.seq ?_
      refine AW.reg ?_
      refine SeqK.q (q_mvC rfl rfl) rfl rfl rfl ?_
      refine SeqK.q (q_add _ rfl rfl rfl ((by rw [w64 (by omega) (by omega)]; have e0 : cntTs (t.ps[i].of.take 0) = 0 := rfl; omega : IntKind.i64.wrap _ = ((min (1 + cntPs (t.ps.take i) + 1 + cntTs (t.ps[i].of.take 0)) (L + 1) : Nat) : Int)))) rfl rfl rfl ?_
      refine SeqK.q (q_asC rfl rfl) rfl rfl rfl ?_
      refine SeqK.nil ?_
      refine AW.seq ?_
      refine AW.reg ?_
      refine SeqK.q (q_asC rfl rfl) rfl rfl rfl ?_
      refine SeqK.nil ?_
      refine AW.block ?_
      refine AW.loop (fun (j : Nat) s => (j ≤ t.ps[i].of.length) ∧ s = ⟨54, sp [(1, .c (iC (L : Int))), (2, .lp 2 0), (4, .c (iC 0)), (5, iX .i64 ((min (1 + cntPs (t.ps.take i) + 1 + cntTs (t.ps[i].of.take j)) (L + 1) : Nat) : Int)), (6, iX .i64 ((i : Nat) : Int)), (7, iX .i64 ((j : Nat) : Int))], lv [(2, .box [.t (.v (.int .i64 t.c)), .t (.sl .un 5 (t.ps.map ptT))])], H⟩) (fun j => t.ps[i].of.length - j) 0 ⟨_, Wk.keep 54 [(1, .c (iC (L : Int))), (2, .lp 2 0), (4, .c (iC 0)), (5, iX .i64 ((min (1 + cntPs (t.ps.take i) + 1 + cntTs (t.ps[i].of.take ((0 : Nat)))) (L + 1) : Nat) : Int)), (6, iX .i64 ((i : Nat) : Int)), (7, iX .i64 ((((0 : Nat)) : Nat) : Int))] [(2, .box [.t (.v (.int .i64 t.c)), .t (.sl .un 5 (t.ps.map ptT))])] (H) rfl ⟨rfl, rfl, rfl, rfl, rfl, rfl, trivial⟩ ⟨rfl, trivial⟩ (fun _ _ h => h) rfl, Nat.zero_le _, rfl⟩ (fun j s hs => ?_)
      obtain ⟨hj0, rfl⟩ := hs
      refine AW.seq ?_
      refine AW.seq ?_
      refine AW.reg ?_
      refine SeqK.q (q_mvC rfl rfl) rfl rfl rfl ?_
      refine SeqK.q (q_fieldL _ rfl Fx.fl24_1 rfl rfl) rfl rfl rfl ?_
      refine SeqK.r (b_load (r := .a _) rfl Fx.ty22 rfl rfl rfl rfl rfl rfl) rfl ?_
      refine SeqK.q (q_mvC rfl rfl) rfl rfl rfl ?_
      refine SeqK.q (q_index _ rfl Fx.sl22 rfl rfl (by omega) (idx_map (f := ptT) hi)) rfl rfl rfl ?_
      refine SeqK.q (q_fieldP _ rfl Fx.fl62_4 rfl rfl) rfl rfl rfl ?_
      refine SeqK.q (q_load (.a _) rfl Fx.ty60 rfl rfl rfl) rfl rfl rfl ?_
      refine SeqK.q (q_len rfl Fx.un60 rfl) rfl rfl rfl ?_
      refine SeqK.q (q_lss rfl rfl rfl) rfl rfl rfl ?_
      refine SeqK.qD (q_mvC rfl rfl) rfl rfl rfl (fun g31 => ?_) (fun g31 => ?_)
      ·
        have hj : j < t.ps[i].of.length := by rw [List.length_map] at g31; omega
        have hct2 := cntTs_take hj
        refine SeqK.on (q_mvC rfl rfl) rfl rfl rfl rfl rfl ?_
        refine SeqK.on (q_mvC rfl rfl) rfl rfl rfl rfl rfl ?_
        refine SeqK.on (q_leq rfl rfl rfl) rfl rfl rfl rfl rfl ?_
        refine SeqK.q (q_pkT rfl rfl rfl) rfl rfl rfl ?_
        refine SeqK.nil ?_
        refine AW.condD rfl (fun h35 => ?_) (fun h35 => ?_)
        ·
          have hS : 1 + cntPs (t.ps.take i) + 1 + cntTs (t.ps[i].of.take j) ≤ L := by omega
          refine AW.skip ?_
          refine AW.seq ?_
          refine AW.block ?_
          refine AW.reg ?_
          refine SeqK.q (q_mvC rfl rfl) rfl rfl rfl ?_
          refine SeqK.q (q_fieldL _ rfl Fx.fl24_1 rfl rfl) rfl rfl rfl ?_
          refine SeqK.r (b_load (r := .a _) rfl Fx.ty22 rfl rfl rfl rfl rfl rfl) rfl ?_
          refine SeqK.q (q_mvC rfl rfl) rfl rfl rfl ?_
          refine SeqK.q (q_index _ rfl Fx.sl22 rfl rfl (by omega) (idx_map (f := ptT) hi)) rfl rfl rfl ?_
          refine SeqK.q (q_fieldP _ rfl Fx.fl62_4 rfl rfl) rfl rfl rfl ?_
          refine SeqK.q (q_load (.a _) rfl Fx.ty60 rfl rfl rfl) rfl rfl rfl ?_
          refine SeqK.q (q_mvC rfl rfl) rfl rfl rfl ?_
          refine SeqK.q (q_index _ rfl Fx.sl60 rfl rfl (by omega) (idx_tm hj)) rfl rfl rfl ?_
          refine SeqK.q (q_load (.g [_, _]) rfl Fx.ty24 rfl rfl rfl) rfl rfl rfl ?_
          refine SeqK.q (q_mvC rfl rfl) rfl rfl rfl ?_
          refine SeqK.q (q_mvC rfl rfl) rfl rfl rfl ?_
          refine SeqK.q (q_sub _ rfl rfl rfl ((by rw [w64 (by omega) (by omega)]; omega : IntKind.i64.wrap _ = ((L - (1 + cntPs (t.ps.take i) + 1 + cntTs (t.ps[i].of.take j)) : Nat) : Int)))) rfl rfl rfl ?_
          refine SeqK.q (q_call _ rfl Fx.fn18 rfl (ih _ (List.getElem_mem hi) _ (List.getElem_mem hj) _ (by omega)) rfl) rfl rfl rfl ?_
          refine SeqK.q (q_add _ rfl rfl rfl ((by rw [w64 (by omega) (by omega)]; omega : IntKind.i64.wrap _ = ((min (1 + cntPs (t.ps.take i) + 1 + cntTs (t.ps[i].of.take (j + 1))) (L + 1) : Nat) : Int)))) rfl rfl rfl ?_
          refine SeqK.q (q_asC rfl rfl) rfl rfl rfl ?_
          refine SeqK.nil ?_
          refine AW.reg ?_
          refine SeqK.q (q_mvC rfl rfl) rfl rfl rfl ?_
          refine SeqK.q (q_add _ rfl rfl rfl (w64 (by omega) (by omega))) rfl rfl rfl ?_
          refine SeqK.q (q_asC rfl rfl) rfl rfl rfl ?_
          refine SeqK.nil ?_
          exact ⟨j + 1, _, Wk.keep 54 [(1, .c (iC (L : Int))), (2, .lp 2 0), (4, .c (iC 0)), (5, iX .i64 ((min (1 + cntPs (t.ps.take i) + 1 + cntTs (t.ps[i].of.take (j + 1))) (L + 1) : Nat) : Int)), (6, iX .i64 ((i : Nat) : Int)), (7, iX .i64 (((j + 1) : Nat) : Int))] [(2, .box [.t (.v (.int .i64 t.c)), .t (.sl .un 5 (t.ps.map ptT))])] (H) rfl ⟨rfl, rfl, rfl, rfl, rfl, rfl, trivial⟩ ⟨rfl, trivial⟩ (fun _ _ h => h) rfl, by omega, hj, rfl⟩
        ·
          refine AW.exit ?_
          refine eth_e ?_
          refine eth_e ?_
          refine exit_here ?_
          refine AW.wk (Wk.keep 54 [(1, .c (iC (L : Int))), (2, .lp 2 0), (4, .c (iC 0)), (5, iX .i64 ((min (1 + cntPs (t.ps.take (i + 1))) (L + 1) : Nat) : Int)), (6, iX .i64 ((i : Nat) : Int))] [(2, .box [.t (.v (.int .i64 t.c)), .t (.sl .un 5 (t.ps.map ptT))])] (H) rfl ⟨rfl, rfl, rfl, iXe (by have := cntTs_take_le t.ps[i].of j; first | (have hjl : j = t.ps[i].of.length := (by rw [List.length_map] at g31; omega); subst hjl; rw [List.take_length]; omega) | omega), rfl, trivial⟩ ⟨rfl, trivial⟩ (fun _ _ h => h) rfl) ?_
          refine AW.reg ?_
          refine SeqK.q (q_mvC rfl rfl) rfl rfl rfl ?_
          refine SeqK.q (q_add _ rfl rfl rfl (w64 (by omega) (by omega))) rfl rfl rfl ?_
          refine SeqK.q (q_asC rfl rfl) rfl rfl rfl ?_
          refine SeqK.nil ?_
          exact ⟨i + 1, _, Wk.keep 54 [(1, .c (iC (L : Int))), (2, .lp 2 0), (4, .c (iC 0)), (5, iX .i64 ((min (1 + cntPs (t.ps.take (i + 1))) (L + 1) : Nat) : Int)), (6, iX .i64 (((i + 1) : Nat) : Int))] [(2, .box [.t (.v (.int .i64 t.c)), .t (.sl .un 5 (t.ps.map ptT))])] (H) rfl ⟨rfl, rfl, rfl, rfl, rfl, trivial⟩ ⟨rfl, trivial⟩ (fun _ _ h => h) rfl, by omega, hi, rfl⟩
      ·
        refine SeqK.off rfl rfl rfl rfl rfl rfl ?_
        refine SeqK.off rfl rfl rfl rfl rfl rfl ?_
        refine SeqK.off rfl rfl rfl rfl rfl rfl ?_
        refine SeqK.q (q_pkF rfl rfl rfl) rfl rfl rfl ?_
        refine SeqK.nil ?_
        refine AW.condF rfl ?_
        refine AW.exit ?_
        refine eth_e ?_
        refine eth_e ?_
        refine exit_here ?_
        refine AW.wk (Wk.keep 54 [(1, .c (iC (L : Int))), (2, .lp 2 0), (4, .c (iC 0)), (5, iX .i64 ((min (1 + cntPs (t.ps.take (i + 1))) (L + 1) : Nat) : Int)), (6, iX .i64 ((i : Nat) : Int))] [(2, .box [.t (.v (.int .i64 t.c)), .t (.sl .un 5 (t.ps.map ptT))])] (H) rfl ⟨rfl, rfl, rfl, iXe (by have := cntTs_take_le t.ps[i].of j; first | (have hjl : j = t.ps[i].of.length := (by rw [List.length_map] at g31; omega); subst hjl; rw [List.take_length]; omega) | omega), rfl, trivial⟩ ⟨rfl, trivial⟩ (fun _ _ h => h) rfl) ?_
        refine AW.reg ?_
        refine SeqK.q (q_mvC rfl rfl) rfl rfl rfl ?_
        refine SeqK.q (q_add _ rfl rfl rfl (w64 (by omega) (by omega))) rfl rfl rfl ?_
        refine SeqK.q (q_asC rfl rfl) rfl rfl rfl ?_
        refine SeqK.nil ?_
        exact ⟨i + 1, _, Wk.keep 54 [(1, .c (iC (L : Int))), (2, .lp 2 0), (4, .c (iC 0)), (5, iX .i64 ((min (1 + cntPs (t.ps.take (i + 1))) (L + 1) : Nat) : Int)), (6, iX .i64 (((i + 1) : Nat) : Int))] [(2, .box [.t (.v (.int .i64 t.c)), .t (.sl .un 5 (t.ps.map ptT))])] (H) rfl ⟨rfl, rfl, rfl, rfl, rfl, trivial⟩ ⟨rfl, trivial⟩ (fun _ _ h => h) rfl, by omega, hi, rfl⟩
    ·
      refine AW.exit ?_
      refine eth_e ?_
      refine eth_e ?_
      refine exit_here ?_
      refine AW.seq ?_
      refine AW.reg ?_
      refine SeqK.q (q_mvC rfl rfl) rfl rfl rfl ?_
      refine SeqK.q (q_asC rfl rfl) rfl rfl rfl ?_
      refine SeqK.nil ?_
      refine AW.ret ?_
      exact fin_x (x := .c _) (H) (.tmp rfl .nil) rfl (fun _ _ h => h) (⟨by rw [show min t.cnt (L + 1) = min (1 + cntPs (t.ps.take i)) (L + 1) by have := cntPs_take_le t.ps i; first | (have hil : i = t.ps.length := (by rw [List.length_map] at g13; omega); subst hil; rw [List.take_length]; omega) | omega], rfl⟩)
  ·
    refine SeqK.off rfl rfl rfl rfl rfl rfl ?_
    refine SeqK.off rfl rfl rfl rfl rfl rfl ?_
    refine SeqK.off rfl rfl rfl rfl rfl rfl ?_
    refine SeqK.q (q_pkF rfl rfl rfl) rfl rfl rfl ?_
    refine SeqK.nil ?_
    refine AW.condF rfl ?_
    refine AW.exit ?_
    refine eth_e ?_
    refine eth_e ?_
    refine exit_here ?_
    refine AW.seq ?_
    refine AW.reg ?_
    refine SeqK.q (q_mvC rfl rfl) rfl rfl rfl ?_
    refine SeqK.q (q_asC rfl rfl) rfl rfl rfl ?_
    refine SeqK.nil ?_
    refine AW.ret ?_
    exact fin_x (x := .c _) (H) (.tmp rfl .nil) rfl (fun _ _ h => h) (⟨by rw [show min t.cnt (L + 1) = min (1 + cntPs (t.ps.take i)) (L + 1) by have := cntPs_take_le t.ps i; first | (have hil : i = t.ps.length := (by rw [List.length_map] at g13; omega); subst hil; rw [List.take_length]; omega) | omega], rfl⟩)

theorem rcnN_any (t : Tm) : t.cnt ≤ 100000 → ∀ L : Nat, L ≤ 100000 → Pure Tryd.prog 18 [tmC t, iC (L : Int)] (.c (iC ((min t.cnt (L + 1) : Nat) : Int))) := by
  induction t using Tm.ind with
  | h t ih =>
    intro hr L hL
    exact rcnN_of t L hL hr fun p hp o ho M hM => ih p hp o ho (by have := cnt_of hp ho; omega) M (by omega)
theorem nd_t {p : Prop} [Decidable p] (h : (!decide p) = true) : ¬ p := by simpa using h
theorem nd_f {p : Prop} [Decidable p] (h : (!decide p) = false) : p := by simpa using h
set_option maxRecDepth 20000 in
theorem limited_any (t : Tm) (h : bokT t) (hN : t.cnt ≤ 100000) : Pure Tryd.prog 70 [tmC t] (trC (lim t)) := by
  intro H
  refine Spec.enter Tryd.func70 rfl ?_
  refine AW.wk (Wk.keep 9 [(0, .c (tmC t))] [] (H) rfl ⟨rfl, trivial⟩ trivial (fun _ _ h => h) rfl) ?_
  refine AW.seq ?_
  refine AW.reg ?_
  refine SeqK.r (b_box (r := [_, _]) rfl rfl rfl rfl rfl rfl) rfl ?_
  refine SeqK.r (b_alloc (r := [_, _]) rfl rfl Fx.ze24 rfl rfl rfl rfl) rfl ?_
  refine SeqK.q (q_asC rfl rfl) rfl rfl rfl ?_
  refine SeqK.nil ?_
  refine AW.seq ?_
  refine AW.seq ?_
  refine AW.reg ?_
  refine SeqK.r (b_load (r := .g [_, _]) rfl Fx.ty24 rfl rfl rfl rfl rfl rfl) rfl ?_
  refine SeqK.q (q_call _ rfl Fx.fn59 rfl (rsmall_any t h hN) rfl) rfl rfl rfl ?_
  refine SeqK.q (q_not rfl rfl) rfl rfl rfl ?_
  refine SeqK.nil ?_
  refine AW.cond _ rfl (fun h6 => ?_) (fun h6 => ?_)
  ·
    refine AW.seq ?_
    refine AW.reg ?_
    refine SeqK.q (q_build2 (zs := [_, _]) (r := [_, _]) [(0, 1), (1, 1)] _ rfl Fx.ze24 rfl Fx.bp24 rfl rfl rfl rfl) rfl rfl rfl ?_
    refine SeqK.xw 7 rfl XW.tm0 ?_
    refine SeqK.r (b_store (r := [_, _]) rfl rfl Fx.ty24 rfl rfl rfl rfl rfl rfl) rfl ?_
    refine SeqK.q (q_asC rfl rfl) rfl rfl rfl ?_
    refine SeqK.nil ?_
    refine AW.ret ?_
    exact fin_x (x := .tup [_, _]) (H) (.cellL rfl rfl Fx.ty24 rfl rfl (.tmp rfl .nil)) rfl (fun _ _ h => h) (⟨by rw [lim, if_neg (by intro hs; rw [hs] at h6; cases h6)]; rfl, rfl⟩)
  ·
    refine AW.skip ?_
    refine AW.seq ?_
    refine AW.reg ?_
    refine SeqK.r (b_load (r := .g [_, _]) rfl Fx.ty24 rfl rfl rfl rfl rfl rfl) rfl ?_
    refine SeqK.r (b_store (r := [_, _]) rfl rfl Fx.ty24 rfl rfl rfl rfl rfl rfl) rfl ?_
    refine SeqK.q (q_asC rfl rfl) rfl rfl rfl ?_
    refine SeqK.nil ?_
    refine AW.ret ?_
    exact fin_x (x := .tup [_, _]) (H) (.cellL rfl rfl Fx.ty24 rfl rfl (.tmp rfl .nil)) rfl (fun _ _ h => h) (⟨by rw [lim, if_pos (by simpa using h6)]; rfl, rfl⟩)

set_option maxRecDepth 20000 in
theorem rdiv_any (t : Tm) (b : Int) (hv : vldT t = true) (hN : t.cnt ≤ 90000) : Pure Tryd.prog 33 [tmC t, iC b] (trC (div t b)) := by
  intro H
  refine Spec.enter Tryd.func33 rfl ?_
  refine AW.wk (Wk.keep 31 [(0, .c (tmC t)), (1, .c (iC b))] [] (H) rfl ⟨rfl, rfl, trivial⟩ trivial (fun _ _ h => h) rfl) ?_
  refine AW.seq ?_
  refine AW.reg ?_
  refine SeqK.r (b_box (r := [_, _]) rfl rfl rfl rfl rfl rfl) rfl ?_
  refine SeqK.r (b_alloc (r := [_, _]) rfl rfl Fx.ze24 rfl rfl rfl rfl) rfl ?_
  refine SeqK.q (q_asC rfl rfl) rfl rfl rfl ?_
  refine SeqK.nil ?_
  refine AW.seq ?_
  refine AW.seq ?_
  refine AW.reg ?_
  refine SeqK.q (q_mvC rfl rfl) rfl rfl rfl ?_
  refine SeqK.q (q_call _ rfl Fx.fn58 rfl (within_any _ _ _) rfl) rfl rfl rfl ?_
  refine SeqK.q (q_not rfl rfl) rfl rfl rfl ?_
  refine SeqK.nil ?_
  refine AW.cond _ rfl (fun h8 => ?_) (fun h8 => ?_)
  ·
    have k8 := nd_t h8
    refine AW.seq ?_
    refine AW.reg ?_
    refine SeqK.q (q_build2 (zs := [_, _]) (r := [_, _]) [(0, 1), (1, 1)] _ rfl Fx.ze24 rfl Fx.bp24 rfl rfl rfl rfl) rfl rfl rfl ?_
    refine SeqK.xw 9 rfl XW.tm0 ?_
    refine SeqK.r (b_store (r := [_, _]) rfl rfl Fx.ty24 rfl rfl rfl rfl rfl rfl) rfl ?_
    refine SeqK.q (q_asC rfl rfl) rfl rfl rfl ?_
    refine SeqK.nil ?_
    refine AW.ret ?_
    exact fin_x (x := .tup [_, _]) (H) (.cellL rfl rfl Fx.ty24 rfl rfl (.tmp rfl .nil)) rfl (fun _ _ h => h) (⟨by rw [div, if_pos (by omega)]; rfl, rfl⟩)
  ·
    have k8 := nd_f (by simpa using h8)
    refine AW.skip ?_
    refine AW.seq ?_
    refine AW.seq ?_
    refine AW.reg ?_
    refine SeqK.q (q_mvC rfl rfl) rfl rfl rfl ?_
    refine SeqK.q (q_eql rfl rfl rfl) rfl rfl rfl ?_
    refine SeqK.nil ?_
    refine AW.condD rfl (fun h11 => ?_) (fun h11 => ?_)
    ·
      refine AW.seq ?_
      refine AW.reg ?_
      refine SeqK.r (b_load (r := .g [_, _]) rfl Fx.ty24 rfl rfl rfl rfl rfl rfl) rfl ?_
      refine SeqK.r (b_store (r := [_, _]) rfl rfl Fx.ty24 rfl rfl rfl rfl rfl rfl) rfl ?_
      refine SeqK.q (q_asC rfl rfl) rfl rfl rfl ?_
      refine SeqK.nil ?_
      refine AW.ret ?_
      exact fin_x (x := .tup [_, _]) (H) (.cellL rfl rfl Fx.ty24 rfl rfl (.tmp rfl .nil)) rfl (fun _ _ h => h) (⟨by rw [div, if_neg (by omega), if_pos h11]; rfl, rfl⟩)
    ·
      refine AW.skip ?_
      refine AW.seq ?_
      refine AW.seq ?_
      refine AW.reg ?_
      refine SeqK.q (q_fieldL _ rfl Fx.fl24_1 rfl rfl) rfl rfl rfl ?_
      refine SeqK.r (b_load (r := .a _) rfl Fx.ty22 rfl rfl rfl rfl rfl rfl) rfl ?_
      refine SeqK.q (q_len rfl Fx.un22 rfl) rfl rfl rfl ?_
      refine SeqK.q (q_eql rfl rfl rfl) rfl rfl rfl ?_
      refine SeqK.nil ?_
      refine AW.condD rfl (fun h16 => ?_) (fun h16 => ?_)
      ·
        refine AW.seq ?_
        refine AW.reg ?_
        refine SeqK.q (q_fieldL _ rfl Fx.fl24_0 rfl rfl) rfl rfl rfl ?_
        refine SeqK.r (b_load (r := .a _) rfl Fx.ty2 rfl rfl rfl rfl rfl rfl) rfl ?_
        refine SeqK.q (q_mvC rfl rfl) rfl rfl rfl ?_
        refine SeqK.q (q_call _ rfl Fx.fn34 rfl (rfloor_any _ _ (vldT_bok hv).c (by omega)) rfl) rfl rfl rfl ?_
        refine SeqK.q (q_build2 (zs := [_, _]) (r := [_, _]) [(0, 1), (1, 1)] _ rfl Fx.ze24 rfl Fx.bp24 rfl rfl rfl rfl) rfl rfl rfl ?_
        refine SeqK.xw 21 rfl XW.tm0 ?_
        refine SeqK.r (b_store (r := [_, _]) rfl rfl Fx.ty24 rfl rfl rfl rfl rfl rfl) rfl ?_
        refine SeqK.q (q_asC rfl rfl) rfl rfl rfl ?_
        refine SeqK.nil ?_
        refine AW.ret ?_
        exact fin_x (x := .tup [_, _]) (H) (.cellL rfl rfl Fx.ty24 rfl rfl (.tmp rfl .nil)) rfl (fun _ _ h => h) (⟨by rw [div, if_neg (by omega), if_neg h11, if_pos (by rw [List.length_map] at h16; omega)]; rfl, rfl⟩)
      ·
        refine AW.skip ?_
        refine AW.seq ?_
        refine AW.reg ?_
        refine SeqK.q (q_mvC rfl rfl) rfl rfl rfl ?_
        refine SeqK.r (b_load (r := .g [_, _]) rfl Fx.ty24 rfl rfl rfl rfl rfl rfl) rfl ?_
        refine SeqK.q (q_buildSlice _ rfl Fx.el60 rfl (by decide) rfl) rfl rfl rfl ?_
        refine SeqK.xw 24 rfl (xwOf (l := [t]) (h := by simp) rfl) ?_
        refine SeqK.q (q_build2 (zs := [_, _, _, _, _]) (r := [_, _, _, _, _]) [(0, 1), (1, 1), (2, 1), (3, 1), (4, 1)] _ rfl Fx.ze62 rfl Fx.bp62 rfl rfl rfl rfl) rfl rfl rfl ?_
        refine SeqK.q (q_buildSlice _ rfl Fx.el22 rfl (by decide) rfl) rfl rfl rfl ?_
        refine SeqK.xw 26 rfl .un ?_
        refine SeqK.q (q_build2 (zs := [_, _]) (r := [_, _]) [(0, 1), (1, 1)] _ rfl Fx.ze24 rfl Fx.bp24 rfl rfl rfl rfl) rfl rfl rfl ?_
        refine SeqK.q (q_call _ rfl Fx.fn70 rfl (limited_any (divT t b) (divT_bok hv (by omega) (by omega)) (by rw [divT_cnt]; omega)) rfl) rfl rfl rfl ?_
        refine SeqK.q (q_extract _ rfl rfl rfl) rfl rfl rfl ?_
        refine SeqK.q (q_extract _ rfl rfl rfl) rfl rfl rfl ?_
        refine SeqK.r (b_store (r := [_, _]) rfl rfl Fx.ty24 rfl rfl rfl rfl rfl rfl) rfl ?_
        refine SeqK.q (q_asC rfl rfl) rfl rfl rfl ?_
        refine SeqK.nil ?_
        refine AW.ret ?_
        exact fin_x (x := .tup [_, _]) (H) (.cellL rfl rfl Fx.ty24 rfl rfl (.tmp rfl .nil)) rfl (fun _ _ h => h) (⟨by rw [div, if_neg (by omega), if_neg h11, if_neg (by rw [List.length_map] at h16; omega)]; rfl, rfl⟩)

abbrev sameB (t x : Tm) : Bool := decide (t.cnt ≤ 400) && decide (cmpT t x = 0)
theorem sameB_self {t : Tm} (h : t.cnt ≤ 400) : sameB t t = true := by simp [sameB, h, cmpT_self]

set_option maxRecDepth 20000 in
theorem same_any (t x : Tm) (hN : t.cnt ≤ 100000) : Pure Tryd.prog 29 [tmC t, tmC x] (.c (bC (sameB t x))) := by
  intro H
  refine Spec.enter Tryd.func29 rfl ?_
  refine AW.wk (Wk.keep 14 [(0, .c (tmC t)), (1, .c (tmC x))] [] (H) rfl ⟨rfl, rfl, trivial⟩ trivial (fun _ _ h => h) rfl) ?_
  refine AW.seq ?_
  refine AW.reg ?_
  refine SeqK.r (b_box (r := [_, _]) rfl rfl rfl rfl rfl rfl) rfl ?_
  refine SeqK.r (b_box (r := [_, _]) rfl rfl rfl rfl rfl rfl) rfl ?_
  refine SeqK.q (q_asC rfl rfl) rfl rfl rfl ?_
  refine SeqK.nil ?_
  refine AW.seq ?_
  refine AW.reg ?_
  refine SeqK.r (b_load (r := .g [_, _]) rfl Fx.ty24 rfl rfl rfl rfl rfl rfl) rfl ?_
  refine SeqK.q (q_call _ rfl Fx.fn18 rfl (rcnN_any t hN 400 (by decide)) rfl) rfl rfl rfl ?_
  refine SeqK.q (q_leq rfl rfl rfl) rfl rfl rfl ?_
  refine SeqK.qD (q_mvC rfl rfl) rfl rfl rfl (fun g8 => ?_) (fun g8 => ?_)
  ·
    refine SeqK.rOn (b_load (r := .g [_, _]) rfl Fx.ty24 rfl rfl rfl rfl rfl rfl) rfl rfl rfl ?_
    refine SeqK.rOn (b_load (r := .g [_, _]) rfl Fx.ty24 rfl rfl rfl rfl rfl rfl) rfl rfl rfl ?_
    refine SeqK.on (q_call _ rfl Fx.fn15 rfl (rcmp_any t (by omega) x) rfl) rfl rfl rfl rfl rfl ?_
    refine SeqK.on (q_eql rfl rfl rfl) rfl rfl rfl rfl rfl ?_
    refine SeqK.q (q_pkT rfl rfl rfl) rfl rfl rfl ?_
    refine SeqK.q (q_asC rfl rfl) rfl rfl rfl ?_
    refine SeqK.nil ?_
    refine AW.ret ?_
    exact fin_x (x := .c _) (H) (.tmp rfl .nil) rfl (fun _ _ h => h) (⟨bCe (by rw [sameB, show decide (t.cnt ≤ 400) = true by simp; omega]; rfl), rfl⟩)
  ·
    refine SeqK.off rfl rfl rfl rfl rfl rfl ?_
    refine SeqK.off rfl rfl rfl rfl rfl rfl ?_
    refine SeqK.off rfl rfl rfl rfl rfl rfl ?_
    refine SeqK.off rfl rfl rfl rfl rfl rfl ?_
    refine SeqK.q (q_pkF rfl rfl rfl) rfl rfl rfl ?_
    refine SeqK.q (q_asC rfl rfl) rfl rfl rfl ?_
    refine SeqK.nil ?_
    refine AW.ret ?_
    exact fin_x (x := .c _) (H) (.tmp rfl .nil) rfl (fun _ _ h => h) (⟨bCe (by rw [sameB, show decide (t.cnt ≤ 400) = false by simp; omega]; rfl), rfl⟩)

end Go.Proofs.YtfbdokfcebpkaaaDoor.W
namespace Go.Proofs.YtfbdokfcebpkaaaDoor.W
open Go.RowKit E M
set_option linter.unusedVariables false
set_option linter.unusedSimpArgs false
set_option linter.unusedSectionVars false
end Go.Proofs.YtfbdokfcebpkaaaDoor.W
namespace Go.Proofs.YtfbdokfcebpkaaaDoor.W
open Go.RowKit E M
set_option linter.unusedVariables false
set_option linter.unusedSimpArgs false
set_option linter.unusedSectionVars false
/-- equal but for the wrap -/
def md (a b : Int) : Prop := ∃ k : Int, a = b + k * 18446744073709551616
theorem md.symm {a b : Int} (h : md a b) : md b a := by obtain ⟨k, h⟩ := h; exact ⟨-k, by omega⟩
theorem md.trans {a b c : Int} (h : md a b) (h' : md b c) : md a c := by obtain ⟨k, h⟩ := h; obtain ⟨j, h'⟩ := h'; exact ⟨k + j, by omega⟩
theorem md.add {a b c d : Int} (h : md a b) (h' : md c d) : md (a + c) (b + d) := by obtain ⟨k, h⟩ := h; obtain ⟨j, h'⟩ := h'; exact ⟨k + j, by omega⟩
theorem md.mul {a b : Int} (h : md a b) (n : Int) : md (a * n) (b * n) := by obtain ⟨k, h⟩ := h; exact ⟨k * n, by subst h; grind⟩
theorem md_w (a : Int) : md (w a) a := by
  refine ⟨-((a + 9223372036854775808) / 18446744073709551616), ?_⟩
  show IntKind.i64.wrap a = _
  rw [IntKind.wrap_i64]; omega
theorem md_eq {a b : Int} (ha : R64 a) (hb : R64 b) (h : md a b) : a = b := by
  obtain ⟨k, h⟩ := h
  obtain ⟨h1, h2⟩ := ha
  obtain ⟨h3, h4⟩ := hb
  omega
theorem w_eq {a : Int} (h : R64 a) : w a = a := md_eq (w_R a) h (md_w a)
theorem div_val {r : List RV} {t : Tm} {b : Int} (h : vldT t = true) (hs : (div t b).2 = 0) (hv : (valT r t).2 = true) : 1 ≤ b ∧ valT r (div t b).1 = ((valT r t).1 / b, true) := by
  have hc := (vldT_bok h).c
  have hR := valT_R (r := r) hc
  unfold div at hs ⊢
  split at hs
  · cases hs
  · rename_i h1
    refine ⟨by omega, ?_⟩
    rw [if_neg h1]
    split at hs
    · rename_i h2
      rw [if_pos h2, h2, Int.ediv_one, ← hv]
    · rename_i h2
      rw [if_neg h2]
      split at hs
      · rename_i h3
        rw [if_pos h3]
        have hps : t.ps = [] := List.length_eq_zero_iff.1 (by omega)
        rw [valT_eq, valT_eq, hps, valPs, valPs]
      · rename_i h3
        rw [if_neg h3]
        obtain ⟨e1, e2⟩ := lim_ok hs
        rw [e1, valT_eq, valPs, valPs]
        have e : valP r ⟨1, 2, 0, b, [t]⟩ = ((valT r t).1 / b, true) := by
          rw [valP_eq, if_pos rfl, valO, if_pos hv]
        rw [e, if_pos rfl]
        refine congrArg (fun x => (x, true)) ?_
        show w (0 + w (1 * ((valT r t).1 / b))) = _
        have hd : R64 ((valT r t).1 / b) := by
          have hb0 : 0 < b := by omega
          have h7 : -9223372036854775808 ≤ (valT r t).1 / b := (Int.le_ediv_iff_mul_le hb0).2 (by have := hR.1; omega)
          have h8 : (valT r t).1 / b ≤ 9223372036854775807 := Int.ediv_le_of_le_mul hb0 (by have := hR.2; omega)
          exact ⟨h7, h8⟩
        rw [Int.one_mul, Int.zero_add, w_eq hd, w_eq hd]
theorem div_vld' {t : Tm} {b : Int} (h : vldT t = true) : vldT (div t b).1 = true := by
  by_cases hs : (div t b).2 = 0
  · exact div_vld h hs
  · unfold div at hs ⊢
    split at hs
    · rw [if_pos (by assumption)]; exact vld0
    · rw [if_neg (by assumption)]
      split at hs
      · exact absurd rfl hs
      · rw [if_neg (by assumption)]
        split at hs
        · exact absurd rfl hs
        · rw [if_neg (by assumption)]
          unfold lim at hs ⊢
          split at hs
          · exact absurd rfl hs
          · rw [if_neg (by assumption)]; exact vld0

end Go.Proofs.YtfbdokfcebpkaaaDoor.W
namespace Go.Proofs.YtfbdokfcebpkaaaDoor.W
open Go.RowKit E M
set_option linter.unusedVariables false
set_option linter.unusedSimpArgs false
set_option linter.unusedSectionVars false

set_option maxRecDepth 20000 in
theorem div_law (t : Tm) (rt : rgT t) (n : Int) (rn : R64 n) (r : List RV) (z : Nz) (hL : r.length ≤ 1000000000000000000) (H : Heap) : E.Spec Tryd.prog 10 [tmC t, iC n, rowC z r] H fun x H' => x = bX true := by
  refine Spec.enter Tryd.func10 rfl ?_
  refine AW.wk (Wk.keep 77 [(0, .c (tmC t)), (1, .c (iC n)), (2, .c (rowC z r))] [] (H) rfl ⟨rfl, rfl, rfl, trivial⟩ trivial (fun _ _ h => h) rfl) ?_
  refine AW.seq ?_
  refine AW.reg ?_
  refine SeqK.r (b_box (r := [_, _]) rfl rfl rfl rfl rfl rfl) rfl ?_
  refine SeqK.q (q_asC rfl rfl) rfl rfl rfl ?_
  refine SeqK.nil ?_
  refine AW.seq ?_
  refine AW.seq ?_
  refine AW.reg ?_
  refine SeqK.q (q_call _ rfl Fx.fn12 rfl (awake_any) rfl) rfl rfl rfl ?_
  refine SeqK.q (q_not rfl rfl) rfl rfl rfl ?_
  refine SeqK.q (q_mvC rfl rfl) rfl rfl rfl ?_
  refine SeqK.rOn (b_load (r := .g [_, _]) rfl Fx.ty24 rfl rfl rfl rfl rfl rfl) rfl rfl rfl ?_
  refine SeqK.on (q_call _ rfl Fx.fn13 rfl (lsmall_any t rt) rfl) rfl rfl rfl rfl rfl ?_
  refine SeqK.on (q_not rfl rfl) rfl rfl rfl rfl rfl ?_
  refine SeqK.q (q_pkF rfl rfl rfl) rfl rfl rfl ?_
  refine SeqK.qB (q_mvC rfl rfl) rfl rfl rfl (fun g22 => ?_) (fun g22 => ?_)
  ·
    refine SeqK.off rfl rfl rfl rfl rfl rfl ?_
    refine SeqK.off rfl rfl rfl rfl rfl rfl ?_
    refine SeqK.off rfl rfl rfl rfl rfl rfl ?_
    refine SeqK.q (q_pkT rfl rfl rfl) rfl rfl rfl ?_
    refine SeqK.nil ?_
    refine AW.condT rfl ?_
    refine AW.seq ?_
    refine AW.reg ?_
    refine SeqK.q (q_call _ rfl Fx.fn12 rfl (awake_any) rfl) rfl rfl rfl ?_
    refine SeqK.q (q_asC rfl rfl) rfl rfl rfl ?_
    refine SeqK.nil ?_
    refine AW.ret ?_
    exact fin_x (x := .c _) (_) (.tmp rfl .nil) rfl (fun _ _ h => h) (by first | rfl | (simp; done) | (simp [kv]))
  ·
    refine SeqK.on (q_mvC rfl rfl) rfl rfl rfl rfl rfl ?_
    refine SeqK.on (q_call _ rfl Fx.fn22 rfl (row_any r z hL) rfl) rfl rfl rfl rfl rfl ?_
    refine SeqK.on (q_not rfl rfl) rfl rfl rfl rfl rfl ?_
    refine SeqK.q (q_pkF rfl rfl rfl) rfl rfl rfl ?_
    refine SeqK.nil ?_
    refine AW.cond _ rfl (fun h26 => ?_) (fun h26 => ?_)
    ·
      refine AW.seq ?_
      refine AW.reg ?_
      refine SeqK.q (q_call _ rfl Fx.fn12 rfl (awake_any) rfl) rfl rfl rfl ?_
      refine SeqK.q (q_asC rfl rfl) rfl rfl rfl ?_
      refine SeqK.nil ?_
      refine AW.ret ?_
      exact fin_x (x := .c _) (_) (.tmp rfl .nil) rfl (fun _ _ h => h) (by first | rfl | (simp; done) | (simp [kv]))
    ·
      refine AW.skip ?_
      refine AW.seq ?_
      have kt := sm_iff' (by simpa using g22)
      have kc := div_cnt t n
      have ks := sameB_self (t := (div t n).1) (by omega)
      refine AW.reg ?_
      refine SeqK.r (b_load (r := .g [_, _]) rfl Fx.ty24 rfl rfl rfl rfl rfl rfl) rfl ?_
      refine SeqK.q (q_mvC rfl rfl) rfl rfl rfl ?_
      refine SeqK.q (q_call _ rfl Fx.fn32 rfl (div_any t n kt.2 (by have := kt.1; omega)) rfl) rfl rfl rfl ?_
      refine SeqK.q (q_mvT rfl rfl) rfl rfl rfl ?_
      refine SeqK.q (q_extract _ rfl rfl rfl) rfl rfl rfl ?_
      refine SeqK.q (q_extract _ rfl rfl rfl) rfl rfl rfl ?_
      refine SeqK.r (b_alloc (r := [_, _]) rfl rfl Fx.ze24 rfl rfl rfl rfl) rfl ?_
      refine SeqK.r (b_store (r := [_, _]) rfl rfl Fx.ty24 rfl rfl rfl rfl rfl rfl) rfl ?_
      refine SeqK.q (q_asC rfl rfl) rfl rfl rfl ?_
      refine SeqK.nil ?_
      refine AW.seq ?_
      refine AW.reg ?_
      refine SeqK.r (b_load (r := .g [_, _]) rfl Fx.ty24 rfl rfl rfl rfl rfl rfl) rfl ?_
      refine SeqK.q (q_mvC rfl rfl) rfl rfl rfl ?_
      refine SeqK.q (q_call _ rfl Fx.fn33 rfl (rdiv_any t n kt.2 (by have := kt.1; omega)) rfl) rfl rfl rfl ?_
      refine SeqK.q (q_mvT rfl rfl) rfl rfl rfl ?_
      refine SeqK.q (q_extract _ rfl rfl rfl) rfl rfl rfl ?_
      refine SeqK.q (q_extract _ rfl rfl rfl) rfl rfl rfl ?_
      refine SeqK.r (b_alloc (r := [_, _]) rfl rfl Fx.ze24 rfl rfl rfl rfl) rfl ?_
      refine SeqK.r (b_store (r := [_, _]) rfl rfl Fx.ty24 rfl rfl rfl rfl rfl rfl) rfl ?_
      refine SeqK.q (q_asC rfl rfl) rfl rfl rfl ?_
      refine SeqK.nil ?_
      refine AW.seq ?_
      refine AW.seq ?_
      refine AW.reg ?_
      refine SeqK.q (q_mvC rfl rfl) rfl rfl rfl ?_
      refine SeqK.q (q_mvC rfl rfl) rfl rfl rfl ?_
      refine SeqK.q (q_neq rfl rfl rfl) rfl rfl rfl ?_
      refine SeqK.qD (q_mvC rfl rfl) rfl rfl rfl (fun g43 => ?_) (fun g43 => ?_)
      ·
        exact absurd rfl g43
      ·
        refine SeqK.rOn (b_load (r := .g [_, _]) rfl Fx.ty24 rfl rfl rfl rfl rfl rfl) rfl rfl rfl ?_
        refine SeqK.rOn (b_load (r := .g [_, _]) rfl Fx.ty24 rfl rfl rfl rfl rfl rfl) rfl rfl rfl ?_
        refine SeqK.on (q_call _ rfl Fx.fn29 rfl (same_any (div t n).1 (div t n).1 (by have := div_cnt t n; omega)) rfl) rfl rfl rfl rfl rfl ?_
        refine SeqK.on (q_not rfl rfl) rfl rfl rfl rfl rfl ?_
        refine SeqK.q (q_pkF rfl rfl rfl) rfl rfl rfl ?_
        refine SeqK.nil ?_
        refine AW.cond _ rfl (fun h48 => ?_) (fun h48 => ?_)
        ·
          exact absurd h48 (by simp [ks])
        ·
          refine AW.skip ?_
          refine AW.seq ?_
          refine AW.reg ?_
          refine SeqK.r (b_load (r := .g [_, _]) rfl Fx.ty24 rfl rfl rfl rfl rfl rfl) rfl ?_
          refine SeqK.q (q_mvC rfl rfl) rfl rfl rfl ?_
          refine SeqK.q (q_call _ rfl Fx.fn26 rfl (rvalue_any r z t kt.2 (by have := kt.1; omega)) rfl) rfl rfl rfl ?_
          refine SeqK.q (q_mvT rfl rfl) rfl rfl rfl ?_
          refine SeqK.q (q_extract _ rfl rfl rfl) rfl rfl rfl ?_
          refine SeqK.q (q_extract _ rfl rfl rfl) rfl rfl rfl ?_
          refine SeqK.q (q_asC rfl rfl) rfl rfl rfl ?_
          refine SeqK.q (q_asC rfl rfl) rfl rfl rfl ?_
          refine SeqK.nil ?_
          refine AW.seq ?_
          refine AW.reg ?_
          refine SeqK.r (b_load (r := .g [_, _]) rfl Fx.ty24 rfl rfl rfl rfl rfl rfl) rfl ?_
          refine SeqK.q (q_mvC rfl rfl) rfl rfl rfl ?_
          refine SeqK.q (q_call _ rfl Fx.fn25 rfl (value_any r z (div t n).1 (div_vld' kt.2) (by have := div_cnt t n; omega)) rfl) rfl rfl rfl ?_
          refine SeqK.q (q_mvT rfl rfl) rfl rfl rfl ?_
          refine SeqK.q (q_extract _ rfl rfl rfl) rfl rfl rfl ?_
          refine SeqK.q (q_extract _ rfl rfl rfl) rfl rfl rfl ?_
          refine SeqK.q (q_asC rfl rfl) rfl rfl rfl ?_
          refine SeqK.q (q_asC rfl rfl) rfl rfl rfl ?_
          refine SeqK.nil ?_
          refine AW.seq ?_
          refine AW.reg ?_
          refine SeqK.q (q_mvC rfl rfl) rfl rfl rfl ?_
          refine SeqK.q (q_neq rfl rfl rfl) rfl rfl rfl ?_
          refine SeqK.qD (q_mvC rfl rfl) rfl rfl rfl (fun g63 => ?_) (fun g63 => ?_)
          ·
            refine SeqK.off rfl rfl rfl rfl rfl rfl ?_
            refine SeqK.off rfl rfl rfl rfl rfl rfl ?_
            refine SeqK.q (q_pkT rfl rfl rfl) rfl rfl rfl ?_
            refine SeqK.q (q_mvC rfl rfl) rfl rfl rfl ?_
            refine SeqK.off rfl rfl rfl rfl rfl rfl ?_
            refine SeqK.off rfl rfl rfl rfl rfl rfl ?_
            refine SeqK.offU rfl rfl rfl rfl rfl ?_
            refine SeqK.offU rfl rfl rfl rfl rfl ?_
            refine SeqK.offU rfl rfl rfl rfl rfl ?_
            refine SeqK.offU rfl rfl rfl rfl rfl ?_
            refine SeqK.offU rfl rfl rfl rfl rfl ?_
            refine SeqK.off rfl rfl rfl rfl rfl rfl ?_
            refine SeqK.q (q_pkT rfl rfl rfl) rfl rfl rfl ?_
            refine SeqK.q (q_asC rfl rfl) rfl rfl rfl ?_
            refine SeqK.nil ?_
            refine AW.ret ?_
            exact fin_x (x := .c _) (_) (.tmp rfl .nil) rfl (fun _ _ h => h) (by first | rfl | (simp; done) | (simp [kv]))
          ·
            refine SeqK.on (q_mvC rfl rfl) rfl rfl rfl rfl rfl ?_
            refine SeqK.on (q_not rfl rfl) rfl rfl rfl rfl rfl ?_
            refine SeqK.q (q_pkF rfl rfl rfl) rfl rfl rfl ?_
            refine SeqK.qB (q_mvC rfl rfl) rfl rfl rfl (fun g67 => ?_) (fun g67 => ?_)
            ·
              refine SeqK.off rfl rfl rfl rfl rfl rfl ?_
              refine SeqK.off rfl rfl rfl rfl rfl rfl ?_
              refine SeqK.offU rfl rfl rfl rfl rfl ?_
              refine SeqK.offU rfl rfl rfl rfl rfl ?_
              refine SeqK.offU rfl rfl rfl rfl rfl ?_
              refine SeqK.offU rfl rfl rfl rfl rfl ?_
              refine SeqK.offU rfl rfl rfl rfl rfl ?_
              refine SeqK.off rfl rfl rfl rfl rfl rfl ?_
              refine SeqK.q (q_pkT rfl rfl rfl) rfl rfl rfl ?_
              refine SeqK.q (q_asC rfl rfl) rfl rfl rfl ?_
              refine SeqK.nil ?_
              refine AW.ret ?_
              exact fin_x (x := .c _) (_) (.tmp rfl .nil) rfl (fun _ _ h => h) (by first | rfl | (simp; done) | (simp [kv]))
            ·
              have kv := div_val (r := r) kt.2 (Classical.not_not.1 g63) (by simpa using g67)
              obtain ⟨k1, kv⟩ := kv
              refine SeqK.on (q_mvC rfl rfl) rfl rfl rfl rfl rfl ?_
              refine SeqK.onB (q_mvC rfl rfl) rfl rfl rfl rfl rfl (fun g69 => ?_) (fun g69 => ?_)
              ·
                refine SeqK.on (q_mvC rfl rfl) rfl rfl rfl rfl rfl ?_
                refine SeqK.on (q_mvC rfl rfl) rfl rfl rfl rfl rfl ?_
                refine SeqK.on (q_mvC rfl rfl) rfl rfl rfl rfl rfl ?_
                refine SeqK.on (q_call _ rfl Fx.fn34 rfl (rfloor_any _ _ (valT_R (vldT_bok kt.2).c) k1) rfl) rfl rfl rfl rfl rfl ?_
                refine SeqK.on (q_eql rfl rfl rfl) rfl rfl rfl rfl rfl ?_
                refine SeqK.on (q_pkT rfl rfl rfl) rfl rfl rfl rfl rfl ?_
                refine SeqK.q (q_pkF rfl rfl rfl) rfl rfl rfl ?_
                refine SeqK.q (q_asC rfl rfl) rfl rfl rfl ?_
                refine SeqK.nil ?_
                refine AW.ret ?_
                exact fin_x (x := .c _) (_) (.tmp rfl .nil) rfl (fun _ _ h => h) (by first | rfl | (simp; done) | (simp [kv]))
              ·
                exact absurd g69 (by rw [kv]; simp)

end Go.Proofs.YtfbdokfcebpkaaaDoor.W
