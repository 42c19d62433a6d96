/- Parts of the proof, one after the other: W28, W29, W30, W31, W32, W33, W34. No condition. -/
import Derived.Test.YtfbdokfcebpkaaaDoorM15
namespace Go.Proofs.YtfbdokfcebpkaaaDoor.W
open Go.RowKit E M
set_option linter.unusedVariables false
set_option linter.unusedSimpArgs false
set_option linter.unusedSectionVars false

set_option maxRecDepth 20000 in
theorem rcnN_of (t : Tm) (L : Nat) (hL : L ≤ 100000) (hr : t.cnt ≤ 100000) (ih : ∀ p ∈ t.ps, ∀ o ∈ p.of, ∀ M : Nat, M ≤ L → Pure Tryd.prog 18 [tmC o, iC (M : Int)] (.c (iC ((min o.cnt (M + 1) : Nat) : Int)))) : Pure Tryd.prog 18 [tmC t, iC (L : Int)] (.c (iC ((min t.cnt (L + 1) : Nat) : Int))) := by
  intro H
  refine Spec.enter Tryd.func18 rfl ?_
  refine AW.wk (Wk.keep 54 [(0, .c (tmC t)), (1, .c (iC (L : Int)))] [] (H) rfl ⟨rfl, rfl, trivial⟩ trivial (fun _ _ h => h) rfl) ?_
  refine AW.seq ?_
  refine AW.reg ?_
  refine SeqK.r (b_box (r := [_, _]) rfl rfl rfl rfl rfl rfl) rfl ?_
  refine SeqK.q (q_asC rfl rfl) rfl rfl rfl ?_
  refine SeqK.nil ?_
  refine AW.seq ?_
  have hlt := len_ps t
  have hct := Tm.cnt_eq t
  refine AW.reg ?_
  refine SeqK.q (q_asC rfl rfl) rfl rfl rfl ?_
  refine SeqK.nil ?_
  refine AW.seq ?_
  refine AW.seq ?_
  refine AW.reg ?_
  refine SeqK.q (q_asC rfl rfl) rfl rfl rfl ?_
  refine SeqK.nil ?_
  refine AW.block ?_
  refine AW.loop (fun (i : Nat) s => (i ≤ t.ps.length) ∧ s = ⟨54, sp [(1, .c (iC (L : Int))), (2, .lp 2 0), (4, .c (iC 0)), (5, iX .i64 ((min (1 + cntPs (t.ps.take i)) (L + 1) : Nat) : Int)), (6, iX .i64 ((i : Nat) : Int))], lv [(2, .box [.t (.v (.int .i64 t.c)), .t (.sl .un 5 (t.ps.map ptT))])], H⟩) (fun i => t.ps.length - i) 0 ⟨_, Wk.keep 54 [(1, .c (iC (L : Int))), (2, .lp 2 0), (4, .c (iC 0)), (5, iX .i64 ((min (1 + cntPs (t.ps.take ((0 : Nat)))) (L + 1) : Nat) : Int)), (6, iX .i64 ((((0 : Nat)) : Nat) : Int))] [(2, .box [.t (.v (.int .i64 t.c)), .t (.sl .un 5 (t.ps.map ptT))])] (H) rfl ⟨rfl, rfl, rfl, rfl, rfl, trivial⟩ ⟨rfl, trivial⟩ (fun _ _ h => h) rfl, Nat.zero_le _, rfl⟩ (fun i s hs => ?_)
  obtain ⟨hi0, rfl⟩ := hs
  refine AW.seq ?_
  refine AW.seq ?_
  refine AW.reg ?_
  refine SeqK.q (q_mvC rfl rfl) rfl rfl rfl ?_
  refine SeqK.q (q_fieldL _ rfl Fx.fl24_1 rfl rfl) rfl rfl rfl ?_
  refine SeqK.r (b_load (r := .a _) rfl Fx.ty22 rfl rfl rfl rfl rfl rfl) rfl ?_
  refine SeqK.q (q_len rfl Fx.un22 rfl) rfl rfl rfl ?_
  refine SeqK.q (q_lss rfl rfl rfl) rfl rfl rfl ?_
  refine SeqK.qD (q_mvC rfl rfl) rfl rfl rfl (fun g13 => ?_) (fun g13 => ?_)
  ·
    have hi : i < t.ps.length := by rw [List.length_map] at g13; omega
    have hlo := len_of (List.getElem_mem hi)
    have hcl := cntTs_le hi
    have hct1 := cntPs_take hi
    refine SeqK.on (q_mvC rfl rfl) rfl rfl rfl rfl rfl ?_
    refine SeqK.on (q_mvC rfl rfl) rfl rfl rfl rfl rfl ?_
    refine SeqK.on (q_leq rfl rfl rfl) rfl rfl rfl rfl rfl ?_
    refine SeqK.q (q_pkT rfl rfl rfl) rfl rfl rfl ?_
    refine SeqK.nil ?_
    refine AW.condD rfl (fun h17 => ?_) (fun h17 => ?_)
    ·
      refine AW.skip ?_
      refine AW.seq ?_
      refine AW.block ?_
      refine AW.seq ?_
      refine AW.reg ?_
      refine SeqK.q (q_mvC rfl rfl) rfl rfl rfl ?_
      refine SeqK.q (q_add _ rfl rfl rfl ((by rw [w64 (by omega) (by omega)]; have e0 : cntTs (t.ps[i].of.take 0) = 0 := rfl; omega : IntKind.i64.wrap _ = ((min (1 + cntPs (t.ps.take i) + 1 + cntTs (t.ps[i].of.take 0)) (L + 1) : Nat) : Int)))) rfl rfl rfl ?_
      refine SeqK.q (q_asC rfl rfl) rfl rfl rfl ?_
      refine SeqK.nil ?_
      refine AW.seq ?_
      refine AW.reg ?_
      refine SeqK.q (q_asC rfl rfl) rfl rfl rfl ?_
      refine SeqK.nil ?_
      refine AW.block ?_
      refine AW.loop (fun (j : Nat) s => (j ≤ t.ps[i].of.length) ∧ s = ⟨54, sp [(1, .c (iC (L : Int))), (2, .lp 2 0), (4, .c (iC 0)), (5, iX .i64 ((min (1 + cntPs (t.ps.take i) + 1 + cntTs (t.ps[i].of.take j)) (L + 1) : Nat) : Int)), (6, iX .i64 ((i : Nat) : Int)), (7, iX .i64 ((j : Nat) : Int))], lv [(2, .box [.t (.v (.int .i64 t.c)), .t (.sl .un 5 (t.ps.map ptT))])], H⟩) (fun j => t.ps[i].of.length - j) 0 ⟨_, Wk.keep 54 [(1, .c (iC (L : Int))), (2, .lp 2 0), (4, .c (iC 0)), (5, iX .i64 ((min (1 + cntPs (t.ps.take i) + 1 + cntTs (t.ps[i].of.take ((0 : Nat)))) (L + 1) : Nat) : Int)), (6, iX .i64 ((i : Nat) : Int)), (7, iX .i64 ((((0 : Nat)) : Nat) : Int))] [(2, .box [.t (.v (.int .i64 t.c)), .t (.sl .un 5 (t.ps.map ptT))])] (H) rfl ⟨rfl, rfl, rfl, rfl, rfl, rfl, trivial⟩ ⟨rfl, trivial⟩ (fun _ _ h => h) rfl, Nat.zero_le _, rfl⟩ (fun j s hs => ?_)
      obtain ⟨hj0, rfl⟩ := hs
      refine AW.seq ?_
      refine AW.seq ?_
      refine AW.reg ?_
      refine SeqK.q (q_mvC rfl rfl) rfl rfl rfl ?_
      refine SeqK.q (q_fieldL _ rfl Fx.fl24_1 rfl rfl) rfl rfl rfl ?_
      refine SeqK.r (b_load (r := .a _) rfl Fx.ty22 rfl rfl rfl rfl rfl rfl) rfl ?_
      refine SeqK.q (q_mvC rfl rfl) rfl rfl rfl ?_
      refine SeqK.q (q_index _ rfl Fx.sl22 rfl rfl (by omega) (idx_map (f := ptT) hi)) rfl rfl rfl ?_
      refine SeqK.q (q_fieldP _ rfl Fx.fl62_4 rfl rfl) rfl rfl rfl ?_
      refine SeqK.q (q_load (.a _) rfl Fx.ty60 rfl rfl rfl) rfl rfl rfl ?_
      refine SeqK.q (q_len rfl Fx.un60 rfl) rfl rfl rfl ?_
      refine SeqK.q (q_lss rfl rfl rfl) rfl rfl rfl ?_
      refine SeqK.qD (q_mvC rfl rfl) rfl rfl rfl (fun g31 => ?_) (fun g31 => ?_)
      ·
        have hj : j < t.ps[i].of.length := by rw [List.length_map] at g31; omega
        have hct2 := cntTs_take hj
        refine SeqK.on (q_mvC rfl rfl) rfl rfl rfl rfl rfl ?_
        refine SeqK.on (q_mvC rfl rfl) rfl rfl rfl rfl rfl ?_
        refine SeqK.on (q_leq rfl rfl rfl) rfl rfl rfl rfl rfl ?_
        refine SeqK.q (q_pkT rfl rfl rfl) rfl rfl rfl ?_
        refine SeqK.nil ?_
        refine AW.condD rfl (fun h35 => ?_) (fun h35 => ?_)
        ·
          have hS : 1 + cntPs (t.ps.take i) + 1 + cntTs (t.ps[i].of.take j) ≤ L := by omega
          refine AW.skip ?_
          refine AW.seq ?_
          refine AW.block ?_
          refine AW.reg ?_
          refine SeqK.q (q_mvC rfl rfl) rfl rfl rfl ?_
          refine SeqK.q (q_fieldL _ rfl Fx.fl24_1 rfl rfl) rfl rfl rfl ?_
          refine SeqK.r (b_load (r := .a _) rfl Fx.ty22 rfl rfl rfl rfl rfl rfl) rfl ?_
          refine SeqK.q (q_mvC rfl rfl) rfl rfl rfl ?_
          refine SeqK.q (q_index _ rfl Fx.sl22 rfl rfl (by omega) (idx_map (f := ptT) hi)) rfl rfl rfl ?_
          refine SeqK.q (q_fieldP _ rfl Fx.fl62_4 rfl rfl) rfl rfl rfl ?_
          refine SeqK.q (q_load (.a _) rfl Fx.ty60 rfl rfl rfl) rfl rfl rfl ?_
          refine SeqK.q (q_mvC rfl rfl) rfl rfl rfl ?_
          refine SeqK.q (q_index _ rfl Fx.sl60 rfl rfl (by omega) (idx_tm hj)) rfl rfl rfl ?_
          refine SeqK.q (q_load (.g [_, _]) rfl Fx.ty24 rfl rfl rfl) rfl rfl rfl ?_
          refine SeqK.q (q_mvC rfl rfl) rfl rfl rfl ?_
          refine SeqK.q (q_mvC rfl rfl) rfl rfl rfl ?_
          refine SeqK.q (q_sub _ rfl rfl rfl ((by rw [w64 (by omega) (by omega)]; omega : IntKind.i64.wrap _ = ((L - (1 + cntPs (t.ps.take i) + 1 + cntTs (t.ps[i].of.take j)) : Nat) : Int)))) rfl rfl rfl ?_
          refine SeqK.q (q_call _ rfl Fx.fn18 rfl (ih _ (List.getElem_mem hi) _ (List.getElem_mem hj) _ (by omega)) rfl) rfl rfl rfl ?_
          refine SeqK.q (q_add _ rfl rfl rfl ((by rw [w64 (by omega) (by omega)]; omega : IntKind.i64.wrap _ = ((min (1 + cntPs (t.ps.take i) + 1 + cntTs (t.ps[i].of.take (j + 1))) (L + 1) : Nat) : Int)))) rfl rfl rfl ?_
          refine SeqK.q (q_asC rfl rfl) rfl rfl rfl ?_
          refine SeqK.nil ?_
          refine AW.reg ?_
          refine SeqK.q (q_mvC rfl rfl) rfl rfl rfl ?_
          refine SeqK.q (q_add _ rfl rfl rfl (w64 (by omega) (by omega))) rfl rfl rfl ?_
          refine SeqK.q (q_asC rfl rfl) rfl rfl rfl ?_
          refine SeqK.nil ?_
          exact ⟨j + 1, _, Wk.keep 54 [(1, .c (iC (L : Int))), (2, .lp 2 0), (4, .c (iC 0)), (5, iX .i64 ((min (1 + cntPs (t.ps.take i) + 1 + cntTs (t.ps[i].of.take (j + 1))) (L + 1) : Nat) : Int)), (6, iX .i64 ((i : Nat) : Int)), (7, iX .i64 (((j + 1) : Nat) : Int))] [(2, .box [.t (.v (.int .i64 t.c)), .t (.sl .un 5 (t.ps.map ptT))])] (H) rfl ⟨rfl, rfl, rfl, rfl, rfl, rfl, trivial⟩ ⟨rfl, trivial⟩ (fun _ _ h => h) rfl, by omega, hj, rfl⟩
        ·
          refine AW.exit ?_
          refine eth_e ?_
          refine eth_e ?_
          refine exit_here ?_
          refine AW.wk (Wk.keep 54 [(1, .c (iC (L : Int))), (2, .lp 2 0), (4, .c (iC 0)), (5, iX .i64 ((min (1 + cntPs (t.ps.take (i + 1))) (L + 1) : Nat) : Int)), (6, iX .i64 ((i : Nat) : Int))] [(2, .box [.t (.v (.int .i64 t.c)), .t (.sl .un 5 (t.ps.map ptT))])] (H) rfl ⟨rfl, rfl, rfl, iXe (by have := cntTs_take_le t.ps[i].of j; first | (have hjl : j = t.ps[i].of.length := (by rw [List.length_map] at g31; omega); subst hjl; rw [List.take_length]; omega) | omega), rfl, trivial⟩ ⟨rfl, trivial⟩ (fun _ _ h => h) rfl) ?_
          refine AW.reg ?_
          refine SeqK.q (q_mvC rfl rfl) rfl rfl rfl ?_
          refine SeqK.q (q_add _ rfl rfl rfl (w64 (by omega) (by omega))) rfl rfl rfl ?_
          refine SeqK.q (q_asC rfl rfl) rfl rfl rfl ?_
          refine SeqK.nil ?_
          exact ⟨i + 1, _, Wk.keep 54 [(1, .c (iC (L : Int))), (2, .lp 2 0), (4, .c (iC 0)), (5, iX .i64 ((min (1 + cntPs (t.ps.take (i + 1))) (L + 1) : Nat) : Int)), (6, iX .i64 (((i + 1) : Nat) : Int))] [(2, .box [.t (.v (.int .i64 t.c)), .t (.sl .un 5 (t.ps.map ptT))])] (H) rfl ⟨rfl, rfl, rfl, rfl, rfl, trivial⟩ ⟨rfl, trivial⟩ (fun _ _ h => h) rfl, by omega, hi, rfl⟩
      ·
        refine SeqK.off rfl rfl rfl rfl rfl rfl ?_
        refine SeqK.off rfl rfl rfl rfl rfl rfl ?_
        refine SeqK.off rfl rfl rfl rfl rfl rfl ?_
        refine SeqK.q (q_pkF rfl rfl rfl) rfl rfl rfl ?_
        refine SeqK.nil ?_
        refine AW.condF rfl ?_
        refine AW.exit ?_
        refine eth_e ?_
        refine eth_e ?_
        refine exit_here ?_
        refine AW.wk (Wk.keep 54 [(1, .c (iC (L : Int))), (2, .lp 2 0), (4, .c (iC 0)), (5, iX .i64 ((min (1 + cntPs (t.ps.take (i + 1))) (L + 1) : Nat) : Int)), (6, iX .i64 ((i : Nat) : Int))] [(2, .box [.t (.v (.int .i64 t.c)), .t (.sl .un 5 (t.ps.map ptT))])] (H) rfl ⟨rfl, rfl, rfl, iXe (by have := cntTs_take_le t.ps[i].of j; first | (have hjl : j = t.ps[i].of.length := (by rw [List.length_map] at g31; omega); subst hjl; rw [List.take_length]; omega) | omega), rfl, trivial⟩ ⟨rfl, trivial⟩ (fun _ _ h => h) rfl) ?_
        refine AW.reg ?_
        refine SeqK.q (q_mvC rfl rfl) rfl rfl rfl ?_
        refine SeqK.q (q_add _ rfl rfl rfl (w64 (by omega) (by omega))) rfl rfl rfl ?_
        refine SeqK.q (q_asC rfl rfl) rfl rfl rfl ?_
        refine SeqK.nil ?_
        exact ⟨i + 1, _, Wk.keep 54 [(1, .c (iC (L : Int))), (2, .lp 2 0), (4, .c (iC 0)), (5, iX .i64 ((min (1 + cntPs (t.ps.take (i + 1))) (L + 1) : Nat) : Int)), (6, iX .i64 (((i + 1) : Nat) : Int))] [(2, .box [.t (.v (.int .i64 t.c)), .t (.sl .un 5 (t.ps.map ptT))])] (H) rfl ⟨rfl, rfl, rfl, rfl, rfl, trivial⟩ ⟨rfl, trivial⟩ (fun _ _ h => h) rfl, by omega, hi, rfl⟩
    ·
      refine AW.exit ?_
      refine eth_e ?_
      refine eth_e ?_
      refine exit_here ?_
      refine AW.seq ?_
      refine AW.reg ?_
      refine SeqK.q (q_mvC rfl rfl) rfl rfl rfl ?_
      refine SeqK.q (q_asC rfl rfl) rfl rfl rfl ?_
      refine SeqK.nil ?_
      refine AW.ret ?_
      exact fin_x (x := .c _) (H) (.tmp rfl .nil) rfl (fun _ _ h => h) (⟨by rw [show min t.cnt (L + 1) = min (1 + cntPs (t.ps.take i)) (L + 1) by have := cntPs_take_le t.ps i; first | (have hil : i = t.ps.length := (by rw [List.length_map] at g13; omega); subst hil; rw [List.take_length]; omega) | omega], rfl⟩)
  ·
    refine SeqK.off rfl rfl rfl rfl rfl rfl ?_
    refine SeqK.off rfl rfl rfl rfl rfl rfl ?_
    refine SeqK.off rfl rfl rfl rfl rfl rfl ?_
    refine SeqK.q (q_pkF rfl rfl rfl) rfl rfl rfl ?_
    refine SeqK.nil ?_
    refine AW.condF rfl ?_
    refine AW.exit ?_
    refine eth_e ?_
    refine eth_e ?_
    refine exit_here ?_
    refine AW.seq ?_
    refine AW.reg ?_
    refine SeqK.q (q_mvC rfl rfl) rfl rfl rfl ?_
    refine SeqK.q (q_asC rfl rfl) rfl rfl rfl ?_
    refine SeqK.nil ?_
    refine AW.ret ?_
    exact fin_x (x := .c _) (H) (.tmp rfl .nil) rfl (fun _ _ h => h) (⟨by rw [show min t.cnt (L + 1) = min (1 + cntPs (t.ps.take i)) (L + 1) by have := cntPs_take_le t.ps i; first | (have hil : i = t.ps.length := (by rw [List.length_map] at g13; omega); subst hil; rw [List.take_length]; omega) | omega], rfl⟩)

theorem rcnN_any (t : Tm) : t.cnt ≤ 100000 → ∀ L : Nat, L ≤ 100000 → Pure Tryd.prog 18 [tmC t, iC (L : Int)] (.c (iC ((min t.cnt (L + 1) : Nat) : Int))) := by
  induction t using Tm.ind with
  | h t ih =>
    intro hr L hL
    exact rcnN_of t L hL hr fun p hp o ho M hM => ih p hp o ho (by have := cnt_of hp ho; omega) M (by omega)
set_option maxRecDepth 20000 in
theorem limited_any (t : Tm) (h : bokT t) (hN : t.cnt ≤ 100000) : Pure Tryd.prog 70 [tmC t] (trC (lim t)) := by
  intro H
  refine Spec.enter Tryd.func70 rfl ?_
  refine AW.wk (Wk.keep 9 [(0, .c (tmC t))] [] (H) rfl ⟨rfl, trivial⟩ trivial (fun _ _ h => h) rfl) ?_
  refine AW.seq ?_
  refine AW.reg ?_
  refine SeqK.r (b_box (r := [_, _]) rfl rfl rfl rfl rfl rfl) rfl ?_
  refine SeqK.r (b_alloc (r := [_, _]) rfl rfl Fx.ze24 rfl rfl rfl rfl) rfl ?_
  refine SeqK.q (q_asC rfl rfl) rfl rfl rfl ?_
  refine SeqK.nil ?_
  refine AW.seq ?_
  refine AW.seq ?_
  refine AW.reg ?_
  refine SeqK.r (b_load (r := .g [_, _]) rfl Fx.ty24 rfl rfl rfl rfl rfl rfl) rfl ?_
  refine SeqK.q (q_call _ rfl Fx.fn59 rfl (rsmall_any t h hN) rfl) rfl rfl rfl ?_
  refine SeqK.q (q_not rfl rfl) rfl rfl rfl ?_
  refine SeqK.nil ?_
  refine AW.cond _ rfl (fun h6 => ?_) (fun h6 => ?_)
  ·
    refine AW.seq ?_
    refine AW.reg ?_
    refine SeqK.q (q_build2 (zs := [_, _]) (r := [_, _]) [(0, 1), (1, 1)] _ rfl Fx.ze24 rfl Fx.bp24 rfl rfl rfl rfl) rfl rfl rfl ?_
    refine SeqK.xw 7 rfl XW.tm0 ?_
    refine SeqK.r (b_store (r := [_, _]) rfl rfl Fx.ty24 rfl rfl rfl rfl rfl rfl) rfl ?_
    refine SeqK.q (q_asC rfl rfl) rfl rfl rfl ?_
    refine SeqK.nil ?_
    refine AW.ret ?_
    exact fin_x (x := .tup [_, _]) (H) (.cellL rfl rfl Fx.ty24 rfl rfl (.tmp rfl .nil)) rfl (fun _ _ h => h) (⟨by rw [lim, if_neg (by intro hs; rw [hs] at h6; cases h6)]; rfl, rfl⟩)
  ·
    refine AW.skip ?_
    refine AW.seq ?_
    refine AW.reg ?_
    refine SeqK.r (b_load (r := .g [_, _]) rfl Fx.ty24 rfl rfl rfl rfl rfl rfl) rfl ?_
    refine SeqK.r (b_store (r := [_, _]) rfl rfl Fx.ty24 rfl rfl rfl rfl rfl rfl) rfl ?_
    refine SeqK.q (q_asC rfl rfl) rfl rfl rfl ?_
    refine SeqK.nil ?_
    refine AW.ret ?_
    exact fin_x (x := .tup [_, _]) (H) (.cellL rfl rfl Fx.ty24 rfl rfl (.tmp rfl .nil)) rfl (fun _ _ h => h) (⟨by rw [lim, if_pos (by simpa using h6)]; rfl, rfl⟩)

abbrev sameB (t x : Tm) : Bool := decide (t.cnt ≤ 400) && decide (cmpT t x = 0)
theorem sameB_self {t : Tm} (h : t.cnt ≤ 400) : sameB t t = true := by simp [sameB, h, cmpT_self]

set_option maxRecDepth 20000 in
theorem same_any (t x : Tm) (hN : t.cnt ≤ 100000) : Pure Tryd.prog 29 [tmC t, tmC x] (.c (bC (sameB t x))) := by
  intro H
  refine Spec.enter Tryd.func29 rfl ?_
  refine AW.wk (Wk.keep 14 [(0, .c (tmC t)), (1, .c (tmC x))] [] (H) rfl ⟨rfl, rfl, trivial⟩ trivial (fun _ _ h => h) rfl) ?_
  refine AW.seq ?_
  refine AW.reg ?_
  refine SeqK.r (b_box (r := [_, _]) rfl rfl rfl rfl rfl rfl) rfl ?_
  refine SeqK.r (b_box (r := [_, _]) rfl rfl rfl rfl rfl rfl) rfl ?_
  refine SeqK.q (q_asC rfl rfl) rfl rfl rfl ?_
  refine SeqK.nil ?_
  refine AW.seq ?_
  refine AW.reg ?_
  refine SeqK.r (b_load (r := .g [_, _]) rfl Fx.ty24 rfl rfl rfl rfl rfl rfl) rfl ?_
  refine SeqK.q (q_call _ rfl Fx.fn18 rfl (rcnN_any t hN 400 (by decide)) rfl) rfl rfl rfl ?_
  refine SeqK.q (q_leq rfl rfl rfl) rfl rfl rfl ?_
  refine SeqK.qD (q_mvC rfl rfl) rfl rfl rfl (fun g8 => ?_) (fun g8 => ?_)
  ·
    refine SeqK.rOn (b_load (r := .g [_, _]) rfl Fx.ty24 rfl rfl rfl rfl rfl rfl) rfl rfl rfl ?_
    refine SeqK.rOn (b_load (r := .g [_, _]) rfl Fx.ty24 rfl rfl rfl rfl rfl rfl) rfl rfl rfl ?_
    refine SeqK.on (q_call _ rfl Fx.fn15 rfl (rcmp_any t (by omega) x) rfl) rfl rfl rfl rfl rfl ?_
    refine SeqK.on (q_eql rfl rfl rfl) rfl rfl rfl rfl rfl ?_
    refine SeqK.q (q_pkT rfl rfl rfl) rfl rfl rfl ?_
    refine SeqK.q (q_asC rfl rfl) rfl rfl rfl ?_
    refine SeqK.nil ?_
    refine AW.ret ?_
    exact fin_x (x := .c _) (H) (.tmp rfl .nil) rfl (fun _ _ h => h) (⟨bCe (by rw [sameB, show decide (t.cnt ≤ 400) = true by simp; omega]; rfl), rfl⟩)
  ·
    refine SeqK.off rfl rfl rfl rfl rfl rfl ?_
    refine SeqK.off rfl rfl rfl rfl rfl rfl ?_
    refine SeqK.off rfl rfl rfl rfl rfl rfl ?_
    refine SeqK.off rfl rfl rfl rfl rfl rfl ?_
    refine SeqK.q (q_pkF rfl rfl rfl) rfl rfl rfl ?_
    refine SeqK.q (q_asC rfl rfl) rfl rfl rfl ?_
    refine SeqK.nil ?_
    refine AW.ret ?_
    exact fin_x (x := .c _) (H) (.tmp rfl .nil) rfl (fun _ _ h => h) (⟨bCe (by rw [sameB, show decide (t.cnt ≤ 400) = false by simp; omega]; rfl), rfl⟩)

end Go.Proofs.YtfbdokfcebpkaaaDoor.W
namespace Go.Proofs.YtfbdokfcebpkaaaDoor.W
open Go.RowKit E M
set_option linter.unusedVariables false
set_option linter.unusedSimpArgs false
set_option linter.unusedSectionVars false
end Go.Proofs.YtfbdokfcebpkaaaDoor.W
namespace Go.Proofs.YtfbdokfcebpkaaaDoor.W
open Go.RowKit E M
set_option linter.unusedVariables false
set_option linter.unusedSimpArgs false
set_option linter.unusedSectionVars false
/-- equal but for the wrap -/
def md (a b : Int) : Prop := ∃ k : Int, a = b + k * 18446744073709551616
theorem md.rfl' (a : Int) : md a a := ⟨0, by omega⟩
theorem md.symm {a b : Int} (h : md a b) : md b a := by obtain ⟨k, h⟩ := h; exact ⟨-k, by omega⟩
theorem md.trans {a b c : Int} (h : md a b) (h' : md b c) : md a c := by obtain ⟨k, h⟩ := h; obtain ⟨j, h'⟩ := h'; exact ⟨k + j, by omega⟩
theorem md.add {a b c d : Int} (h : md a b) (h' : md c d) : md (a + c) (b + d) := by obtain ⟨k, h⟩ := h; obtain ⟨j, h'⟩ := h'; exact ⟨k + j, by omega⟩
theorem md.mul {a b : Int} (h : md a b) (n : Int) : md (a * n) (b * n) := by obtain ⟨k, h⟩ := h; exact ⟨k * n, by subst h; grind⟩
theorem md_w (a : Int) : md (w a) a := by
  refine ⟨-((a + 9223372036854775808) / 18446744073709551616), ?_⟩
  show IntKind.i64.wrap a = _
  rw [IntKind.wrap_i64]; omega
theorem md_eq {a b : Int} (ha : R64 a) (hb : R64 b) (h : md a b) : a = b := by
  obtain ⟨k, h⟩ := h
  obtain ⟨h1, h2⟩ := ha
  obtain ⟨h3, h4⟩ := hb
  omega
theorem w_md {a b : Int} (h : md a b) : w a = w b := md_eq (w_R a) (w_R b) ((md_w a).trans (h.trans (md_w b).symm))
theorem w_eq {a : Int} (h : R64 a) : w a = a := md_eq (w_R a) h (md_w a)
def sumV (r : List RV) : List Pt → Int
  | [] => 0
  | p :: l => p.coef * (valP r p).1 + sumV r l
theorem valPs_sum (r : List RV) : ∀ (l : List Pt) (s : Int), R64 s → ((∀ p ∈ l, (valP r p).2 = true) → valPs r l s = (w (s + sumV r l), true)) ∧ (¬ (∀ p ∈ l, (valP r p).2 = true) → valPs r l s = (0, false))
  | [], s, h => by
    refine ⟨fun _ => ?_, fun h => absurd (by simp) h⟩
    rw [valPs, sumV, Int.add_zero, w_eq h]
  | p :: l, s, h => by
    obtain ⟨h1, h2⟩ := valPs_sum r l (w (s + w (p.coef * (valP r p).1))) (w_R _)
    rw [valPs, sumV]
    refine ⟨fun hp => ?_, fun hp => ?_⟩
    · rw [if_pos (hp p (by simp)), h1 fun q hq => hp q (by simp [hq])]
      refine congrArg (fun x => (x, true)) (w_md ?_)
      have e1 := ((md_w (s + w (p.coef * (valP r p).1))).trans ((md.rfl' s).add (md_w _))).add (md.rfl' (sumV r l))
      have e2 : s + p.coef * (valP r p).1 + sumV r l = s + (p.coef * (valP r p).1 + sumV r l) := by omega
      rw [← e2]; exact e1
    · split
      · rename_i hq
        exact h2 fun hh => hp fun q hq' => (List.mem_cons.1 hq').elim (fun e => e ▸ hq) (hh q)
      · rfl
theorem valT_sum {r : List RV} {t : Tm} (h : R64 t.c) (hp : ∀ p ∈ t.ps, (valP r p).2 = true) : valT r t = (w (t.c + sumV r t.ps), true) := by
  rw [valT_eq]; exact (valPs_sum r t.ps t.c h).1 hp
theorem valT_ok {r : List RV} {t : Tm} (h : R64 t.c) (hv : (valT r t).2 = true) : ∀ p ∈ t.ps, (valP r p).2 = true := by
  refine Classical.not_not.1 fun hn => ?_
  rw [valT_eq, (valPs_sum r t.ps t.c h).2 hn] at hv; cases hv
end Go.Proofs.YtfbdokfcebpkaaaDoor.W
namespace Go.Proofs.YtfbdokfcebpkaaaDoor.W
open Go.RowKit E M
set_option linter.unusedVariables false
set_option linter.unusedSimpArgs false
set_option linter.unusedSectionVars false

end Go.Proofs.YtfbdokfcebpkaaaDoor.W
namespace Go.Proofs.YtfbdokfcebpkaaaDoor.W
open Go.RowKit E M
set_option linter.unusedVariables false
set_option linter.unusedSimpArgs false
set_option linter.unusedSectionVars false
theorem lex_zero {a b : Int} : lex a b = 0 ↔ a = 0 ∧ b = 0 := by unfold lex; split <;> omega
theorem cmpP_C (p q u : Pt) : C3 (cmpP p q) (cmpP q u) (cmpP p u) := by
  rw [cmpP_lex, cmpP_lex, cmpP_lex]
  exact (C3.ints _ _ _).lex ((C3.ints _ _ _).lex ((C3.ints _ _ _).lex (cmpO_C fun o _ b c => cmpT_C o b c)))
theorem cmpP_neg (p q : Pt) : cmpP q p = -cmpP p q := by
  rw [cmpP_lex, cmpP_lex, ints_neg p.kind, ints_neg p.var, ints_neg p.dv, cmpO_neg (fun o _ b => cmpT_neg o b), lex_neg, lex_neg, lex_neg]
/-- the same part, but for the coefficient -/
def eqv (p q : Pt) : Prop := p.kind = q.kind ∧ p.var = q.var ∧ p.dv = q.dv ∧ p.of = q.of
theorem one_list {l : List Tm} (h : l.length ≤ 1) : l = [] ∨ ∃ o, l = [o] := by
  match l, h with
  | [], _ => exact .inl rfl
  | [o], _ => exact .inr ⟨o, rfl⟩
theorem cmpP_zero' {p q : Pt} (hp : vldP p = true) (hq : vldP q = true) (ih : ∀ o ∈ p.of, ∀ b, vldT o = true → vldT b = true → cmpT o b = 0 → o = b) (h : cmpP p q = 0) : eqv p q := by
  rw [cmpP_lex, lex_zero, lex_zero, lex_zero, ints_zero, ints_zero, ints_zero] at h
  obtain ⟨h1, h2, h3, h4⟩ := h
  refine ⟨h1, h2, h3, ?_⟩
  have o1 := vldP_one hp
  have o2 := vldP_one hq
  rcases one_list o1.len with e1 | ⟨o, e1⟩ <;> rcases one_list o2.len with e2 | ⟨o', e2⟩
  · rw [e1, e2]
  · rw [e1, e2, cmpO] at h4; cases h4
  · rw [e1, e2, cmpO] at h4; cases h4
  · rw [e1, e2, cmpO] at h4
    rw [e1, e2, ih o (by rw [e1]; simp) o' (o1.sub o (by rw [e1]; simp)) (o2.sub o' (by rw [e2]; simp)) h4]
theorem cmpL_zero {l : List Pt} (hi : ∀ p ∈ l, vldP p = true ∧ ∀ o ∈ p.of, ∀ b, vldT o = true → vldT b = true → cmpT o b = 0 → o = b) : ∀ {m : List Pt} {e : Int}, (∀ q ∈ m, vldP q = true) → cmpL l m e = 0 → l = m ∧ e = 0 := by
  induction l with
  | nil =>
    intro m e hm h
    cases m with
    | nil => rw [cmpL] at h; exact ⟨rfl, h⟩
    | cons q s => rw [cmpL] at h; cases h
  | cons p r ih =>
    intro m e hm h
    cases m with
    | nil => rw [cmpL] at h; cases h
    | cons q s =>
      rw [cmpL_lex, lex_zero, lex_zero, ints_zero] at h
      obtain ⟨h1, h2, h3⟩ := h
      obtain ⟨k1, k2, k3, k4⟩ := cmpP_zero' (hi p (by simp)).1 (hm q (by simp)) (hi p (by simp)).2 h1
      obtain ⟨e1, e2⟩ := ih (fun x hx => hi x (by simp [hx])) (fun x hx => hm x (by simp [hx])) h3
      refine ⟨?_, e2⟩
      rw [e1]
      have : p = q := by cases p; cases q; simp_all
      rw [this]
theorem cmpT_zero (a : Tm) : ∀ b, vldT a = true → vldT b = true → cmpT a b = 0 → a = b := by
  induction a using Tm.ind with
  | h a ih =>
    intro b ha hb h
    rw [cmpT_eq] at h
    obtain ⟨h1, h2⟩ := cmpL_zero (fun p hp => ⟨vld_parts ha p hp, fun o ho b hv hv' h => ih p hp o ho b hv hv' h⟩) (vld_parts hb) h
    rw [ints_zero] at h2
    cases a; cases b; simp_all
theorem cmpP_zero {p q : Pt} (hp : vldP p = true) (hq : vldP q = true) (h : cmpP p q = 0) : eqv p q := cmpP_zero' hp hq (fun o _ b => cmpT_zero o b) h
abbrev av (l : List Pt) : Prop := ∀ p ∈ l, vldP p = true
theorem av.tl {p : Pt} {l : List Pt} (h : av (p :: l)) : av l := fun q hq => h q (by simp [hq])
theorem av.hd {p : Pt} {l : List Pt} (h : av (p :: l)) : vldP p = true := h p (by simp)
theorem vldP_nz {p : Pt} (h : vldP p = true) : p.coef ≠ 0 := fun e => by rw [vT0 e] at h; cases h
theorem nzc_yes {p : Pt} {l : List Pt} (h : p.coef ≠ 0) : nzc p l = p :: l := if_pos h
theorem mrg_nilL : ∀ {b : List Pt}, av b → mrg [] b = b
  | [], _ => by rw [mrg]
  | q :: s, h => by rw [mrg, nzc_yes (vldP_nz h.hd), mrg_nilL h.tl]
theorem mrg_nilR : ∀ {a : List Pt}, av a → mrg a [] = a
  | [], _ => by rw [mrg]
  | q :: s, h => by rw [mrg, nzc_yes (vldP_nz h.hd), mrg_nilR h.tl]
abbrev addQ (x p : Pt) : Pt := ⟨x.coef + p.coef, x.kind, x.var, x.dv, x.of⟩
theorem addQ_eq {x p : Pt} (h : eqv x p) : addQ x p = addP x p := by
  obtain ⟨h1, h2, h3, h4⟩ := h
  unfold addP addQ
  rw [h1, h2, h3, h4, Int.add_comm]
def insG : Bool → List Pt → Pt → List Pt
  | b, [], p => if b then [] else [p]
  | true, x :: r, p => x :: insG true r p
  | false, x :: r, p => if cmpP x p = 0 then nzc (addQ x p) (insG true r p) else if 0 < cmpP x p then p :: x :: insG true r p else x :: insG false r p
theorem insG_true : ∀ (l : List Pt) (p : Pt), insG true l p = l
  | [], p => rfl
  | x :: r, p => by rw [insG, insG_true r p]
theorem ins_mrg : ∀ {l : List Pt} {p : Pt}, av l → vldP p = true → insG false l p = mrg l [p]
  | [], p, _, hp => by rw [mrg, nzc_yes (vldP_nz hp), mrg]; rfl
  | x :: r, p, h, hp => by
    rw [insG, mrg]
    by_cases h0 : cmpP x p = 0
    · rw [if_pos h0, if_neg (by omega), if_neg (by omega), insG_true, addQ_eq (cmpP_zero h.hd hp h0), mrg_nilR h.tl]
    · rw [if_neg h0]
      by_cases h1 : 0 < cmpP x p
      · rw [if_pos h1, if_neg (by omega), if_pos h1, nzc_yes (vldP_nz hp), mrg_nilR h, insG_true]
      · rw [if_neg h1, if_pos (by omega), nzc_yes (vldP_nz h.hd), ins_mrg h.tl hp]
theorem mrg_cc (p : Pt) (r : List Pt) (q : Pt) (s : List Pt) : mrg (p :: r) (q :: s) = if cmpP p q < 0 then nzc p (mrg r (q :: s)) else if 0 < cmpP p q then nzc q (mrg (p :: r) s) else nzc (addP p q) (mrg r s) := by rw [mrg]
theorem mrg_step : ∀ {a : List Pt} {p : Pt} {b : List Pt}, av a → vldP p = true → av b → (∀ q ∈ b, cmpP p q < 0) → mrg (mrg a [p]) b = mrg a (p :: b)
  | [], p, b, _, hp, hb, hlt => by
    rw [mrg, mrg, nzc_yes (vldP_nz hp), mrg, nzc_yes (vldP_nz hp), mrg_nilL hb]
    cases b with
    | nil => rw [mrg, nzc_yes (vldP_nz hp), mrg]
    | cons q s => rw [mrg, if_pos (hlt q (by simp)), nzc_yes (vldP_nz hp), mrg_nilL hb]
  | x :: r, p, b, ha, hp, hb, hlt => by
    rw [mrg_cc x r p [], mrg_cc x r p b]
    by_cases h0 : cmpP x p < 0
    · rw [if_pos h0, if_pos h0, nzc_yes (vldP_nz ha.hd), nzc_yes (vldP_nz ha.hd)]
      have ih := mrg_step ha.tl hp hb hlt
      cases b with
      | nil => rw [mrg, nzc_yes (vldP_nz ha.hd), ih]
      | cons q s => rw [mrg, if_pos ((cmpP_C x p q).lt h0 (by have := hlt q (by simp); omega)), nzc_yes (vldP_nz ha.hd), ih]
    · rw [if_neg h0, if_neg h0]
      by_cases h1 : 0 < cmpP x p
      · rw [if_pos h1, if_pos h1, nzc_yes (vldP_nz hp), nzc_yes (vldP_nz hp), mrg_nilR ha]
        cases b with
        | nil => rw [mrg, nzc_yes (vldP_nz hp)]
        | cons q s => rw [mrg, if_pos (hlt q (by simp)), nzc_yes (vldP_nz hp)]
      · rw [if_neg h1, if_neg h1, mrg_nilR ha.tl]
        unfold nzc
        split
        · rename_i hc
          cases b with
          | nil => rw [mrg, nzc_yes hc]
          | cons q s =>
            have e : cmpP (addP x p) q = cmpP p q := by rw [cmpP_eq, cmpP_eq]; rfl
            rw [mrg, e, if_pos (hlt q (by simp)), nzc_yes hc]
        · rfl
theorem vldP_addP {p q : Pt} (hq : vldP q = true) (hc : (addP p q).coef ≠ 0) : vldP (addP p q) = true := by
  rw [vldP_eq] at hq ⊢
  rw [show decide ((addP p q).coef ≠ 0) = true from decide_eq_true hc]
  simp only [Bool.and_eq_true] at hq
  exact hq.2
theorem mrg_av : ∀ {a b : List Pt}, av a → av b → av (mrg a b)
  | [], b, _, hb => by rw [mrg_nilL hb]; exact hb
  | x :: r, [], ha, _ => by rw [mrg_nilR ha]; exact ha
  | x :: r, y :: s, ha, hb => by
    intro p hp
    rw [mrg] at hp
    split at hp
    · rcases mem_nzc hp with rfl | hp
      · exact ha.hd
      · exact mrg_av ha.tl hb p hp
    · split at hp
      · rcases mem_nzc hp with rfl | hp
        · exact hb.hd
        · exact mrg_av ha hb.tl p hp
      · unfold nzc at hp
        split at hp
        · rename_i hc
          rcases List.mem_cons.1 hp with rfl | hp
          · exact vldP_addP hb.hd hc
          · exact mrg_av ha.tl hb.tl p hp
        · exact mrg_av ha.tl hb.tl p hp
termination_by a b => a.length + b.length
abbrev foldI (l b : List Pt) : List Pt := b.foldl (fun l p => insG false l p) l
theorem fold_mrg : ∀ {b a : List Pt}, av a → av b → b.Pairwise (fun p q => cmpP p q < 0) → foldI a b = mrg a b
  | [], a, ha, _, _ => by rw [mrg_nilR ha]; rfl
  | p :: b, a, ha, hb, hp => by
    rw [List.pairwise_cons] at hp
    show foldI (insG false a p) b = _
    rw [ins_mrg ha hb.hd, fold_mrg (mrg_av ha (fun q hq => by simp at hq; rw [hq]; exact hb.hd)) hb.tl hp.2, mrg_step ha hb.hd hb.tl hp.1]
theorem mrg_comm : ∀ {a b : List Pt}, av a → av b → mrg a b = mrg b a
  | [], b, _, hb => by rw [mrg_nilL hb, mrg_nilR hb]
  | x :: r, [], ha, _ => by rw [mrg_nilL ha, mrg_nilR ha]
  | x :: r, y :: s, ha, hb => by
    rw [mrg, mrg, cmpP_neg x y]
    by_cases h0 : cmpP x y < 0
    · rw [if_pos h0, if_neg (by omega), if_pos (by omega), mrg_comm ha.tl hb]
    · rw [if_neg h0]
      by_cases h1 : 0 < cmpP x y
      · rw [if_pos h1, if_pos (by omega), mrg_comm ha hb.tl]
      · rw [if_neg h1, if_neg (by omega), if_neg (by omega), mrg_comm ha.tl hb.tl]
        obtain ⟨e1, e2, e3, e4⟩ := cmpP_zero ha.hd hb.hd (by omega)
        have : addP x y = addP y x := by unfold addP; rw [e1, e2, e3, e4, Int.add_comm]
        rw [this]
termination_by a b => a.length + b.length
abbrev pw (l : List Pt) : Prop := l.Pairwise (fun p q => cmpP p q < 0)
theorem ascB_pw : ∀ {l : List Pt}, ascB l = true → pw l
  | [], _ => .nil
  | [p], _ => by simp [pw]
  | p :: q :: r, h => by
    simp only [ascB, Bool.and_eq_true, decide_eq_true_eq] at h
    have ih : pw (q :: r) := ascB_pw h.2
    refine List.pairwise_cons.2 ⟨fun u hu => ?_, ih⟩
    rcases List.mem_cons.1 hu with rfl | hu
    · exact h.1
    · exact (cmpP_C p q u).lt h.1 (by have := (List.pairwise_cons.1 ih).1 u hu; omega)
theorem pw_ascB : ∀ {l : List Pt}, pw l → ascB l = true
  | [], _ => rfl
  | [p], _ => rfl
  | p :: q :: r, h => by
    have h' := List.pairwise_cons.1 h
    simp only [ascB, Bool.and_eq_true, decide_eq_true_eq]
    exact ⟨h'.1 q (by simp), pw_ascB h'.2⟩
theorem pw_nzc {p : Pt} {l : List Pt} (h : pw l) (hp : ∀ q ∈ l, cmpP p q < 0) : pw (nzc p l) := by
  unfold nzc; split
  · exact List.pairwise_cons.2 ⟨hp, h⟩
  · exact h
theorem nzc_lo {u p : Pt} {l : List Pt} (h : ∀ q ∈ l, cmpP u q < 0) (hp : cmpP u p < 0) : ∀ q ∈ nzc p l, cmpP u q < 0 := fun q hq => by
  rcases mem_nzc hq with rfl | hq
  · exact hp
  · exact h q hq
theorem mrg_lo (u : Pt) : ∀ {a b : List Pt}, (∀ q ∈ a, cmpP u q < 0) → (∀ q ∈ b, cmpP u q < 0) → ∀ q ∈ mrg a b, cmpP u q < 0
  | [], [], _, _ => by rw [mrg]; simp
  | [], y :: s, ha, hb => by rw [mrg]; exact nzc_lo (mrg_lo u ha fun q hq => hb q (by simp [hq])) (hb y (by simp))
  | x :: r, [], ha, hb => by rw [mrg]; exact nzc_lo (mrg_lo u (fun q hq => ha q (by simp [hq])) hb) (ha x (by simp))
  | x :: r, y :: s, ha, hb => by
    have ha' : ∀ q ∈ r, cmpP u q < 0 := fun q hq => ha q (by simp [hq])
    have hb' : ∀ q ∈ s, cmpP u q < 0 := fun q hq => hb q (by simp [hq])
    rw [mrg]
    split
    · exact nzc_lo (mrg_lo u ha' hb) (ha x (by simp))
    · split
      · exact nzc_lo (mrg_lo u ha hb') (hb y (by simp))
      · refine nzc_lo (mrg_lo u ha' hb') ?_
        have e : cmpP u (addP x y) = cmpP u y := by rw [cmpP_eq, cmpP_eq]; rfl
        rw [e]; exact hb y (by simp)
termination_by a b => a.length + b.length
theorem mrg_pw : ∀ {a b : List Pt}, pw a → pw b → pw (mrg a b)
  | [], [], _, _ => by rw [mrg]; exact .nil
  | [], y :: s, ha, hb => by
    have h := List.pairwise_cons.1 hb
    rw [mrg]; exact pw_nzc (mrg_pw ha h.2) (mrg_lo y (by simp) h.1)
  | x :: r, [], ha, hb => by
    have h := List.pairwise_cons.1 ha
    rw [mrg]; exact pw_nzc (mrg_pw h.2 hb) (mrg_lo x h.1 (by simp))
  | x :: r, y :: s, ha, hb => by
    have h := List.pairwise_cons.1 ha
    have h' := List.pairwise_cons.1 hb
    rw [mrg]
    split
    · rename_i h0
      refine pw_nzc (mrg_pw h.2 hb) (mrg_lo x h.1 fun q hq => ?_)
      rcases List.mem_cons.1 hq with rfl | hq
      · exact h0
      · exact (cmpP_C x y q).lt h0 (by have := h'.1 q hq; omega)
    · split
      · rename_i h1
        have h1' : cmpP y x < 0 := by rw [cmpP_neg]; omega
        refine pw_nzc (mrg_pw ha h'.2) (mrg_lo y (fun q hq => ?_) h'.1)
        rcases List.mem_cons.1 hq with rfl | hq
        · exact h1'
        · exact (cmpP_C y x q).lt h1' (by have := h.1 q hq; omega)
      · have h1' : cmpP y x ≤ 0 := by rw [cmpP_neg]; omega
        have e : ∀ q, cmpP (addP x y) q = cmpP y q := fun q => by rw [cmpP_eq, cmpP_eq]; rfl
        refine pw_nzc (mrg_pw h.2 h'.2) (mrg_lo _ (fun q hq => ?_) fun q hq => by rw [e]; exact h'.1 q hq)
        rw [e]
        exact (cmpP_C y x q).tl h1' (h.1 q hq)
termination_by a b => a.length + b.length
theorem vld_pw {t : Tm} (h : vldT t = true) : pw t.ps := by
  rw [vldT_eq] at h
  simp only [Bool.and_eq_true] at h
  exact ascB_pw h.1.2
theorem sum_vld {a b : Tm} (ha : vldT a = true) (hb : vldT b = true) : vldT (lim (sumT a b)).1 = true := by
  unfold lim; split
  · rename_i hs
    rw [vldT_eq, hs, vldPs_iff.2 (mrg_av (vld_parts ha) (vld_parts hb)), pw_ascB (mrg_pw (vld_pw ha) (vld_pw hb))]; rfl
  · exact vld0
theorem add_comm' {a b : Tm} (ha : vldT a = true) (hb : vldT b = true) : add b a = add a b := by
  unfold add sumT
  rw [mrg_comm (vld_parts hb) (vld_parts ha), Int.add_comm]
theorem valP_eqv (r : List RV) {p q : Pt} (h : eqv p q) : valP r p = valP r q := by
  obtain ⟨h1, h2, h3, h4⟩ := h
  rw [valP_eq, valP_eq, h1, h2, h3, h4]
theorem valP_addP (r : List RV) (p q : Pt) : valP r (addP p q) = valP r q := valP_eqv r ⟨rfl, rfl, rfl, rfl⟩
theorem sumV_nzc (r : List RV) (p : Pt) (l : List Pt) : sumV r (nzc p l) = p.coef * (valP r p).1 + sumV r l := by
  unfold nzc; split
  · rw [sumV]
  · rename_i h
    rw [Classical.not_not.1 h]; omega
theorem sumV_mrg (r : List RV) : ∀ {a b : List Pt}, av a → av b → sumV r (mrg a b) = sumV r a + sumV r b
  | [], b, _, hb => by rw [mrg_nilL hb, sumV]; omega
  | x :: l, [], ha, _ => by rw [mrg_nilR ha]; simp only [sumV]; omega
  | x :: l, y :: s, ha, hb => by
    rw [mrg]
    split
    · rw [sumV_nzc, sumV_mrg r ha.tl hb]; simp only [sumV]; omega
    · split
      · rw [sumV_nzc, sumV_mrg r ha hb.tl]; simp only [sumV]; omega
      · rw [sumV_nzc, sumV_mrg r ha.tl hb.tl, valP_addP]
        have e := valP_eqv r (cmpP_zero ha.hd hb.hd (by omega))
        simp only [sumV, e]
        show (y.coef + x.coef) * _ + _ = _
        rw [Int.add_mul]; omega
termination_by a b => a.length + b.length
theorem valP_mrg (r : List RV) {a b : List Pt} (ha : ∀ p ∈ a, p.coef.natAbs ≤ 2 ^ 20) (hb : ∀ p ∈ b, p.coef.natAbs ≤ 2 ^ 20) (va : ∀ p ∈ a, (valP r p).2 = true) (vb : ∀ p ∈ b, (valP r p).2 = true) : ∀ p ∈ mrg a b, (valP r p).2 = true := fun p hp => by
  obtain ⟨⟨q, hq, h1, h2, h3, h4⟩, _⟩ := mrg_mem a b ha hb p hp
  rw [valP_eqv r ⟨h1, h4, h2, h3⟩]
  exact (List.mem_append.1 hq).elim (va q) (vb q)
theorem add_val {r : List RV} {a b : Tm} (ha : vldT a = true) (hb : vldT b = true) (hs : (add a b).2 = 0) (va : (valT r a).2 = true) (vb : (valT r b).2 = true) : valT r (add a b).1 = (w ((valT r a).1 + (valT r b).1), true) := by
  have ca := (vldT_bok ha).c
  have cb := (vldT_bok hb).c
  have pa := valT_ok ca va
  have pb := valT_ok cb vb
  obtain ⟨h1, h2⟩ := lim_ok hs
  unfold add
  rw [h1, valT_sum ca pa, valT_sum cb pb]
  have hm : R64 (sumT a b).c := (sum_bok ha hb).1.c
  rw [valT_sum hm (valP_mrg r (vld_coef ha).2 (vld_coef hb).2 pa pb)]
  refine congrArg (fun x => (x, true)) (w_md ?_)
  show md (a.c + b.c + sumV r (mrg a.ps b.ps)) _
  rw [sumV_mrg r (vld_parts ha) (vld_parts hb)]
  have e : a.c + b.c + (sumV r a.ps + sumV r b.ps) = (a.c + sumV r a.ps) + (b.c + sumV r b.ps) := by omega
  rw [e]
  exact ((md_w _).add (md_w _)).symm

end Go.Proofs.YtfbdokfcebpkaaaDoor.W
namespace Go.Proofs.YtfbdokfcebpkaaaDoor.W
open Go.RowKit E M
set_option linter.unusedVariables false
set_option linter.unusedSimpArgs false
set_option linter.unusedSectionVars false
theorem insG_eq {l : List Pt} {i : Nat} {p : Pt} (hi : i < l.length) (h : cmpP l[i] p = 0) : insG false (l.drop i) p = nzc (addQ l[i] p) (insG true (l.drop (i + 1)) p) := by
  rw [List.drop_eq_getElem_cons hi, insG, if_pos h]
theorem insG_gt {l : List Pt} {i : Nat} {p : Pt} (hi : i < l.length) (h : 0 < cmpP l[i] p) : insG false (l.drop i) p = [p, l[i]] ++ insG true (l.drop (i + 1)) p := by
  rw [List.drop_eq_getElem_cons hi, insG, if_neg (by omega), if_pos h]; rfl
theorem insG_lt {l : List Pt} {i : Nat} {p : Pt} (hi : i < l.length) (h0 : ¬ cmpP l[i] p = 0) (h : ¬ 0 < cmpP l[i] p) : insG false (l.drop i) p = [l[i]] ++ insG false (l.drop (i + 1)) p := by
  rw [List.drop_eq_getElem_cons hi, insG, if_neg h0, if_neg h]; rfl
theorem insG_on {l : List Pt} {i : Nat} {p : Pt} (hi : i < l.length) : insG true (l.drop i) p = [l[i]] ++ insG true (l.drop (i + 1)) p := by
  rw [List.drop_eq_getElem_cons hi, insG]; rfl
theorem put_app {out r full m e : List Pt} (h : m = e ++ r) (hI : out ++ m = full) : (out ++ e) ++ r = full := by
  rw [← hI, h]; simp
abbrev coB (l : List Pt) (M : Nat) : Prop := ∀ p ∈ l, p.coef.natAbs ≤ M

set_option maxHeartbeats 4000000 in
set_option maxRecDepth 20000 in
theorem insert_any (l : List Pt) (p : Pt) (z : Nz) (hl : cntPs l ≤ 100000) (hc : coB l (2 ^ 60)) (hp : p.coef.natAbs ≤ 2 ^ 60) : Pure Tryd.prog 69 [.a (.t (.sl z 5 (l.map ptT))), ptC p] (.c (.a (.t (.sl .un 5 ((insG false l p).map ptT))))) := by
  intro H
  refine Spec.enter Tryd.func69 rfl ?_
  refine AW.wk (Wk.keep 63 [(0, .c (.a (.t (.sl z 5 (l.map ptT))))), (1, .c (ptC p))] [] (H) rfl ⟨rfl, rfl, trivial⟩ trivial (fun _ _ h => h) rfl) ?_
  refine AW.seq ?_
  refine AW.reg ?_
  refine SeqK.r (b_box (r := [_, _, _, _, _]) rfl rfl rfl rfl rfl rfl) rfl ?_
  refine SeqK.q (q_asC rfl rfl) rfl rfl rfl ?_
  refine SeqK.nil ?_
  refine AW.seq ?_
  have hll := cntPs_len l
  refine AW.reg ?_
  refine SeqK.q (q_asC rfl rfl) rfl rfl rfl ?_
  refine SeqK.nil ?_
  refine AW.seq ?_
  refine AW.reg ?_
  refine SeqK.q (q_asC rfl rfl) rfl rfl rfl ?_
  refine SeqK.nil ?_
  refine AW.seq ?_
  refine AW.seq ?_
  refine AW.reg ?_
  refine SeqK.q (q_asC rfl rfl) rfl rfl rfl ?_
  refine SeqK.nil ?_
  refine AW.block ?_
  refine AW.tip 5 62 5 rfl (fun k0 hk0 => ?_)
  refine AW.loop (fun (i : Nat) s => ∃ (kt : Nat) (out : List Pt) (zs : List (List E.T)) (pb : Bool), (i ≤ l.length ∧ H kt = none ∧ out.length ≤ i + pb.toNat ∧ zs = out.map ptT ∧ out ++ insG pb (l.drop i) p = insG false l p) ∧ s = ⟨63, sp [(0, .c (.a (.t (.sl z 5 (l.map ptT))))), (3, .lp 3 0), (4, .c (.a (.t (.v (.slice none 0 0))))), (5, .c (.a (.ts kt .ne 5 zs))), (6, bX pb), (7, iX .i64 ((i : Nat) : Int))], lv [(3, .box [.t (.v (.int .i64 p.coef)), .t (.v (.int .i64 p.kind)), .t (.v (.int .i64 p.var)), .t (.v (.int .i64 p.dv)), .t (.sl .un 2 (p.of.map tmT))])], upd H kt (some (.tip 62 5 zs.length))⟩) (fun i => l.length - i) 0 ⟨_, Wk.keep 63 [(0, .c (.a (.t (.sl z 5 (l.map ptT))))), (3, .lp 3 0), (4, .c (.a (.t (.v (.slice none 0 0))))), (5, .c (.a (.ts (k0) .ne 5 ([])))), (6, bX (false)), (7, iX .i64 ((((0 : Nat)) : Nat) : Int))] [(3, .box [.t (.v (.int .i64 p.coef)), .t (.v (.int .i64 p.kind)), .t (.v (.int .i64 p.var)), .t (.v (.int .i64 p.dv)), .t (.sl .un 2 (p.of.map tmT))])] (upd H (k0) (some (.tip 62 5 ([]).length))) rfl ⟨rfl, rfl, rfl, rfl, rfl, rfl, trivial⟩ ⟨rfl, trivial⟩ (fun _ _ h => h) rfl, k0, [], [], false, ⟨Nat.zero_le _, hk0, by simp, rfl, rfl⟩, rfl⟩ (fun i s hs => ?_)
  obtain ⟨kt, out, zs, pb, ⟨hi0, hkt, hol, hzs, hI⟩, rfl⟩ := hs
  refine AW.seq ?_
  refine AW.seq ?_
  refine AW.reg ?_
  refine SeqK.q (q_mvC rfl rfl) rfl rfl rfl ?_
  refine SeqK.q (q_mvC rfl rfl) rfl rfl rfl ?_
  refine SeqK.q (q_len rfl Fx.un22 rfl) rfl rfl rfl ?_
  refine SeqK.q (q_lss rfl rfl rfl) rfl rfl rfl ?_
  refine SeqK.nil ?_
  refine AW.condD rfl (fun h13 => ?_) (fun h13 => ?_)
  ·
    have hi : i < l.length := by rw [List.length_map] at h13; omega
    have hci := hc _ (List.getElem_mem hi)
    refine AW.skip ?_
    refine AW.seq ?_
    refine AW.block ?_
    refine AW.seq ?_
    refine AW.reg ?_
    refine SeqK.q (q_asC rfl rfl) rfl rfl rfl ?_
    refine SeqK.nil ?_
    refine AW.seq ?_
    refine AW.seq ?_
    refine AW.reg ?_
    refine SeqK.q (q_mvC rfl rfl) rfl rfl rfl ?_
    refine SeqK.q (q_not rfl rfl) rfl rfl rfl ?_
    refine SeqK.nil ?_
    refine AW.cond _ rfl (fun h17 => ?_) (fun h17 => ?_)
    ·
      have hpb : pb = false := by simpa using h17
      have hIf : out ++ insG false (l.drop i) p = insG false l p := by rw [hpb] at hI; exact hI
      have hol2 : out.length ≤ i := by rw [hpb] at hol; simpa using hol
      refine AW.draw Fx.mo ?_
      refine LexK.q (q_mvC rfl rfl) rfl rfl rfl ?_
      refine LexK.q (q_mvC rfl rfl) rfl rfl rfl ?_
      refine LexK.q (q_index _ rfl Fx.sl22 rfl rfl (by omega) (idx_map (f := ptT) hi)) rfl rfl rfl ?_
      refine LexK.q (q_load (.g [_, _, _, _, _]) rfl Fx.ty62 rfl rfl rfl) rfl rfl rfl ?_
      refine LexK.r (b_load (r := .g [_, _, _, _, _]) rfl Fx.ty62 rfl rfl rfl rfl rfl rfl) rfl ?_
      refine LexK.q (q_call _ rfl Fx.fn44 rfl (rparts_any _ _ (by have := cntPs_mem (List.getElem_mem hi); omega)) rfl) rfl rfl rfl ?_
      refine LexK.q (q_asC rfl rfl) rfl rfl rfl ?_
      refine LexK.nil (by kernel_rfl) ?_
      refine AW.seq ?_
      refine AW.seq ?_
      refine AW.reg ?_
      refine SeqK.q (q_mvC rfl rfl) rfl rfl rfl ?_
      refine SeqK.q (q_eql rfl rfl rfl) rfl rfl rfl ?_
      refine SeqK.nil ?_
      refine AW.condD rfl (fun h25 => ?_) (fun h25 => ?_)
      ·
        refine AW.seq ?_
        refine AW.reg ?_
        refine SeqK.q (q_asC rfl rfl) rfl rfl rfl ?_
        refine SeqK.nil ?_
        refine AW.seq ?_
        refine AW.reg ?_
        refine SeqK.q (q_mvC rfl rfl) rfl rfl rfl ?_
        refine SeqK.q (q_mvC rfl rfl) rfl rfl rfl ?_
        refine SeqK.q (q_index _ rfl Fx.sl22 rfl rfl (by omega) (idx_map (f := ptT) hi)) rfl rfl rfl ?_
        refine SeqK.q (q_load (.g [_, _, _, _, _]) rfl Fx.ty62 rfl rfl rfl) rfl rfl rfl ?_
        refine SeqK.r (b_alloc (r := [_, _, _, _, _]) rfl rfl Fx.ze62 rfl rfl rfl rfl) rfl ?_
        refine SeqK.r (b_store (r := [_, _, _, _, _]) rfl rfl Fx.ty62 rfl rfl rfl rfl rfl rfl) rfl ?_
        refine SeqK.nil ?_
        refine AW.seq ?_
        refine AW.reg ?_
        refine SeqK.q (q_fieldL _ rfl Fx.fl62_0 rfl rfl) rfl rfl rfl ?_
        refine SeqK.r (b_load (r := .a _) rfl Fx.ty2 rfl rfl rfl rfl rfl rfl) rfl ?_
        refine SeqK.q (q_fieldL _ rfl Fx.fl62_0 rfl rfl) rfl rfl rfl ?_
        refine SeqK.r (b_load (r := .a _) rfl Fx.ty2 rfl rfl rfl rfl rfl rfl) rfl ?_
        refine SeqK.q (q_add _ rfl rfl rfl (w64 (by omega) (by omega))) rfl rfl rfl ?_
        refine SeqK.q (q_fieldL _ rfl Fx.fl62_0 rfl rfl) rfl rfl rfl ?_
        refine SeqK.r (b_store (r := [_, _, _, _, _]) rfl rfl Fx.ty2 rfl rfl rfl rfl rfl rfl) rfl ?_
        refine SeqK.nil ?_
        refine AW.seq ?_
        refine AW.seq ?_
        refine AW.reg ?_
        refine SeqK.q (q_fieldL _ rfl Fx.fl62_0 rfl rfl) rfl rfl rfl ?_
        refine SeqK.r (b_load (r := .a _) rfl Fx.ty2 rfl rfl rfl rfl rfl rfl) rfl ?_
        refine SeqK.q (q_neq rfl rfl rfl) rfl rfl rfl ?_
        refine SeqK.nil ?_
        refine AW.condD rfl (fun h38 => ?_) (fun h38 => ?_)
        ·
          refine AW.reg ?_
          refine SeqK.q (q_mvC rfl rfl) rfl rfl rfl ?_
          refine SeqK.r (b_load (r := .g [_, _, _, _, _]) rfl Fx.ty62 rfl rfl rfl rfl rfl rfl) rfl ?_
          refine SeqK.q (q_buildSlice _ rfl Fx.el22 rfl (by decide) rfl) rfl rfl rfl ?_
          refine SeqK.app1 rfl (hkt) rfl Fx.el22 rfl rfl (by have hzl : zs.length = out.length := (by rw [hzs, List.length_map]); have := Bool.toNat_le pb; simp; omega) rfl rfl (fun k42 hk42 => ?_)
          refine SeqK.q (q_asC rfl rfl) rfl rfl rfl ?_
          refine SeqK.nil ?_
          refine AW.exit ?_
          refine eth_e ?_
          refine exit_here ?_
          refine AW.reg ?_
          refine SeqK.q (q_mvC rfl rfl) rfl rfl rfl ?_
          refine SeqK.q (q_add _ rfl rfl rfl (w64 (by omega) (by omega))) rfl rfl rfl ?_
          refine SeqK.q (q_asC rfl rfl) rfl rfl rfl ?_
          refine SeqK.nil ?_
          exact ⟨i + 1, _, Wk.keep 63 [(0, .c (.a (.t (.sl z 5 (l.map ptT))))), (3, .lp 3 0), (4, .c (.a (.t (.v (.slice none 0 0))))), (5, .c (.a (.ts (k42) .ne 5 (zs ++ [ptT (addQ l[i] p)])))), (6, bX (true)), (7, iX .i64 (((i + 1) : Nat) : Int))] [(3, .box [.t (.v (.int .i64 p.coef)), .t (.v (.int .i64 p.kind)), .t (.v (.int .i64 p.var)), .t (.v (.int .i64 p.dv)), .t (.sl .un 2 (p.of.map tmT))])] (upd H (k42) (some (.tip 62 5 (zs ++ [ptT (addQ l[i] p)]).length))) rfl ⟨rfl, rfl, rfl, rfl, rfl, rfl, trivial⟩ ⟨rfl, trivial⟩ (fun _ _ h => h) rfl, by omega, k42, out ++ [addQ l[i] p], zs ++ [ptT (addQ l[i] p)], true, ⟨by omega, hk42, by first | (simp; omega) | (rw [hpb]; simp; omega), (map_put hzs), put_nz (insG_eq hi h25) hIf h38⟩, rfl⟩
        ·
          refine AW.skip ?_
          refine AW.exit ?_
          refine eth_e ?_
          refine exit_here ?_
          refine AW.reg ?_
          refine SeqK.q (q_mvC rfl rfl) rfl rfl rfl ?_
          refine SeqK.q (q_add _ rfl rfl rfl (w64 (by omega) (by omega))) rfl rfl rfl ?_
          refine SeqK.q (q_asC rfl rfl) rfl rfl rfl ?_
          refine SeqK.nil ?_
          exact ⟨i + 1, _, Wk.keep 63 [(0, .c (.a (.t (.sl z 5 (l.map ptT))))), (3, .lp 3 0), (4, .c (.a (.t (.v (.slice none 0 0))))), (5, .c (.a (.ts (kt) .ne 5 (zs)))), (6, bX (true)), (7, iX .i64 (((i + 1) : Nat) : Int))] [(3, .box [.t (.v (.int .i64 p.coef)), .t (.v (.int .i64 p.kind)), .t (.v (.int .i64 p.var)), .t (.v (.int .i64 p.dv)), .t (.sl .un 2 (p.of.map tmT))])] (upd H (kt) (some (.tip 62 5 (zs).length))) rfl ⟨rfl, rfl, rfl, rfl, rfl, rfl, trivial⟩ ⟨rfl, trivial⟩ (fun _ _ h => h) rfl, by omega, kt, out, zs, true, ⟨by omega, hkt, by first | (simp; omega) | (rw [hpb]; simp; omega), hzs, put_z (insG_eq hi h25) hIf h38⟩, rfl⟩
      ·
        refine AW.skip ?_
        refine AW.seq ?_
        refine AW.seq ?_
        refine AW.reg ?_
        refine SeqK.q (q_mvC rfl rfl) rfl rfl rfl ?_
        refine SeqK.q (q_gtr rfl rfl rfl) rfl rfl rfl ?_
        refine SeqK.nil ?_
        refine AW.condD rfl (fun h44 => ?_) (fun h44 => ?_)
        ·
          refine AW.seq ?_
          refine AW.reg ?_
          refine SeqK.q (q_asC rfl rfl) rfl rfl rfl ?_
          refine SeqK.nil ?_
          refine AW.reg ?_
          refine SeqK.q (q_mvC rfl rfl) rfl rfl rfl ?_
          refine SeqK.r (b_load (r := .g [_, _, _, _, _]) rfl Fx.ty62 rfl rfl rfl rfl rfl rfl) rfl ?_
          refine SeqK.q (q_buildSlice _ rfl Fx.el22 rfl (by decide) rfl) rfl rfl rfl ?_
          refine SeqK.app1 rfl (hkt) rfl Fx.el22 rfl rfl (by have hzl : zs.length = out.length := (by rw [hzs, List.length_map]); have := Bool.toNat_le pb; simp; omega) rfl rfl (fun k48 hk48 => ?_)
          refine SeqK.q (q_asC rfl rfl) rfl rfl rfl ?_
          refine SeqK.nil ?_
          refine AW.reg ?_
          refine SeqK.q (q_mvC rfl rfl) rfl rfl rfl ?_
          refine SeqK.q (q_mvC rfl rfl) rfl rfl rfl ?_
          refine SeqK.q (q_mvC rfl rfl) rfl rfl rfl ?_
          refine SeqK.q (q_index _ rfl Fx.sl22 rfl rfl (by omega) (idx_map (f := ptT) hi)) rfl rfl rfl ?_
          refine SeqK.q (q_load (.g [_, _, _, _, _]) rfl Fx.ty62 rfl rfl rfl) rfl rfl rfl ?_
          refine SeqK.q (q_buildSlice _ rfl Fx.el22 rfl (by decide) rfl) rfl rfl rfl ?_
          refine SeqK.app1 rfl (by assumption) rfl Fx.el22 rfl rfl (by have hzl : zs.length = out.length := (by rw [hzs, List.length_map]); have := Bool.toNat_le pb; simp; omega) rfl rfl (fun k55 hk55 => ?_)
          refine SeqK.q (q_asC rfl rfl) rfl rfl rfl ?_
          refine SeqK.nil ?_
          refine AW.reg ?_
          refine SeqK.q (q_mvC rfl rfl) rfl rfl rfl ?_
          refine SeqK.q (q_add _ rfl rfl rfl (w64 (by omega) (by omega))) rfl rfl rfl ?_
          refine SeqK.q (q_asC rfl rfl) rfl rfl rfl ?_
          refine SeqK.nil ?_
          exact ⟨i + 1, _, Wk.keep 63 [(0, .c (.a (.t (.sl z 5 (l.map ptT))))), (3, .lp 3 0), (4, .c (.a (.t (.v (.slice none 0 0))))), (5, .c (.a (.ts (k55) .ne 5 (zs ++ [ptT (p)] ++ [ptT (l[i])])))), (6, bX (true)), (7, iX .i64 (((i + 1) : Nat) : Int))] [(3, .box [.t (.v (.int .i64 p.coef)), .t (.v (.int .i64 p.kind)), .t (.v (.int .i64 p.var)), .t (.v (.int .i64 p.dv)), .t (.sl .un 2 (p.of.map tmT))])] (upd H (k55) (some (.tip 62 5 (zs ++ [ptT (p)] ++ [ptT (l[i])]).length))) rfl ⟨rfl, rfl, rfl, rfl, rfl, rfl, trivial⟩ ⟨rfl, trivial⟩ (fun _ _ h => h) rfl, by omega, k55, out ++ [p] ++ [l[i]], zs ++ [ptT (p)] ++ [ptT (l[i])], true, ⟨by omega, hk55, by first | (simp; omega) | (rw [hpb]; simp; omega), (map_put (map_put hzs)), put_app (e := [p, l[i]]) (insG_gt hi (by omega)) hIf |> (fun h => by rw [← h]; simp)⟩, rfl⟩
        ·
          refine AW.skip ?_
          refine AW.reg ?_
          refine SeqK.q (q_mvC rfl rfl) rfl rfl rfl ?_
          refine SeqK.q (q_mvC rfl rfl) rfl rfl rfl ?_
          refine SeqK.q (q_mvC rfl rfl) rfl rfl rfl ?_
          refine SeqK.q (q_index _ rfl Fx.sl22 rfl rfl (by omega) (idx_map (f := ptT) hi)) rfl rfl rfl ?_
          refine SeqK.q (q_load (.g [_, _, _, _, _]) rfl Fx.ty62 rfl rfl rfl) rfl rfl rfl ?_
          refine SeqK.q (q_buildSlice _ rfl Fx.el22 rfl (by decide) rfl) rfl rfl rfl ?_
          refine SeqK.app1 rfl (by assumption) rfl Fx.el22 rfl rfl (by have hzl : zs.length = out.length := (by rw [hzs, List.length_map]); have := Bool.toNat_le pb; simp; omega) rfl rfl (fun k55 hk55 => ?_)
          refine SeqK.q (q_asC rfl rfl) rfl rfl rfl ?_
          refine SeqK.nil ?_
          refine AW.reg ?_
          refine SeqK.q (q_mvC rfl rfl) rfl rfl rfl ?_
          refine SeqK.q (q_add _ rfl rfl rfl (w64 (by omega) (by omega))) rfl rfl rfl ?_
          refine SeqK.q (q_asC rfl rfl) rfl rfl rfl ?_
          refine SeqK.nil ?_
          exact ⟨i + 1, _, Wk.keep 63 [(0, .c (.a (.t (.sl z 5 (l.map ptT))))), (3, .lp 3 0), (4, .c (.a (.t (.v (.slice none 0 0))))), (5, .c (.a (.ts (k55) .ne 5 (zs ++ [ptT (l[i])])))), (6, bX (pb)), (7, iX .i64 (((i + 1) : Nat) : Int))] [(3, .box [.t (.v (.int .i64 p.coef)), .t (.v (.int .i64 p.kind)), .t (.v (.int .i64 p.var)), .t (.v (.int .i64 p.dv)), .t (.sl .un 2 (p.of.map tmT))])] (upd H (k55) (some (.tip 62 5 (zs ++ [ptT (l[i])]).length))) rfl ⟨rfl, rfl, rfl, rfl, rfl, rfl, trivial⟩ ⟨rfl, trivial⟩ (fun _ _ h => h) rfl, by omega, k55, out ++ [l[i]], zs ++ [ptT (l[i])], pb, ⟨by omega, hk55, by first | (simp; omega) | (rw [hpb]; simp; omega), (map_put hzs), (by rw [hpb]; exact put_app (e := [l[i]]) (insG_lt hi h25 (by omega)) hIf)⟩, rfl⟩
    ·
      have hpb : pb = true := by simpa using h17
      have hIt : out ++ insG true (l.drop i) p = insG false l p := by rw [hpb] at hI; exact hI
      have hol2 : out.length ≤ i + 1 := by rw [hpb] at hol; simpa using hol
      refine AW.skip ?_
      refine AW.seq ?_
      refine AW.seq ?_
      refine AW.reg ?_
      refine SeqK.q (q_mvC rfl rfl) rfl rfl rfl ?_
      refine SeqK.q (q_eql rfl rfl rfl) rfl rfl rfl ?_
      refine SeqK.nil ?_
      refine AW.condD rfl (fun h25 => ?_) (fun h25 => ?_)
      ·
        exact absurd h25 (by decide)
      ·
        refine AW.skip ?_
        refine AW.seq ?_
        refine AW.seq ?_
        refine AW.reg ?_
        refine SeqK.q (q_mvC rfl rfl) rfl rfl rfl ?_
        refine SeqK.q (q_gtr rfl rfl rfl) rfl rfl rfl ?_
        refine SeqK.nil ?_
        refine AW.condD rfl (fun h44 => ?_) (fun h44 => ?_)
        ·
          exact absurd h44 (by decide)
        ·
          refine AW.skip ?_
          refine AW.reg ?_
          refine SeqK.q (q_mvC rfl rfl) rfl rfl rfl ?_
          refine SeqK.q (q_mvC rfl rfl) rfl rfl rfl ?_
          refine SeqK.q (q_mvC rfl rfl) rfl rfl rfl ?_
          refine SeqK.q (q_index _ rfl Fx.sl22 rfl rfl (by omega) (idx_map (f := ptT) hi)) rfl rfl rfl ?_
          refine SeqK.q (q_load (.g [_, _, _, _, _]) rfl Fx.ty62 rfl rfl rfl) rfl rfl rfl ?_
          refine SeqK.q (q_buildSlice _ rfl Fx.el22 rfl (by decide) rfl) rfl rfl rfl ?_
          refine SeqK.app1 rfl (by assumption) rfl Fx.el22 rfl rfl (by have hzl : zs.length = out.length := (by rw [hzs, List.length_map]); have := Bool.toNat_le pb; simp; omega) rfl rfl (fun k55 hk55 => ?_)
          refine SeqK.q (q_asC rfl rfl) rfl rfl rfl ?_
          refine SeqK.nil ?_
          refine AW.reg ?_
          refine SeqK.q (q_mvC rfl rfl) rfl rfl rfl ?_
          refine SeqK.q (q_add _ rfl rfl rfl (w64 (by omega) (by omega))) rfl rfl rfl ?_
          refine SeqK.q (q_asC rfl rfl) rfl rfl rfl ?_
          refine SeqK.nil ?_
          exact ⟨i + 1, _, Wk.keep 63 [(0, .c (.a (.t (.sl z 5 (l.map ptT))))), (3, .lp 3 0), (4, .c (.a (.t (.v (.slice none 0 0))))), (5, .c (.a (.ts (k55) .ne 5 (zs ++ [ptT (l[i])])))), (6, bX (pb)), (7, iX .i64 (((i + 1) : Nat) : Int))] [(3, .box [.t (.v (.int .i64 p.coef)), .t (.v (.int .i64 p.kind)), .t (.v (.int .i64 p.var)), .t (.v (.int .i64 p.dv)), .t (.sl .un 2 (p.of.map tmT))])] (upd H (k55) (some (.tip 62 5 (zs ++ [ptT (l[i])]).length))) rfl ⟨rfl, rfl, rfl, rfl, rfl, rfl, trivial⟩ ⟨rfl, trivial⟩ (fun _ _ h => h) rfl, by omega, k55, out ++ [l[i]], zs ++ [ptT (l[i])], pb, ⟨by omega, hk55, by first | (simp; omega) | (rw [hpb]; simp; omega), (map_put hzs), (by rw [hpb]; exact put_app (e := [l[i]]) (insG_on hi) hIt)⟩, rfl⟩
  ·
    refine AW.exit ?_
    refine eth_e ?_
    refine eth_e ?_
    refine exit_here ?_
    refine AW.seq ?_
    refine AW.seq ?_
    have hil : i = l.length := by rw [List.length_map] at h13; omega
    subst hil
    rw [List.drop_length] at hI
    refine AW.reg ?_
    refine SeqK.q (q_mvC rfl rfl) rfl rfl rfl ?_
    refine SeqK.q (q_not rfl rfl) rfl rfl rfl ?_
    refine SeqK.nil ?_
    refine AW.cond _ rfl (fun h57 => ?_) (fun h57 => ?_)
    ·
      have hpb : pb = false := by simpa using h57
      refine AW.reg ?_
      refine SeqK.q (q_mvC rfl rfl) rfl rfl rfl ?_
      refine SeqK.r (b_load (r := .g [_, _, _, _, _]) rfl Fx.ty62 rfl rfl rfl rfl rfl rfl) rfl ?_
      refine SeqK.q (q_buildSlice _ rfl Fx.el22 rfl (by decide) rfl) rfl rfl rfl ?_
      refine SeqK.app1 rfl (by assumption) rfl Fx.el22 rfl rfl (by have hzl : zs.length = out.length := (by rw [hzs, List.length_map]); have := Bool.toNat_le pb; simp; omega) rfl rfl (fun k61 hk61 => ?_)
      refine SeqK.q (q_asC rfl rfl) rfl rfl rfl ?_
      refine SeqK.nil ?_
      refine AW.seq ?_
      refine AW.reg ?_
      refine SeqK.q (q_mvC rfl rfl) rfl rfl rfl ?_
      refine SeqK.q (q_asC rfl rfl) rfl rfl rfl ?_
      refine SeqK.nil ?_
      refine AW.xw 4 rfl XW.ts ?_
      refine AW.xw 4 rfl XW.un ?_
      refine AW.ret ?_
      exact fin_x (x := .c _) (H) (.tmp rfl .nil) rfl (fun j o h => by show upd H _ _ j = _; rw [upd_ne _ _ (fun e => by subst e; simp_all)]; exact h) (⟨by rw [hpb] at hI; rw [← hI, hzs]; simp [insG], rfl⟩)
    ·
      have hpb : pb = true := by simpa using h57
      refine AW.skip ?_
      refine AW.seq ?_
      refine AW.reg ?_
      refine SeqK.q (q_mvC rfl rfl) rfl rfl rfl ?_
      refine SeqK.q (q_asC rfl rfl) rfl rfl rfl ?_
      refine SeqK.nil ?_
      refine AW.xw 4 rfl XW.ts ?_
      refine AW.xw 4 rfl XW.un ?_
      refine AW.ret ?_
      exact fin_x (x := .c _) (H) (.tmp rfl .nil) rfl (fun j o h => by show upd H _ _ j = _; rw [upd_ne _ _ (fun e => by subst e; simp_all)]; exact h) (⟨by rw [hpb] at hI; rw [← hI, hzs]; simp [insG], rfl⟩)

theorem coB_ins {M : Nat} {l : List Pt} {p : Pt} (h : coB l M) (hp : p.coef.natAbs ≤ 2 ^ 20) : coB (insG false l p) (M + 2 ^ 20) := by
  induction l with
  | nil => intro q hq; simp [insG] at hq; subst hq; omega
  | cons x r ih =>
    have hr : coB r M := fun q hq => h q (by simp [hq])
    have hx := h x (by simp)
    intro q hq
    rw [insG] at hq
    split at hq
    · rcases mem_nzc hq with rfl | hq
      · show (x.coef + p.coef).natAbs ≤ _; omega
      · rw [insG_true] at hq; have := hr q hq; omega
    · split at hq
      · rw [insG_true] at hq
        rcases List.mem_cons.1 hq with rfl | hq
        · omega
        · have := h q hq; omega
      · rcases List.mem_cons.1 hq with rfl | hq
        · omega
        · exact ih hr q hq
theorem cnt_ins {l : List Pt} {p : Pt} : cntPs (insG false l p) ≤ cntPs l + (1 + p.cnt) := by
  induction l with
  | nil => simp [insG, cntPs]
  | cons x r ih =>
    rw [insG]
    split
    · have h1 := nzc_cnt (addQ x p) (insG true r p)
      have h3 : (addQ x p).cnt = x.cnt := by rw [Pt.cnt_eq, Pt.cnt_eq]
      rw [insG_true] at h1 ⊢; simp only [cntPs]; omega
    · split
      · rw [insG_true]; simp only [cntPs]; omega
      · simp only [cntPs]; omega
theorem foldI_step {a b : List Pt} {i : Nat} (hi : i < b.length) : foldI a (b.take (i + 1)) = insG false (foldI a (b.take i)) b[i] := by
  rw [List.take_succ_eq_append_getElem hi, foldI, List.foldl_append]; rfl
theorem coB_fold {a b : List Pt} (ha : coB a (2 ^ 20)) (hb : coB b (2 ^ 20)) : ∀ i, i ≤ b.length → coB (foldI a (b.take i)) (2 ^ 20 + i * 2 ^ 20)
  | 0, _ => by simpa using ha
  | i + 1, h => by
    rw [foldI_step (by omega)]
    have := coB_ins (coB_fold ha hb i (by omega)) (hb b[i] (List.getElem_mem _))
    intro q hq; have := this q hq; omega
theorem cnt_fold {a b : List Pt} : ∀ i, i ≤ b.length → cntPs (foldI a (b.take i)) ≤ cntPs a + cntPs (b.take i)
  | 0, _ => by simp [cntPs]
  | i + 1, h => by
    rw [foldI_step (by omega)]
    have h1 := cnt_fold (a := a) (b := b) i (by omega)
    have h2 := cnt_ins (l := foldI a (b.take i)) (p := b[i])
    have h3 := cntPs_take (l := b) (i := i) (by omega)
    rw [← Pt.cnt_eq] at h3; omega
theorem fold_end {a b : Tm} (ha : vldT a = true) (hb : vldT b = true) : foldI a.ps b.ps = mrg a.ps b.ps := fold_mrg (vld_parts ha) (vld_parts hb) (vld_pw hb)
theorem ins_at (a b : Tm) (hN : a.cnt + b.cnt ≤ 100000) (ha : vldT a = true) (hb : vldT b = true) {i : Nat} (hi : i < b.ps.length) : Pure Tryd.prog 69 [.a (.t (.sl .un 5 ((foldI a.ps (b.ps.take i)).map ptT))), ptC b.ps[i]] (.c (.a (.t (.sl .un 5 ((foldI a.ps (b.ps.take (i + 1))).map ptT))))) := by
  have hla := len_ps b
  rw [foldI_step hi]
  refine insert_any _ _ .un ?_ ?_ ?_
  · have h1 := cnt_fold (a := a.ps) (b := b.ps) i (by omega)
    have h2 := cntPs_take_le b.ps i
    rw [Tm.cnt_eq, Tm.cnt_eq b] at hN; omega
  · intro q hq
    have := coB_fold (vld_coef ha).2 (vld_coef hb).2 i (by omega) q hq
    have : i * 2 ^ 20 ≤ 100000 * 2 ^ 20 := Nat.mul_le_mul_right _ (by omega)
    omega
  · have := (vld_coef hb).2 _ (List.getElem_mem hi); omega

set_option maxRecDepth 20000 in
theorem radd_any (a b : Tm) (ha : vldT a = true) (hb : vldT b = true) (hN : a.cnt + b.cnt ≤ 100000) : Pure Tryd.prog 28 [tmC a, tmC b] (trC (add a b)) := by
  intro H
  refine Spec.enter Tryd.func28 rfl ?_
  refine AW.wk (Wk.keep 36 [(0, .c (tmC a)), (1, .c (tmC b))] [] (H) rfl ⟨rfl, rfl, trivial⟩ trivial (fun _ _ h => h) rfl) ?_
  refine AW.seq ?_
  refine AW.reg ?_
  refine SeqK.r (b_box (r := [_, _]) rfl rfl rfl rfl rfl rfl) rfl ?_
  refine SeqK.r (b_box (r := [_, _]) rfl rfl rfl rfl rfl rfl) rfl ?_
  refine SeqK.r (b_alloc (r := [_, _]) rfl rfl Fx.ze24 rfl rfl rfl rfl) rfl ?_
  refine SeqK.q (q_asC rfl rfl) rfl rfl rfl ?_
  refine SeqK.nil ?_
  refine AW.seq ?_
  have hlb := len_ps b
  have hca := vld_coef ha
  have hcb := vld_coef hb
  refine AW.reg ?_
  refine SeqK.q (q_fieldL _ rfl Fx.fl24_0 rfl rfl) rfl rfl rfl ?_
  refine SeqK.r (b_load (r := .a _) rfl Fx.ty2 rfl rfl rfl rfl rfl rfl) rfl ?_
  refine SeqK.q (q_fieldL _ rfl Fx.fl24_0 rfl rfl) rfl rfl rfl ?_
  refine SeqK.r (b_load (r := .a _) rfl Fx.ty2 rfl rfl rfl rfl rfl rfl) rfl ?_
  refine SeqK.q (q_add _ rfl rfl rfl (w64 (by omega) (by omega))) rfl rfl rfl ?_
  refine SeqK.q (q_fieldL _ rfl Fx.fl24_1 rfl rfl) rfl rfl rfl ?_
  refine SeqK.r (b_load (r := .a _) rfl Fx.ty22 rfl rfl rfl rfl rfl rfl) rfl ?_
  refine SeqK.q (q_build2 (zs := [_, _]) (r := [_, _]) [(0, 1), (1, 1)] _ rfl Fx.ze24 rfl Fx.bp24 rfl rfl rfl rfl) rfl rfl rfl ?_
  refine SeqK.r (b_alloc (r := [_, _]) rfl rfl Fx.ze24 rfl rfl rfl rfl) rfl ?_
  refine SeqK.r (b_store (r := [_, _]) rfl rfl Fx.ty24 rfl rfl rfl rfl rfl rfl) rfl ?_
  refine SeqK.nil ?_
  refine AW.seq ?_
  refine AW.seq ?_
  refine AW.reg ?_
  refine SeqK.q (q_asC rfl rfl) rfl rfl rfl ?_
  refine SeqK.nil ?_
  refine AW.block ?_
  refine AW.loop (fun (i : Nat) s => (i ≤ b.ps.length) ∧ s = ⟨36, sp [(2, .lp 2 0), (3, .lp 3 0), (4, .lp 4 0), (5, .c (iC 0)), (6, .lp 6 0), (7, iX .i64 ((i : Nat) : Int))], lv [(2, .box [.t (.v (.int .i64 a.c)), .t (.sl .un 5 (a.ps.map ptT))]), (3, .box [.t (.v (.int .i64 b.c)), .t (.sl .un 5 (b.ps.map ptT))]), (4, .box [.t (.v (.int .i64 0)), .t (.v (.slice none 0 0))]), (6, .box [.t (.v (.int .i64 (a.c + b.c))), .t (.sl .un 5 ((foldI a.ps (b.ps.take i)).map ptT))])], H⟩) (fun i => b.ps.length - i) 0 ⟨_, Wk.keep 36 [(2, .lp 2 0), (3, .lp 3 0), (4, .lp 4 0), (5, .c (iC 0)), (6, .lp 6 0), (7, iX .i64 ((((0 : Nat)) : Nat) : Int))] [(2, .box [.t (.v (.int .i64 a.c)), .t (.sl .un 5 (a.ps.map ptT))]), (3, .box [.t (.v (.int .i64 b.c)), .t (.sl .un 5 (b.ps.map ptT))]), (4, .box [.t (.v (.int .i64 0)), .t (.v (.slice none 0 0))]), (6, .box [.t (.v (.int .i64 (a.c + b.c))), .t (.sl .un 5 ((foldI a.ps (b.ps.take ((0 : Nat)))).map ptT))])] (H) rfl ⟨rfl, rfl, rfl, rfl, rfl, rfl, trivial⟩ ⟨rfl, rfl, rfl, rfl, trivial⟩ (fun _ _ h => h) rfl, Nat.zero_le _, rfl⟩ (fun i s hs => ?_)
  obtain ⟨hi0, rfl⟩ := hs
  refine AW.seq ?_
  refine AW.seq ?_
  refine AW.reg ?_
  refine SeqK.q (q_mvC rfl rfl) rfl rfl rfl ?_
  refine SeqK.q (q_fieldL _ rfl Fx.fl24_1 rfl rfl) rfl rfl rfl ?_
  refine SeqK.r (b_load (r := .a _) rfl Fx.ty22 rfl rfl rfl rfl rfl rfl) rfl ?_
  refine SeqK.q (q_len rfl Fx.un22 rfl) rfl rfl rfl ?_
  refine SeqK.q (q_lss rfl rfl rfl) rfl rfl rfl ?_
  refine SeqK.nil ?_
  refine AW.condD rfl (fun h20 => ?_) (fun h20 => ?_)
  ·
    have hi : i < b.ps.length := by rw [List.length_map] at h20; omega
    refine AW.skip ?_
    refine AW.seq ?_
    refine AW.block ?_
    refine AW.draw Fx.mo ?_
    refine LexK.q (q_fieldL _ rfl Fx.fl24_1 rfl rfl) rfl rfl rfl ?_
    refine LexK.r (b_load (r := .a _) rfl Fx.ty22 rfl rfl rfl rfl rfl rfl) rfl ?_
    refine LexK.q (q_fieldL _ rfl Fx.fl24_1 rfl rfl) rfl rfl rfl ?_
    refine LexK.r (b_load (r := .a _) rfl Fx.ty22 rfl rfl rfl rfl rfl rfl) rfl ?_
    refine LexK.q (q_mvC rfl rfl) rfl rfl rfl ?_
    refine LexK.q (q_index _ rfl Fx.sl22 rfl rfl (by omega) (idx_map (f := ptT) hi)) rfl rfl rfl ?_
    refine LexK.q (q_load (.g [_, _, _, _, _]) rfl Fx.ty62 rfl rfl rfl) rfl rfl rfl ?_
    refine LexK.q (q_call _ rfl Fx.fn69 rfl (ins_at a b hN ha hb hi) rfl) rfl rfl rfl ?_
    refine LexK.q (q_fieldL _ rfl Fx.fl24_1 rfl rfl) rfl rfl rfl ?_
    refine LexK.r (b_store (r := [_, _]) rfl rfl Fx.ty22 rfl rfl rfl rfl rfl rfl) rfl ?_
    refine LexK.nil (by kernel_rfl) ?_
    refine AW.reg ?_
    refine SeqK.q (q_mvC rfl rfl) rfl rfl rfl ?_
    refine SeqK.q (q_add _ rfl rfl rfl (w64 (by omega) (by omega))) rfl rfl rfl ?_
    refine SeqK.q (q_asC rfl rfl) rfl rfl rfl ?_
    refine SeqK.nil ?_
    exact ⟨i + 1, _, Wk.keep 36 [(2, .lp 2 0), (3, .lp 3 0), (4, .lp 4 0), (5, .c (iC 0)), (6, .lp 6 0), (7, iX .i64 (((i + 1) : Nat) : Int))] [(2, .box [.t (.v (.int .i64 a.c)), .t (.sl .un 5 (a.ps.map ptT))]), (3, .box [.t (.v (.int .i64 b.c)), .t (.sl .un 5 (b.ps.map ptT))]), (4, .box [.t (.v (.int .i64 0)), .t (.v (.slice none 0 0))]), (6, .box [.t (.v (.int .i64 (a.c + b.c))), .t (.sl .un 5 ((foldI a.ps (b.ps.take (i + 1))).map ptT))])] (H) rfl ⟨rfl, rfl, rfl, rfl, rfl, rfl, trivial⟩ ⟨rfl, rfl, rfl, rfl, trivial⟩ (fun _ _ h => h) rfl, by omega, hi, rfl⟩
  ·
    refine AW.exit ?_
    refine eth_e ?_
    refine eth_e ?_
    refine exit_here ?_
    refine AW.seq ?_
    have hij : i = b.ps.length := by rw [List.length_map] at h20; omega
    subst hij
    rw [List.take_length, fold_end ha hb]
    refine AW.reg ?_
    refine SeqK.r (b_load (r := .g [_, _]) rfl Fx.ty24 rfl rfl rfl rfl rfl rfl) rfl ?_
    refine SeqK.q (q_call _ rfl Fx.fn70 rfl (limited_any (sumT a b) (sum_bok ha hb).1 (by have := sum_cnt a b; omega)) rfl) rfl rfl rfl ?_
    refine SeqK.q (q_extract _ rfl rfl rfl) rfl rfl rfl ?_
    refine SeqK.q (q_extract _ rfl rfl rfl) rfl rfl rfl ?_
    refine SeqK.r (b_store (r := [_, _]) rfl rfl Fx.ty24 rfl rfl rfl rfl rfl rfl) rfl ?_
    refine SeqK.q (q_asC rfl rfl) rfl rfl rfl ?_
    refine SeqK.nil ?_
    refine AW.ret ?_
    exact fin_x (x := .tup [_, _]) (H) (.cellL rfl rfl Fx.ty24 rfl rfl (.tmp rfl .nil)) rfl (fun _ _ h => h) (⟨rfl, rfl⟩)

end Go.Proofs.YtfbdokfcebpkaaaDoor.W
namespace Go.Proofs.YtfbdokfcebpkaaaDoor.W
open Go.RowKit E M
set_option linter.unusedVariables false
set_option linter.unusedSimpArgs false
set_option linter.unusedSectionVars false
theorem add_cnt (a b : Tm) : (add a b).1.cnt ≤ a.cnt + b.cnt := by
  have h1 := lim_cnt' (t := sumT a b)
  have h2 := sum_cnt a b
  unfold add; omega
theorem add_any' (a b : Tm) (ha : vldT a = true) (hb : vldT b = true) (hN : a.cnt + b.cnt ≤ 100000) : Pure Tryd.prog 27 [tmC b, tmC a] (trC (add a b)) := by
  have := add_any b a hb ha (by omega)
  rw [add_comm' ha hb] at this; exact this

set_option maxRecDepth 20000 in
theorem add_law (a b : Tm) (ra : rgT a) (rb : rgT b) (r : List RV) (z : Nz) (hL : r.length ≤ 1000000000000000000) (H : Heap) : E.Spec Tryd.prog 8 [tmC a, tmC b, rowC z r] H fun x H' => x = bX true := by
  refine Spec.enter Tryd.func8 rfl ?_
  refine AW.wk (Wk.keep 113 [(0, .c (tmC a)), (1, .c (tmC b)), (2, .c (rowC z r))] [] (H) rfl ⟨rfl, rfl, rfl, trivial⟩ trivial (fun _ _ h => h) rfl) ?_
  refine AW.seq ?_
  refine AW.reg ?_
  refine SeqK.r (b_box (r := [_, _]) rfl rfl rfl rfl rfl rfl) rfl ?_
  refine SeqK.r (b_box (r := [_, _]) rfl rfl rfl rfl rfl rfl) rfl ?_
  refine SeqK.q (q_asC rfl rfl) rfl rfl rfl ?_
  refine SeqK.nil ?_
  refine AW.seq ?_
  refine AW.seq ?_
  refine AW.reg ?_
  refine SeqK.q (q_call _ rfl Fx.fn12 rfl (awake_any) rfl) rfl rfl rfl ?_
  refine SeqK.q (q_not rfl rfl) rfl rfl rfl ?_
  refine SeqK.q (q_mvC rfl rfl) rfl rfl rfl ?_
  refine SeqK.rOn (b_load (r := .g [_, _]) rfl Fx.ty24 rfl rfl rfl rfl rfl rfl) rfl rfl rfl ?_
  refine SeqK.on (q_call _ rfl Fx.fn13 rfl (lsmall_any a ra) rfl) rfl rfl rfl rfl rfl ?_
  refine SeqK.on (q_not rfl rfl) rfl rfl rfl rfl rfl ?_
  refine SeqK.q (q_pkF rfl rfl rfl) rfl rfl rfl ?_
  refine SeqK.qB (q_mvC rfl rfl) rfl rfl rfl (fun g26 => ?_) (fun g26 => ?_)
  ·
    refine SeqK.off rfl rfl rfl rfl rfl rfl ?_
    refine SeqK.off rfl rfl rfl rfl rfl rfl ?_
    refine SeqK.off rfl rfl rfl rfl rfl rfl ?_
    refine SeqK.q (q_pkT rfl rfl rfl) rfl rfl rfl ?_
    refine SeqK.q (q_mvC rfl rfl) rfl rfl rfl ?_
    refine SeqK.off rfl rfl rfl rfl rfl rfl ?_
    refine SeqK.off rfl rfl rfl rfl rfl rfl ?_
    refine SeqK.off rfl rfl rfl rfl rfl rfl ?_
    refine SeqK.q (q_pkT rfl rfl rfl) rfl rfl rfl ?_
    refine SeqK.nil ?_
    refine AW.condT rfl ?_
    refine AW.seq ?_
    refine AW.reg ?_
    refine SeqK.q (q_call _ rfl Fx.fn12 rfl (awake_any) rfl) rfl rfl rfl ?_
    refine SeqK.q (q_asC rfl rfl) rfl rfl rfl ?_
    refine SeqK.nil ?_
    refine AW.ret ?_
    exact fin_x (x := .c _) (_) (.tmp rfl .nil) rfl (fun _ _ h => h) (by first | rfl | (simp; done) | (simp [kv]))
  ·
    refine SeqK.rOn (b_load (r := .g [_, _]) rfl Fx.ty24 rfl rfl rfl rfl rfl rfl) rfl rfl rfl ?_
    refine SeqK.on (q_call _ rfl Fx.fn13 rfl (lsmall_any b rb) rfl) rfl rfl rfl rfl rfl ?_
    refine SeqK.on (q_not rfl rfl) rfl rfl rfl rfl rfl ?_
    refine SeqK.q (q_pkF rfl rfl rfl) rfl rfl rfl ?_
    refine SeqK.qB (q_mvC rfl rfl) rfl rfl rfl (fun g31 => ?_) (fun g31 => ?_)
    ·
      refine SeqK.off rfl rfl rfl rfl rfl rfl ?_
      refine SeqK.off rfl rfl rfl rfl rfl rfl ?_
      refine SeqK.off rfl rfl rfl rfl rfl rfl ?_
      refine SeqK.q (q_pkT rfl rfl rfl) rfl rfl rfl ?_
      refine SeqK.nil ?_
      refine AW.condT rfl ?_
      refine AW.seq ?_
      refine AW.reg ?_
      refine SeqK.q (q_call _ rfl Fx.fn12 rfl (awake_any) rfl) rfl rfl rfl ?_
      refine SeqK.q (q_asC rfl rfl) rfl rfl rfl ?_
      refine SeqK.nil ?_
      refine AW.ret ?_
      exact fin_x (x := .c _) (_) (.tmp rfl .nil) rfl (fun _ _ h => h) (by first | rfl | (simp; done) | (simp [kv]))
    ·
      refine SeqK.on (q_mvC rfl rfl) rfl rfl rfl rfl rfl ?_
      refine SeqK.on (q_call _ rfl Fx.fn22 rfl (row_any r z hL) rfl) rfl rfl rfl rfl rfl ?_
      refine SeqK.on (q_not rfl rfl) rfl rfl rfl rfl rfl ?_
      refine SeqK.q (q_pkF rfl rfl rfl) rfl rfl rfl ?_
      refine SeqK.nil ?_
      refine AW.cond _ rfl (fun h35 => ?_) (fun h35 => ?_)
      ·
        refine AW.seq ?_
        refine AW.reg ?_
        refine SeqK.q (q_call _ rfl Fx.fn12 rfl (awake_any) rfl) rfl rfl rfl ?_
        refine SeqK.q (q_asC rfl rfl) rfl rfl rfl ?_
        refine SeqK.nil ?_
        refine AW.ret ?_
        exact fin_x (x := .c _) (_) (.tmp rfl .nil) rfl (fun _ _ h => h) (by first | rfl | (simp; done) | (simp [kv]))
      ·
        refine AW.skip ?_
        refine AW.seq ?_
        have ka := sm_iff' (by simpa using g26)
        have kb := sm_iff' (by simpa using g31)
        have k1 := ka.1
        have k2 := kb.1
        have kc := add_cnt a b
        have ks := sameB_self (t := (add a b).1) (by omega)
        refine AW.reg ?_
        refine SeqK.r (b_load (r := .g [_, _]) rfl Fx.ty24 rfl rfl rfl rfl rfl rfl) rfl ?_
        refine SeqK.r (b_load (r := .g [_, _]) rfl Fx.ty24 rfl rfl rfl rfl rfl rfl) rfl ?_
        refine SeqK.q (q_call _ rfl Fx.fn27 rfl (add_any a b ka.2 kb.2 (by omega)) rfl) rfl rfl rfl ?_
        refine SeqK.q (q_mvT rfl rfl) rfl rfl rfl ?_
        refine SeqK.q (q_extract _ rfl rfl rfl) rfl rfl rfl ?_
        refine SeqK.q (q_extract _ rfl rfl rfl) rfl rfl rfl ?_
        refine SeqK.r (b_alloc (r := [_, _]) rfl rfl Fx.ze24 rfl rfl rfl rfl) rfl ?_
        refine SeqK.r (b_store (r := [_, _]) rfl rfl Fx.ty24 rfl rfl rfl rfl rfl rfl) rfl ?_
        refine SeqK.q (q_asC rfl rfl) rfl rfl rfl ?_
        refine SeqK.nil ?_
        refine AW.seq ?_
        refine AW.reg ?_
        refine SeqK.r (b_load (r := .g [_, _]) rfl Fx.ty24 rfl rfl rfl rfl rfl rfl) rfl ?_
        refine SeqK.r (b_load (r := .g [_, _]) rfl Fx.ty24 rfl rfl rfl rfl rfl rfl) rfl ?_
        refine SeqK.q (q_call _ rfl Fx.fn28 rfl (radd_any a b ka.2 kb.2 (by omega)) rfl) rfl rfl rfl ?_
        refine SeqK.q (q_mvT rfl rfl) rfl rfl rfl ?_
        refine SeqK.q (q_extract _ rfl rfl rfl) rfl rfl rfl ?_
        refine SeqK.q (q_extract _ rfl rfl rfl) rfl rfl rfl ?_
        refine SeqK.r (b_alloc (r := [_, _]) rfl rfl Fx.ze24 rfl rfl rfl rfl) rfl ?_
        refine SeqK.r (b_store (r := [_, _]) rfl rfl Fx.ty24 rfl rfl rfl rfl rfl rfl) rfl ?_
        refine SeqK.q (q_asC rfl rfl) rfl rfl rfl ?_
        refine SeqK.nil ?_
        refine AW.seq ?_
        refine AW.reg ?_
        refine SeqK.r (b_load (r := .g [_, _]) rfl Fx.ty24 rfl rfl rfl rfl rfl rfl) rfl ?_
        refine SeqK.r (b_load (r := .g [_, _]) rfl Fx.ty24 rfl rfl rfl rfl rfl rfl) rfl ?_
        refine SeqK.q (q_call _ rfl Fx.fn27 rfl (add_any' a b ka.2 kb.2 (by omega)) rfl) rfl rfl rfl ?_
        refine SeqK.q (q_mvT rfl rfl) rfl rfl rfl ?_
        refine SeqK.q (q_extract _ rfl rfl rfl) rfl rfl rfl ?_
        refine SeqK.q (q_extract _ rfl rfl rfl) rfl rfl rfl ?_
        refine SeqK.r (b_alloc (r := [_, _]) rfl rfl Fx.ze24 rfl rfl rfl rfl) rfl ?_
        refine SeqK.r (b_store (r := [_, _]) rfl rfl Fx.ty24 rfl rfl rfl rfl rfl rfl) rfl ?_
        refine SeqK.q (q_asC rfl rfl) rfl rfl rfl ?_
        refine SeqK.nil ?_
        refine AW.seq ?_
        refine AW.seq ?_
        refine AW.reg ?_
        refine SeqK.q (q_mvC rfl rfl) rfl rfl rfl ?_
        refine SeqK.q (q_mvC rfl rfl) rfl rfl rfl ?_
        refine SeqK.q (q_neq rfl rfl rfl) rfl rfl rfl ?_
        refine SeqK.qD (q_mvC rfl rfl) rfl rfl rfl (fun g58 => ?_) (fun g58 => ?_)
        ·
          exact absurd rfl g58
        ·
          refine SeqK.on (q_mvC rfl rfl) rfl rfl rfl rfl rfl ?_
          refine SeqK.on (q_mvC rfl rfl) rfl rfl rfl rfl rfl ?_
          refine SeqK.on (q_neq rfl rfl rfl) rfl rfl rfl rfl rfl ?_
          refine SeqK.q (q_pkF rfl rfl rfl) rfl rfl rfl ?_
          refine SeqK.qD (q_mvC rfl rfl) rfl rfl rfl (fun g63 => ?_) (fun g63 => ?_)
          ·
            exact absurd rfl g63
          ·
            refine SeqK.rOn (b_load (r := .g [_, _]) rfl Fx.ty24 rfl rfl rfl rfl rfl rfl) rfl rfl rfl ?_
            refine SeqK.rOn (b_load (r := .g [_, _]) rfl Fx.ty24 rfl rfl rfl rfl rfl rfl) rfl rfl rfl ?_
            refine SeqK.on (q_call _ rfl Fx.fn29 rfl (same_any (add a b).1 (add a b).1 (by omega)) rfl) rfl rfl rfl rfl rfl ?_
            refine SeqK.on (q_not rfl rfl) rfl rfl rfl rfl rfl ?_
            refine SeqK.q (q_pkF rfl rfl rfl) rfl rfl rfl ?_
            refine SeqK.qB (q_mvC rfl rfl) rfl rfl rfl (fun g69 => ?_) (fun g69 => ?_)
            ·
              exact absurd g69 (by simp [ks])
            ·
              refine SeqK.rOn (b_load (r := .g [_, _]) rfl Fx.ty24 rfl rfl rfl rfl rfl rfl) rfl rfl rfl ?_
              refine SeqK.rOn (b_load (r := .g [_, _]) rfl Fx.ty24 rfl rfl rfl rfl rfl rfl) rfl rfl rfl ?_
              refine SeqK.on (q_call _ rfl Fx.fn29 rfl (same_any (add a b).1 (add a b).1 (by omega)) rfl) rfl rfl rfl rfl rfl ?_
              refine SeqK.on (q_not rfl rfl) rfl rfl rfl rfl rfl ?_
              refine SeqK.q (q_pkF rfl rfl rfl) rfl rfl rfl ?_
              refine SeqK.nil ?_
              refine AW.cond _ rfl (fun h74 => ?_) (fun h74 => ?_)
              ·
                exact absurd h74 (by simp [ks])
              ·
                refine AW.skip ?_
                refine AW.seq ?_
                refine AW.reg ?_
                refine SeqK.r (b_load (r := .g [_, _]) rfl Fx.ty24 rfl rfl rfl rfl rfl rfl) rfl ?_
                refine SeqK.q (q_mvC rfl rfl) rfl rfl rfl ?_
                refine SeqK.q (q_call _ rfl Fx.fn26 rfl (rvalue_any r z a ka.2 (by have := ka.1; omega)) rfl) rfl rfl rfl ?_
                refine SeqK.q (q_mvT rfl rfl) rfl rfl rfl ?_
                refine SeqK.q (q_extract _ rfl rfl rfl) rfl rfl rfl ?_
                refine SeqK.q (q_extract _ rfl rfl rfl) rfl rfl rfl ?_
                refine SeqK.q (q_asC rfl rfl) rfl rfl rfl ?_
                refine SeqK.q (q_asC rfl rfl) rfl rfl rfl ?_
                refine SeqK.nil ?_
                refine AW.seq ?_
                refine AW.reg ?_
                refine SeqK.r (b_load (r := .g [_, _]) rfl Fx.ty24 rfl rfl rfl rfl rfl rfl) rfl ?_
                refine SeqK.q (q_mvC rfl rfl) rfl rfl rfl ?_
                refine SeqK.q (q_call _ rfl Fx.fn26 rfl (rvalue_any r z b kb.2 (by have := kb.1; omega)) rfl) rfl rfl rfl ?_
                refine SeqK.q (q_mvT rfl rfl) rfl rfl rfl ?_
                refine SeqK.q (q_extract _ rfl rfl rfl) rfl rfl rfl ?_
                refine SeqK.q (q_extract _ rfl rfl rfl) rfl rfl rfl ?_
                refine SeqK.q (q_asC rfl rfl) rfl rfl rfl ?_
                refine SeqK.q (q_asC rfl rfl) rfl rfl rfl ?_
                refine SeqK.nil ?_
                refine AW.seq ?_
                refine AW.reg ?_
                refine SeqK.r (b_load (r := .g [_, _]) rfl Fx.ty24 rfl rfl rfl rfl rfl rfl) rfl ?_
                refine SeqK.q (q_mvC rfl rfl) rfl rfl rfl ?_
                refine SeqK.q (q_call _ rfl Fx.fn25 rfl (value_any r z (add a b).1 (sum_vld ka.2 kb.2) (by omega)) rfl) rfl rfl rfl ?_
                refine SeqK.q (q_mvT rfl rfl) rfl rfl rfl ?_
                refine SeqK.q (q_extract _ rfl rfl rfl) rfl rfl rfl ?_
                refine SeqK.q (q_extract _ rfl rfl rfl) rfl rfl rfl ?_
                refine SeqK.q (q_asC rfl rfl) rfl rfl rfl ?_
                refine SeqK.q (q_asC rfl rfl) rfl rfl rfl ?_
                refine SeqK.nil ?_
                refine AW.seq ?_
                refine AW.reg ?_
                refine SeqK.q (q_mvC rfl rfl) rfl rfl rfl ?_
                refine SeqK.q (q_neq rfl rfl rfl) rfl rfl rfl ?_
                refine SeqK.qD (q_mvC rfl rfl) rfl rfl rfl (fun g95 => ?_) (fun g95 => ?_)
                ·
                  refine SeqK.off rfl rfl rfl rfl rfl rfl ?_
                  refine SeqK.off rfl rfl rfl rfl rfl rfl ?_
                  refine SeqK.q (q_pkT rfl rfl rfl) rfl rfl rfl ?_
                  refine SeqK.q (q_mvC rfl rfl) rfl rfl rfl ?_
                  refine SeqK.off rfl rfl rfl rfl rfl rfl ?_
                  refine SeqK.off rfl rfl rfl rfl rfl rfl ?_
                  refine SeqK.q (q_pkT rfl rfl rfl) rfl rfl rfl ?_
                  refine SeqK.q (q_mvC rfl rfl) rfl rfl rfl ?_
                  refine SeqK.off rfl rfl rfl rfl rfl rfl ?_
                  refine SeqK.off rfl rfl rfl rfl rfl rfl ?_
                  refine SeqK.offU rfl rfl rfl rfl rfl ?_
                  refine SeqK.offU rfl rfl rfl rfl rfl ?_
                  refine SeqK.offU rfl rfl rfl rfl rfl ?_
                  refine SeqK.offU rfl rfl rfl rfl rfl ?_
                  refine SeqK.offU rfl rfl rfl rfl rfl ?_
                  refine SeqK.off rfl rfl rfl rfl rfl rfl ?_
                  refine SeqK.q (q_pkT rfl rfl rfl) rfl rfl rfl ?_
                  refine SeqK.q (q_asC rfl rfl) rfl rfl rfl ?_
                  refine SeqK.nil ?_
                  refine AW.ret ?_
                  exact fin_x (x := .c _) (_) (.tmp rfl .nil) rfl (fun _ _ h => h) (by first | rfl | (simp; done) | (simp [kv]))
                ·
                  refine SeqK.on (q_mvC rfl rfl) rfl rfl rfl rfl rfl ?_
                  refine SeqK.on (q_not rfl rfl) rfl rfl rfl rfl rfl ?_
                  refine SeqK.q (q_pkF rfl rfl rfl) rfl rfl rfl ?_
                  refine SeqK.qB (q_mvC rfl rfl) rfl rfl rfl (fun g99 => ?_) (fun g99 => ?_)
                  ·
                    refine SeqK.off rfl rfl rfl rfl rfl rfl ?_
                    refine SeqK.off rfl rfl rfl rfl rfl rfl ?_
                    refine SeqK.q (q_pkT rfl rfl rfl) rfl rfl rfl ?_
                    refine SeqK.q (q_mvC rfl rfl) rfl rfl rfl ?_
                    refine SeqK.off rfl rfl rfl rfl rfl rfl ?_
                    refine SeqK.off rfl rfl rfl rfl rfl rfl ?_
                    refine SeqK.offU rfl rfl rfl rfl rfl ?_
                    refine SeqK.offU rfl rfl rfl rfl rfl ?_
                    refine SeqK.offU rfl rfl rfl rfl rfl ?_
                    refine SeqK.offU rfl rfl rfl rfl rfl ?_
                    refine SeqK.offU rfl rfl rfl rfl rfl ?_
                    refine SeqK.off rfl rfl rfl rfl rfl rfl ?_
                    refine SeqK.q (q_pkT rfl rfl rfl) rfl rfl rfl ?_
                    refine SeqK.q (q_asC rfl rfl) rfl rfl rfl ?_
                    refine SeqK.nil ?_
                    refine AW.ret ?_
                    exact fin_x (x := .c _) (_) (.tmp rfl .nil) rfl (fun _ _ h => h) (by first | rfl | (simp; done) | (simp [kv]))
                  ·
                    refine SeqK.on (q_mvC rfl rfl) rfl rfl rfl rfl rfl ?_
                    refine SeqK.on (q_not rfl rfl) rfl rfl rfl rfl rfl ?_
                    refine SeqK.q (q_pkF rfl rfl rfl) rfl rfl rfl ?_
                    refine SeqK.qB (q_mvC rfl rfl) rfl rfl rfl (fun g103 => ?_) (fun g103 => ?_)
                    ·
                      refine SeqK.off rfl rfl rfl rfl rfl rfl ?_
                      refine SeqK.off rfl rfl rfl rfl rfl rfl ?_
                      refine SeqK.offU rfl rfl rfl rfl rfl ?_
                      refine SeqK.offU rfl rfl rfl rfl rfl ?_
                      refine SeqK.offU rfl rfl rfl rfl rfl ?_
                      refine SeqK.offU rfl rfl rfl rfl rfl ?_
                      refine SeqK.offU rfl rfl rfl rfl rfl ?_
                      refine SeqK.off rfl rfl rfl rfl rfl rfl ?_
                      refine SeqK.q (q_pkT rfl rfl rfl) rfl rfl rfl ?_
                      refine SeqK.q (q_asC rfl rfl) rfl rfl rfl ?_
                      refine SeqK.nil ?_
                      refine AW.ret ?_
                      exact fin_x (x := .c _) (_) (.tmp rfl .nil) rfl (fun _ _ h => h) (by first | rfl | (simp; done) | (simp [kv]))
                    ·
                      have kv := add_val (r := r) ka.2 kb.2 (Classical.not_not.1 g95) (by simpa using g99) (by simpa using g103)
                      refine SeqK.on (q_mvC rfl rfl) rfl rfl rfl rfl rfl ?_
                      refine SeqK.onB (q_mvC rfl rfl) rfl rfl rfl rfl rfl (fun g105 => ?_) (fun g105 => ?_)
                      ·
                        refine SeqK.on (q_mvC rfl rfl) rfl rfl rfl rfl rfl ?_
                        refine SeqK.on (q_mvC rfl rfl) rfl rfl rfl rfl rfl ?_
                        refine SeqK.on (q_mvC rfl rfl) rfl rfl rfl rfl rfl ?_
                        refine SeqK.on (q_add _ rfl rfl rfl ((rfl : IntKind.i64.wrap _ = w ((valT r a).1 + (valT r b).1)))) rfl rfl rfl rfl rfl ?_
                        refine SeqK.on (q_eql rfl rfl rfl) rfl rfl rfl rfl rfl ?_
                        refine SeqK.on (q_pkT rfl rfl rfl) rfl rfl rfl rfl rfl ?_
                        refine SeqK.q (q_pkF rfl rfl rfl) rfl rfl rfl ?_
                        refine SeqK.q (q_asC rfl rfl) rfl rfl rfl ?_
                        refine SeqK.nil ?_
                        refine AW.ret ?_
                        exact fin_x (x := .c _) (_) (.tmp rfl .nil) rfl (fun _ _ h => h) (by first | rfl | (simp; done) | (simp [kv]))
                      ·
                        exact absurd g105 (by rw [kv]; simp)

end Go.Proofs.YtfbdokfcebpkaaaDoor.W
