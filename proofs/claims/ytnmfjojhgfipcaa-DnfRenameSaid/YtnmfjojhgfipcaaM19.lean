/- Parts of the proof, one after the other: W44, W45, W46, W47, W48, R2. No condition. -/
import Derived.Test.YtnmfjojhgfipcaaM18
namespace Go.Proofs.Ytnmfjojhgfipcaa.W
open Go.RowKit E
set_option linter.unusedVariables false
set_option linter.unusedSimpArgs false
set_option linter.unusedSectionVars false
/-! a clause is the same as itself -/
set_option maxRecDepth 20000 in
theorem ints_self (l : List Int) (z z2 : Nz) (hl : l.length ≤ 17592186044000) : Pure Try.prog 33 [.a (.t (.sl z 1 (l.map i64T))), .a (.t (.sl z2 1 (l.map i64T)))] (.c (bC true)) := by
  intro H
  refine Spec.enter Try.func33 rfl ?_
  refine AW.wk (Wk.keep 26 [(0, .c (.a (.t (.sl z 1 (l.map i64T))))), (1, .c (.a (.t (.sl z2 1 (l.map i64T)))))] [] (H) rfl ⟨rfl, rfl, trivial⟩ trivial (fun _ _ h => h) rfl) ?_
  refine AW.seq ?_
  refine AW.reg ?_
  refine SeqK.q (q_asC rfl rfl) rfl rfl rfl ?_
  refine SeqK.nil ?_
  refine AW.seq ?_
  refine AW.seq ?_
  refine AW.reg ?_
  refine SeqK.q (q_mvC rfl rfl) rfl rfl rfl ?_
  refine SeqK.q (q_len rfl Fx.un22 rfl) rfl rfl rfl ?_
  refine SeqK.q (q_mvC rfl rfl) rfl rfl rfl ?_
  refine SeqK.q (q_len rfl Fx.un22 rfl) rfl rfl rfl ?_
  refine SeqK.q (q_neq rfl rfl rfl) rfl rfl rfl ?_
  refine SeqK.nil ?_
  refine AW.condD rfl (fun h10 => ?_) (fun h10 => ?_)
  ·
    exact absurd rfl h10
  ·
    refine AW.skip ?_
    refine AW.seq ?_
    refine AW.seq ?_
    refine AW.reg ?_
    refine SeqK.q (q_asC rfl rfl) rfl rfl rfl ?_
    refine SeqK.nil ?_
    refine AW.block ?_
    refine AW.loop (fun (i : Nat) s => (i ≤ l.length) ∧ s = ⟨26, sp [(0, .c (.a (.t (.sl z 1 (l.map i64T))))), (1, .c (.a (.t (.sl z2 1 (l.map i64T))))), (5, iX .i64 ((i : Nat) : Int))], lv [], H⟩) (fun i => l.length - i) 0 ⟨_, Wk.keep 26 [(0, .c (.a (.t (.sl z 1 (l.map i64T))))), (1, .c (.a (.t (.sl z2 1 (l.map i64T))))), (5, iX .i64 ((((0 : Nat)) : Nat) : Int))] [] (H) rfl ⟨rfl, rfl, rfl, trivial⟩ trivial (fun _ _ h => h) rfl, Nat.zero_le _, rfl⟩ (fun i s hs => ?_)
    obtain ⟨hi0, rfl⟩ := hs
    refine AW.seq ?_
    refine AW.seq ?_
    refine AW.reg ?_
    refine SeqK.q (q_mvC rfl rfl) rfl rfl rfl ?_
    refine SeqK.q (q_mvC rfl rfl) rfl rfl rfl ?_
    refine SeqK.q (q_len rfl Fx.un22 rfl) rfl rfl rfl ?_
    refine SeqK.q (q_lss rfl rfl rfl) rfl rfl rfl ?_
    refine SeqK.nil ?_
    refine AW.condD rfl (fun h14 => ?_) (fun h14 => ?_)
    ·
      have hi : i < l.length := by rw [List.length_map] at h14; omega
      refine AW.skip ?_
      refine AW.seq ?_
      refine AW.block ?_
      refine AW.seq ?_
      refine AW.draw Fx.mo ?_
      refine LexK.q (q_mvC rfl rfl) rfl rfl rfl ?_
      refine LexK.q (q_mvC rfl rfl) rfl rfl rfl ?_
      refine LexK.q (q_index _ rfl Fx.sl22 rfl rfl (by omega) (idx_map (f := i64T) hi)) rfl rfl rfl ?_
      refine LexK.q (q_load (.a _) rfl Fx.ty3 rfl rfl rfl) rfl rfl rfl ?_
      refine LexK.q (q_mvC rfl rfl) rfl rfl rfl ?_
      refine LexK.q (q_mvC rfl rfl) rfl rfl rfl ?_
      refine LexK.q (q_index _ rfl Fx.sl22 rfl rfl (by omega) (idx_map (f := i64T) hi)) rfl rfl rfl ?_
      refine LexK.q (q_load (.a _) rfl Fx.ty3 rfl rfl rfl) rfl rfl rfl ?_
      refine LexK.q (q_neq rfl rfl rfl) rfl rfl rfl ?_
      refine LexK.nil (by kernel_rfl) ?_
      refine AW.condD rfl (fun h25 => ?_) (fun h25 => ?_)
      ·
        exact absurd rfl h25
      ·
        refine AW.skip ?_
        refine AW.reg ?_
        refine SeqK.q (q_mvC rfl rfl) rfl rfl rfl ?_
        refine SeqK.q (q_add _ rfl rfl rfl (w64 (by omega) (by omega))) rfl rfl rfl ?_
        refine SeqK.q (q_asC rfl rfl) rfl rfl rfl ?_
        refine SeqK.nil ?_
        exact ⟨i + 1, _, Wk.keep 26 [(0, .c (.a (.t (.sl z 1 (l.map i64T))))), (1, .c (.a (.t (.sl z2 1 (l.map i64T))))), (5, iX .i64 (((i + 1) : Nat) : Int))] [] (H) rfl ⟨rfl, rfl, rfl, trivial⟩ trivial (fun _ _ h => h) rfl, by omega, hi, rfl⟩
    ·
      refine AW.exit ?_
      refine eth_e ?_
      refine eth_e ?_
      refine exit_here ?_
      refine AW.seq ?_
      refine AW.reg ?_
      refine SeqK.q (q_asC rfl rfl) rfl rfl rfl ?_
      refine SeqK.nil ?_
      refine AW.ret ?_
      exact fin_x (x := .c _) (H) (.tmp rfl .nil) rfl (fun _ _ h => h) (⟨rfl, rfl⟩)

set_option maxRecDepth 20000 in
theorem twos_self (l : List (Int × Int)) (z z2 : Nz) (hl : l.length ≤ 17592186044000) : Pure Try.prog 34 [.a (.t (.sl z 2 (l.map prT))), .a (.t (.sl z2 2 (l.map prT)))] (.c (bC true)) := by
  intro H
  refine Spec.enter Try.func34 rfl ?_
  refine AW.wk (Wk.keep 26 [(0, .c (.a (.t (.sl z 2 (l.map prT))))), (1, .c (.a (.t (.sl z2 2 (l.map prT)))))] [] (H) rfl ⟨rfl, rfl, trivial⟩ trivial (fun _ _ h => h) rfl) ?_
  refine AW.seq ?_
  refine AW.reg ?_
  refine SeqK.q (q_asC rfl rfl) rfl rfl rfl ?_
  refine SeqK.nil ?_
  refine AW.seq ?_
  refine AW.seq ?_
  refine AW.reg ?_
  refine SeqK.q (q_mvC rfl rfl) rfl rfl rfl ?_
  refine SeqK.q (q_len rfl Fx.un26 rfl) rfl rfl rfl ?_
  refine SeqK.q (q_mvC rfl rfl) rfl rfl rfl ?_
  refine SeqK.q (q_len rfl Fx.un26 rfl) rfl rfl rfl ?_
  refine SeqK.q (q_neq rfl rfl rfl) rfl rfl rfl ?_
  refine SeqK.nil ?_
  refine AW.condD rfl (fun h10 => ?_) (fun h10 => ?_)
  ·
    exact absurd rfl h10
  ·
    refine AW.skip ?_
    refine AW.seq ?_
    refine AW.seq ?_
    refine AW.reg ?_
    refine SeqK.q (q_asC rfl rfl) rfl rfl rfl ?_
    refine SeqK.nil ?_
    refine AW.block ?_
    refine AW.loop (fun (i : Nat) s => (i ≤ l.length) ∧ s = ⟨26, sp [(0, .c (.a (.t (.sl z 2 (l.map prT))))), (1, .c (.a (.t (.sl z2 2 (l.map prT))))), (5, iX .i64 ((i : Nat) : Int))], lv [], H⟩) (fun i => l.length - i) 0 ⟨_, Wk.keep 26 [(0, .c (.a (.t (.sl z 2 (l.map prT))))), (1, .c (.a (.t (.sl z2 2 (l.map prT))))), (5, iX .i64 ((((0 : Nat)) : Nat) : Int))] [] (H) rfl ⟨rfl, rfl, rfl, trivial⟩ trivial (fun _ _ h => h) rfl, Nat.zero_le _, rfl⟩ (fun i s hs => ?_)
    obtain ⟨hi0, rfl⟩ := hs
    refine AW.seq ?_
    refine AW.seq ?_
    refine AW.reg ?_
    refine SeqK.q (q_mvC rfl rfl) rfl rfl rfl ?_
    refine SeqK.q (q_mvC rfl rfl) rfl rfl rfl ?_
    refine SeqK.q (q_len rfl Fx.un26 rfl) rfl rfl rfl ?_
    refine SeqK.q (q_lss rfl rfl rfl) rfl rfl rfl ?_
    refine SeqK.nil ?_
    refine AW.condD rfl (fun h14 => ?_) (fun h14 => ?_)
    ·
      have hi : i < l.length := by rw [List.length_map] at h14; omega
      refine AW.skip ?_
      refine AW.seq ?_
      refine AW.block ?_
      refine AW.seq ?_
      refine AW.draw Fx.mo ?_
      refine LexK.q (q_mvC rfl rfl) rfl rfl rfl ?_
      refine LexK.q (q_mvC rfl rfl) rfl rfl rfl ?_
      refine LexK.q (q_index _ rfl Fx.sl26 rfl rfl (by omega) (idx_map (f := prT) hi)) rfl rfl rfl ?_
      refine LexK.q (q_load (.g [_, _]) rfl Fx.ty80 rfl rfl rfl) rfl rfl rfl ?_
      refine LexK.q (q_mvC rfl rfl) rfl rfl rfl ?_
      refine LexK.q (q_mvC rfl rfl) rfl rfl rfl ?_
      refine LexK.q (q_index _ rfl Fx.sl26 rfl rfl (by omega) (idx_map (f := prT) hi)) rfl rfl rfl ?_
      refine LexK.q (q_load (.g [_, _]) rfl Fx.ty80 rfl rfl rfl) rfl rfl rfl ?_
      refine LexK.q (q_neqG [.int .i64 l[i].1, .int .i64 l[i].2] [.int .i64 l[i].1, .int .i64 l[i].2] rfl rfl rfl rfl rfl (by kernel_rfl) (fun w => eq80 _ _ _ _ w)) rfl rfl rfl ?_
      refine LexK.nil (by kernel_rfl) ?_
      refine AW.cond _ rfl (fun h25 => ?_) (fun h25 => ?_)
      ·
        exact absurd h25 (by simp)
      ·
        refine AW.skip ?_
        refine AW.reg ?_
        refine SeqK.q (q_mvC rfl rfl) rfl rfl rfl ?_
        refine SeqK.q (q_add _ rfl rfl rfl (w64 (by omega) (by omega))) rfl rfl rfl ?_
        refine SeqK.q (q_asC rfl rfl) rfl rfl rfl ?_
        refine SeqK.nil ?_
        exact ⟨i + 1, _, Wk.keep 26 [(0, .c (.a (.t (.sl z 2 (l.map prT))))), (1, .c (.a (.t (.sl z2 2 (l.map prT))))), (5, iX .i64 (((i + 1) : Nat) : Int))] [] (H) rfl ⟨rfl, rfl, rfl, trivial⟩ trivial (fun _ _ h => h) rfl, by omega, hi, rfl⟩
    ·
      refine AW.exit ?_
      refine eth_e ?_
      refine eth_e ?_
      refine exit_here ?_
      refine AW.seq ?_
      refine AW.reg ?_
      refine SeqK.q (q_asC rfl rfl) rfl rfl rfl ?_
      refine SeqK.nil ?_
      refine AW.ret ?_
      exact fin_x (x := .c _) (H) (.tmp rfl .nil) rfl (fun _ _ h => h) (⟨rfl, rfl⟩)

set_option maxRecDepth 20000 in
theorem forms_self (F : Lf) (hl : F.cs.length ≤ 17592186044000) : Pure Try.prog 35 [lfC F, lfC F] (.c (bC true)) := by
  intro H
  refine Spec.enter Try.func35 rfl ?_
  refine AW.wk (Wk.keep 38 [(0, .c (lfC F)), (1, .c (lfC F))] [] (H) rfl ⟨rfl, rfl, trivial⟩ trivial (fun _ _ h => h) rfl) ?_
  refine AW.seq ?_
  refine AW.reg ?_
  refine SeqK.r (b_box (r := [_, _]) rfl rfl rfl rfl rfl rfl) rfl ?_
  refine SeqK.r (b_box (r := [_, _]) rfl rfl rfl rfl rfl rfl) rfl ?_
  refine SeqK.q (q_asC rfl rfl) rfl rfl rfl ?_
  refine SeqK.nil ?_
  refine AW.seq ?_
  refine AW.seq ?_
  refine AW.reg ?_
  refine SeqK.q (q_fieldL _ rfl Fx.fl74_0 rfl rfl) rfl rfl rfl ?_
  refine SeqK.r (b_load (r := .a _) rfl Fx.ty2 rfl rfl rfl rfl rfl rfl) rfl ?_
  refine SeqK.q (q_fieldL _ rfl Fx.fl74_0 rfl rfl) rfl rfl rfl ?_
  refine SeqK.r (b_load (r := .a _) rfl Fx.ty2 rfl rfl rfl rfl rfl rfl) rfl ?_
  refine SeqK.q (q_neq rfl rfl rfl) rfl rfl rfl ?_
  refine SeqK.qD (q_mvC rfl rfl) rfl rfl rfl (fun g11 => ?_) (fun g11 => ?_)
  ·
    exact absurd rfl g11
  ·
    refine SeqK.on (q_fieldL _ rfl Fx.fl74_1 rfl rfl) rfl rfl rfl rfl rfl ?_
    refine SeqK.rOn (b_load (r := .a _) rfl Fx.ty72 rfl rfl rfl rfl rfl rfl) rfl rfl rfl ?_
    refine SeqK.on (q_len rfl Fx.un72 rfl) rfl rfl rfl rfl rfl ?_
    refine SeqK.on (q_fieldL _ rfl Fx.fl74_1 rfl rfl) rfl rfl rfl rfl rfl ?_
    refine SeqK.rOn (b_load (r := .a _) rfl Fx.ty72 rfl rfl rfl rfl rfl rfl) rfl rfl rfl ?_
    refine SeqK.on (q_len rfl Fx.un72 rfl) rfl rfl rfl rfl rfl ?_
    refine SeqK.on (q_neq rfl rfl rfl) rfl rfl rfl rfl rfl ?_
    refine SeqK.q (q_pkF rfl rfl rfl) rfl rfl rfl ?_
    refine SeqK.nil ?_
    refine AW.condD rfl (fun h19 => ?_) (fun h19 => ?_)
    ·
      exact absurd rfl h19
    ·
      refine AW.skip ?_
      refine AW.seq ?_
      refine AW.seq ?_
      refine AW.reg ?_
      refine SeqK.q (q_asC rfl rfl) rfl rfl rfl ?_
      refine SeqK.nil ?_
      refine AW.block ?_
      refine AW.loop (fun (i : Nat) s => (i ≤ F.cs.length) ∧ s = ⟨38, sp [(2, .lp 2 0), (3, .lp 3 0), (5, iX .i64 ((i : Nat) : Int))], lv [(2, .box [.t (.v (.int .i64 F.c)), .t (.sl .un 2 (F.cs.map cfT))]), (3, .box [.t (.v (.int .i64 F.c)), .t (.sl .un 2 (F.cs.map cfT))])], H⟩) (fun i => F.cs.length - i) 0 ⟨_, Wk.keep 38 [(2, .lp 2 0), (3, .lp 3 0), (5, iX .i64 ((((0 : Nat)) : Nat) : Int))] [(2, .box [.t (.v (.int .i64 F.c)), .t (.sl .un 2 (F.cs.map cfT))]), (3, .box [.t (.v (.int .i64 F.c)), .t (.sl .un 2 (F.cs.map cfT))])] (H) rfl ⟨rfl, rfl, rfl, trivial⟩ ⟨rfl, rfl, trivial⟩ (fun _ _ h => h) rfl, Nat.zero_le _, rfl⟩ (fun i s hs => ?_)
      obtain ⟨hi0, rfl⟩ := hs
      refine AW.seq ?_
      refine AW.seq ?_
      refine AW.reg ?_
      refine SeqK.q (q_mvC rfl rfl) rfl rfl rfl ?_
      refine SeqK.q (q_fieldL _ rfl Fx.fl74_1 rfl rfl) rfl rfl rfl ?_
      refine SeqK.r (b_load (r := .a _) rfl Fx.ty72 rfl rfl rfl rfl rfl rfl) rfl ?_
      refine SeqK.q (q_len rfl Fx.un72 rfl) rfl rfl rfl ?_
      refine SeqK.q (q_lss rfl rfl rfl) rfl rfl rfl ?_
      refine SeqK.nil ?_
      refine AW.condD rfl (fun h24 => ?_) (fun h24 => ?_)
      ·
        have hi : i < F.cs.length := by rw [List.length_map] at h24; omega
        refine AW.skip ?_
        refine AW.seq ?_
        refine AW.block ?_
        refine AW.seq ?_
        refine AW.draw Fx.mo ?_
        refine LexK.q (q_fieldL _ rfl Fx.fl74_1 rfl rfl) rfl rfl rfl ?_
        refine LexK.r (b_load (r := .a _) rfl Fx.ty72 rfl rfl rfl rfl rfl rfl) rfl ?_
        refine LexK.q (q_mvC rfl rfl) rfl rfl rfl ?_
        refine LexK.q (q_index _ rfl Fx.sl72 rfl rfl (by omega) (idx_map (f := cfT) hi)) rfl rfl rfl ?_
        refine LexK.q (q_load (.g [_, _]) rfl Fx.ty106 rfl rfl rfl) rfl rfl rfl ?_
        refine LexK.q (q_fieldL _ rfl Fx.fl74_1 rfl rfl) rfl rfl rfl ?_
        refine LexK.r (b_load (r := .a _) rfl Fx.ty72 rfl rfl rfl rfl rfl rfl) rfl ?_
        refine LexK.q (q_mvC rfl rfl) rfl rfl rfl ?_
        refine LexK.q (q_index _ rfl Fx.sl72 rfl rfl (by omega) (idx_map (f := cfT) hi)) rfl rfl rfl ?_
        refine LexK.q (q_load (.g [_, _]) rfl Fx.ty106 rfl rfl rfl) rfl rfl rfl ?_
        refine LexK.q (q_neqG [.int .i64 F.cs[i].v, .int .i64 F.cs[i].n] [.int .i64 F.cs[i].v, .int .i64 F.cs[i].n] rfl rfl rfl rfl rfl (by kernel_rfl) (fun w => eq106 _ _ _ _ w)) rfl rfl rfl ?_
        refine LexK.nil (by kernel_rfl) ?_
        refine AW.cond _ rfl (fun h37 => ?_) (fun h37 => ?_)
        ·
          exact absurd h37 (by simp)
        ·
          refine AW.skip ?_
          refine AW.reg ?_
          refine SeqK.q (q_mvC rfl rfl) rfl rfl rfl ?_
          refine SeqK.q (q_add _ rfl rfl rfl (w64 (by omega) (by omega))) rfl rfl rfl ?_
          refine SeqK.q (q_asC rfl rfl) rfl rfl rfl ?_
          refine SeqK.nil ?_
          exact ⟨i + 1, _, Wk.keep 38 [(2, .lp 2 0), (3, .lp 3 0), (5, iX .i64 (((i + 1) : Nat) : Int))] [(2, .box [.t (.v (.int .i64 F.c)), .t (.sl .un 2 (F.cs.map cfT))]), (3, .box [.t (.v (.int .i64 F.c)), .t (.sl .un 2 (F.cs.map cfT))])] (H) rfl ⟨rfl, rfl, rfl, trivial⟩ ⟨rfl, rfl, trivial⟩ (fun _ _ h => h) rfl, by omega, hi, rfl⟩
      ·
        refine AW.exit ?_
        refine eth_e ?_
        refine eth_e ?_
        refine exit_here ?_
        refine AW.seq ?_
        refine AW.reg ?_
        refine SeqK.q (q_asC rfl rfl) rfl rfl rfl ?_
        refine SeqK.nil ?_
        refine AW.ret ?_
        exact fin_x (x := .c _) (H) (.tmp rfl .nil) rfl (fun _ _ h => h) (⟨rfl, rfl⟩)

set_option maxHeartbeats 4000000 in
set_option maxRecDepth 20000 in
theorem same_self (c : Cl) (hc : rgC c) : Pure Try.prog 16 [clC c, clC c] (.c (bC true)) := by
  intro H
  refine Spec.enter Try.func16 rfl ?_
  refine AW.wk (Wk.keep 168 [(0, .c (clC c)), (1, .c (clC c))] [] (H) rfl ⟨rfl, rfl, trivial⟩ trivial (fun _ _ h => h) rfl) ?_
  refine AW.seq ?_
  refine AW.reg ?_
  refine SeqK.r (b_box (r := [_, _, _, _, _, _, _]) rfl rfl rfl rfl rfl rfl) rfl ?_
  refine SeqK.r (b_box (r := [_, _, _, _, _, _, _]) rfl rfl rfl rfl rfl rfl) rfl ?_
  refine SeqK.q (q_asC rfl rfl) rfl rfl rfl ?_
  refine SeqK.nil ?_
  refine AW.seq ?_
  refine AW.seq ?_
  have q1 := hc.ax
  have q2 := hc.is
  have q3 := hc.ts
  refine AW.reg ?_
  refine SeqK.q (q_fieldL _ rfl Fx.fl28_0 rfl rfl) rfl rfl rfl ?_
  refine SeqK.r (b_load (r := .a _) rfl Fx.ty22 rfl rfl rfl rfl rfl rfl) rfl ?_
  refine SeqK.q (q_fieldL _ rfl Fx.fl28_0 rfl rfl) rfl rfl rfl ?_
  refine SeqK.r (b_load (r := .a _) rfl Fx.ty22 rfl rfl rfl rfl rfl rfl) rfl ?_
  refine SeqK.q (q_call _ rfl Fx.fn33 rfl (ints_self _ _ _ hc.nl) rfl) rfl rfl rfl ?_
  refine SeqK.q (q_not rfl rfl) rfl rfl rfl ?_
  refine SeqK.q (q_mvC rfl rfl) rfl rfl rfl ?_
  refine SeqK.on (q_fieldL _ rfl Fx.fl28_1 rfl rfl) rfl rfl rfl rfl rfl ?_
  refine SeqK.rOn (b_load (r := .a _) rfl Fx.ty22 rfl rfl rfl rfl rfl rfl) rfl rfl rfl ?_
  refine SeqK.on (q_fieldL _ rfl Fx.fl28_1 rfl rfl) rfl rfl rfl rfl rfl ?_
  refine SeqK.rOn (b_load (r := .a _) rfl Fx.ty22 rfl rfl rfl rfl rfl rfl) rfl rfl rfl ?_
  refine SeqK.on (q_call _ rfl Fx.fn33 rfl (ints_self _ _ _ hc.nn) rfl) rfl rfl rfl rfl rfl ?_
  refine SeqK.on (q_not rfl rfl) rfl rfl rfl rfl rfl ?_
  refine SeqK.q (q_pkF rfl rfl rfl) rfl rfl rfl ?_
  refine SeqK.q (q_mvC rfl rfl) rfl rfl rfl ?_
  refine SeqK.on (q_fieldL _ rfl Fx.fl28_5 rfl rfl) rfl rfl rfl rfl rfl ?_
  refine SeqK.rOn (b_load (r := .a _) rfl Fx.ty26 rfl rfl rfl rfl rfl rfl) rfl rfl rfl ?_
  refine SeqK.on (q_fieldL _ rfl Fx.fl28_5 rfl rfl) rfl rfl rfl rfl rfl ?_
  refine SeqK.rOn (b_load (r := .a _) rfl Fx.ty26 rfl rfl rfl rfl rfl rfl) rfl rfl rfl ?_
  refine SeqK.on (q_call _ rfl Fx.fn34 rfl (twos_self _ _ _ hc.sm) rfl) rfl rfl rfl rfl rfl ?_
  refine SeqK.on (q_not rfl rfl) rfl rfl rfl rfl rfl ?_
  refine SeqK.q (q_pkF rfl rfl rfl) rfl rfl rfl ?_
  refine SeqK.q (q_mvC rfl rfl) rfl rfl rfl ?_
  refine SeqK.on (q_fieldL _ rfl Fx.fl28_6 rfl rfl) rfl rfl rfl rfl rfl ?_
  refine SeqK.rOn (b_load (r := .a _) rfl Fx.ty26 rfl rfl rfl rfl rfl rfl) rfl rfl rfl ?_
  refine SeqK.on (q_fieldL _ rfl Fx.fl28_6 rfl rfl) rfl rfl rfl rfl rfl ?_
  refine SeqK.rOn (b_load (r := .a _) rfl Fx.ty26 rfl rfl rfl rfl rfl rfl) rfl rfl rfl ?_
  refine SeqK.on (q_call _ rfl Fx.fn34 rfl (twos_self _ _ _ hc.df) rfl) rfl rfl rfl rfl rfl ?_
  refine SeqK.on (q_not rfl rfl) rfl rfl rfl rfl rfl ?_
  refine SeqK.q (q_pkF rfl rfl rfl) rfl rfl rfl ?_
  refine SeqK.nil ?_
  refine AW.condF rfl ?_
  refine AW.skip ?_
  refine AW.seq ?_
  refine AW.seq ?_
  refine AW.reg ?_
  refine SeqK.q (q_fieldL _ rfl Fx.fl28_2 rfl rfl) rfl rfl rfl ?_
  refine SeqK.r (b_load (r := .a _) rfl Fx.ty23 rfl rfl rfl rfl rfl rfl) rfl ?_
  refine SeqK.q (q_len rfl Fx.un23 rfl) rfl rfl rfl ?_
  refine SeqK.q (q_fieldL _ rfl Fx.fl28_2 rfl rfl) rfl rfl rfl ?_
  refine SeqK.r (b_load (r := .a _) rfl Fx.ty23 rfl rfl rfl rfl rfl rfl) rfl ?_
  refine SeqK.q (q_len rfl Fx.un23 rfl) rfl rfl rfl ?_
  refine SeqK.q (q_neq rfl rfl rfl) rfl rfl rfl ?_
  refine SeqK.qD (q_mvC rfl rfl) rfl rfl rfl (fun g45 => ?_) (fun g45 => ?_)
  ·
    exact absurd rfl g45
  ·
    refine SeqK.on (q_fieldL _ rfl Fx.fl28_3 rfl rfl) rfl rfl rfl rfl rfl ?_
    refine SeqK.rOn (b_load (r := .a _) rfl Fx.ty24 rfl rfl rfl rfl rfl rfl) rfl rfl rfl ?_
    refine SeqK.on (q_len rfl Fx.un24 rfl) rfl rfl rfl rfl rfl ?_
    refine SeqK.on (q_fieldL _ rfl Fx.fl28_3 rfl rfl) rfl rfl rfl rfl rfl ?_
    refine SeqK.rOn (b_load (r := .a _) rfl Fx.ty24 rfl rfl rfl rfl rfl rfl) rfl rfl rfl ?_
    refine SeqK.on (q_len rfl Fx.un24 rfl) rfl rfl rfl rfl rfl ?_
    refine SeqK.on (q_neq rfl rfl rfl) rfl rfl rfl rfl rfl ?_
    refine SeqK.q (q_pkF rfl rfl rfl) rfl rfl rfl ?_
    refine SeqK.qD (q_mvC rfl rfl) rfl rfl rfl (fun g54 => ?_) (fun g54 => ?_)
    ·
      exact absurd rfl g54
    ·
      refine SeqK.on (q_fieldL _ rfl Fx.fl28_4 rfl rfl) rfl rfl rfl rfl rfl ?_
      refine SeqK.rOn (b_load (r := .a _) rfl Fx.ty25 rfl rfl rfl rfl rfl rfl) rfl rfl rfl ?_
      refine SeqK.on (q_len rfl Fx.un25 rfl) rfl rfl rfl rfl rfl ?_
      refine SeqK.on (q_fieldL _ rfl Fx.fl28_4 rfl rfl) rfl rfl rfl rfl rfl ?_
      refine SeqK.rOn (b_load (r := .a _) rfl Fx.ty25 rfl rfl rfl rfl rfl rfl) rfl rfl rfl ?_
      refine SeqK.on (q_len rfl Fx.un25 rfl) rfl rfl rfl rfl rfl ?_
      refine SeqK.on (q_neq rfl rfl rfl) rfl rfl rfl rfl rfl ?_
      refine SeqK.q (q_pkF rfl rfl rfl) rfl rfl rfl ?_
      refine SeqK.nil ?_
      refine AW.condD rfl (fun h62 => ?_) (fun h62 => ?_)
      ·
        exact absurd rfl h62
      ·
        refine AW.skip ?_
        refine AW.seq ?_
        refine AW.seq ?_
        refine AW.reg ?_
        refine SeqK.q (q_asC rfl rfl) rfl rfl rfl ?_
        refine SeqK.nil ?_
        refine AW.block ?_
        refine AW.loop (fun (i : Nat) s => (i ≤ c.ax.length) ∧ s = ⟨168, sp [(2, .lp 2 0), (3, .lp 3 0), (5, iX .i64 ((i : Nat) : Int))], lv [(2, .box [.t (.sl .un 1 (c.nl.map i64T)), .t (.sl .un 1 (c.nn.map i64T)), .t (.sl .un 4 (c.ax.map axT)), .t (.sl .un 3 (c.is.map ctT)), .t (.sl .un 4 (c.ts.map tsT)), .t (.sl .un 2 (c.sm.map prT)), .t (.sl .un 2 (c.df.map prT))]), (3, .box [.t (.sl .un 1 (c.nl.map i64T)), .t (.sl .un 1 (c.nn.map i64T)), .t (.sl .un 4 (c.ax.map axT)), .t (.sl .un 3 (c.is.map ctT)), .t (.sl .un 4 (c.ts.map tsT)), .t (.sl .un 2 (c.sm.map prT)), .t (.sl .un 2 (c.df.map prT))])], H⟩) (fun i => c.ax.length - i) 0 ⟨_, Wk.keep 168 [(2, .lp 2 0), (3, .lp 3 0), (5, iX .i64 ((((0 : Nat)) : Nat) : Int))] [(2, .box [.t (.sl .un 1 (c.nl.map i64T)), .t (.sl .un 1 (c.nn.map i64T)), .t (.sl .un 4 (c.ax.map axT)), .t (.sl .un 3 (c.is.map ctT)), .t (.sl .un 4 (c.ts.map tsT)), .t (.sl .un 2 (c.sm.map prT)), .t (.sl .un 2 (c.df.map prT))]), (3, .box [.t (.sl .un 1 (c.nl.map i64T)), .t (.sl .un 1 (c.nn.map i64T)), .t (.sl .un 4 (c.ax.map axT)), .t (.sl .un 3 (c.is.map ctT)), .t (.sl .un 4 (c.ts.map tsT)), .t (.sl .un 2 (c.sm.map prT)), .t (.sl .un 2 (c.df.map prT))])] (H) rfl ⟨rfl, rfl, rfl, trivial⟩ ⟨rfl, rfl, trivial⟩ (fun _ _ h => h) rfl, Nat.zero_le _, rfl⟩ (fun i s hs => ?_)
        obtain ⟨hi0, rfl⟩ := hs
        refine AW.seq ?_
        refine AW.seq ?_
        refine AW.reg ?_
        refine SeqK.q (q_mvC rfl rfl) rfl rfl rfl ?_
        refine SeqK.q (q_fieldL _ rfl Fx.fl28_2 rfl rfl) rfl rfl rfl ?_
        refine SeqK.r (b_load (r := .a _) rfl Fx.ty23 rfl rfl rfl rfl rfl rfl) rfl ?_
        refine SeqK.q (q_len rfl Fx.un23 rfl) rfl rfl rfl ?_
        refine SeqK.q (q_lss rfl rfl rfl) rfl rfl rfl ?_
        refine SeqK.nil ?_
        refine AW.condD rfl (fun h67 => ?_) (fun h67 => ?_)
        ·
          have hi : i < c.ax.length := by rw [List.length_map] at h67; omega
          refine AW.skip ?_
          refine AW.seq ?_
          refine AW.block ?_
          refine AW.seq ?_
          refine AW.draw Fx.mo ?_
          refine LexK.q (q_fieldL _ rfl Fx.fl28_2 rfl rfl) rfl rfl rfl ?_
          refine LexK.r (b_load (r := .a _) rfl Fx.ty23 rfl rfl rfl rfl rfl rfl) rfl ?_
          refine LexK.q (q_mvC rfl rfl) rfl rfl rfl ?_
          refine LexK.q (q_index _ rfl Fx.sl23 rfl rfl (by omega) (idx_map (f := axT) hi)) rfl rfl rfl ?_
          refine LexK.q (q_fieldP _ rfl Fx.fl82_1 rfl rfl) rfl rfl rfl ?_
          refine LexK.q (q_load (.a _) rfl Fx.ty2 rfl rfl rfl) rfl rfl rfl ?_
          refine LexK.q (q_fieldL _ rfl Fx.fl28_2 rfl rfl) rfl rfl rfl ?_
          refine LexK.r (b_load (r := .a _) rfl Fx.ty23 rfl rfl rfl rfl rfl rfl) rfl ?_
          refine LexK.q (q_mvC rfl rfl) rfl rfl rfl ?_
          refine LexK.q (q_index _ rfl Fx.sl23 rfl rfl (by omega) (idx_map (f := axT) hi)) rfl rfl rfl ?_
          refine LexK.q (q_fieldP _ rfl Fx.fl82_1 rfl rfl) rfl rfl rfl ?_
          refine LexK.q (q_load (.a _) rfl Fx.ty2 rfl rfl rfl) rfl rfl rfl ?_
          refine LexK.q (q_neq rfl rfl rfl) rfl rfl rfl ?_
          refine LexK.qD (q_mvC rfl rfl) rfl rfl rfl (fun g83 => ?_) (fun g83 => ?_)
          ·
            exact absurd rfl g83
          ·
            refine LexK.on (q_fieldL _ rfl Fx.fl28_2 rfl rfl) rfl rfl rfl rfl rfl ?_
            refine LexK.rOn (b_load (r := .a _) rfl Fx.ty23 rfl rfl rfl rfl rfl rfl) rfl rfl rfl ?_
            refine LexK.on (q_mvC rfl rfl) rfl rfl rfl rfl rfl ?_
            refine LexK.on (q_index _ rfl Fx.sl23 rfl rfl (by omega) (idx_map (f := axT) hi)) rfl rfl rfl rfl rfl ?_
            refine LexK.on (q_fieldP _ rfl Fx.fl82_2 rfl rfl) rfl rfl rfl rfl rfl ?_
            refine LexK.on (q_load (.a _) rfl Fx.ty3 rfl rfl rfl) rfl rfl rfl rfl rfl ?_
            refine LexK.on (q_fieldL _ rfl Fx.fl28_2 rfl rfl) rfl rfl rfl rfl rfl ?_
            refine LexK.rOn (b_load (r := .a _) rfl Fx.ty23 rfl rfl rfl rfl rfl rfl) rfl rfl rfl ?_
            refine LexK.on (q_mvC rfl rfl) rfl rfl rfl rfl rfl ?_
            refine LexK.on (q_index _ rfl Fx.sl23 rfl rfl (by omega) (idx_map (f := axT) hi)) rfl rfl rfl rfl rfl ?_
            refine LexK.on (q_fieldP _ rfl Fx.fl82_2 rfl rfl) rfl rfl rfl rfl rfl ?_
            refine LexK.on (q_load (.a _) rfl Fx.ty3 rfl rfl rfl) rfl rfl rfl rfl rfl ?_
            refine LexK.on (q_neq rfl rfl rfl) rfl rfl rfl rfl rfl ?_
            refine LexK.q (q_pkF rfl rfl rfl) rfl rfl rfl ?_
            refine LexK.qD (q_mvC rfl rfl) rfl rfl rfl (fun g98 => ?_) (fun g98 => ?_)
            ·
              exact absurd rfl g98
            ·
              refine LexK.on (q_fieldL _ rfl Fx.fl28_2 rfl rfl) rfl rfl rfl rfl rfl ?_
              refine LexK.rOn (b_load (r := .a _) rfl Fx.ty23 rfl rfl rfl rfl rfl rfl) rfl rfl rfl ?_
              refine LexK.on (q_mvC rfl rfl) rfl rfl rfl rfl rfl ?_
              refine LexK.on (q_index _ rfl Fx.sl23 rfl rfl (by omega) (idx_map (f := axT) hi)) rfl rfl rfl rfl rfl ?_
              refine LexK.on (q_fieldP _ rfl Fx.fl82_0 rfl rfl) rfl rfl rfl rfl rfl ?_
              refine LexK.on (q_load (.g [_, _]) rfl Fx.ty74 rfl rfl rfl) rfl rfl rfl rfl rfl ?_
              refine LexK.on (q_fieldL _ rfl Fx.fl28_2 rfl rfl) rfl rfl rfl rfl rfl ?_
              refine LexK.rOn (b_load (r := .a _) rfl Fx.ty23 rfl rfl rfl rfl rfl rfl) rfl rfl rfl ?_
              refine LexK.on (q_mvC rfl rfl) rfl rfl rfl rfl rfl ?_
              refine LexK.on (q_index _ rfl Fx.sl23 rfl rfl (by omega) (idx_map (f := axT) hi)) rfl rfl rfl rfl rfl ?_
              refine LexK.on (q_fieldP _ rfl Fx.fl82_0 rfl rfl) rfl rfl rfl rfl rfl ?_
              refine LexK.on (q_load (.g [_, _]) rfl Fx.ty74 rfl rfl rfl) rfl rfl rfl rfl rfl ?_
              refine LexK.on (q_call _ rfl Fx.fn35 rfl (forms_self _ (hc.axf _ (List.getElem_mem hi))) rfl) rfl rfl rfl rfl rfl ?_
              refine LexK.on (q_not rfl rfl) rfl rfl rfl rfl rfl ?_
              refine LexK.q (q_pkF rfl rfl rfl) rfl rfl rfl ?_
              refine LexK.nil (by kernel_rfl) ?_
              refine AW.condF rfl ?_
              refine AW.skip ?_
              refine AW.reg ?_
              refine SeqK.q (q_mvC rfl rfl) rfl rfl rfl ?_
              refine SeqK.q (q_add _ rfl rfl rfl (w64 (by omega) (by omega))) rfl rfl rfl ?_
              refine SeqK.q (q_asC rfl rfl) rfl rfl rfl ?_
              refine SeqK.nil ?_
              exact ⟨i + 1, _, Wk.keep 168 [(2, .lp 2 0), (3, .lp 3 0), (5, iX .i64 (((i + 1) : Nat) : Int))] [(2, .box [.t (.sl .un 1 (c.nl.map i64T)), .t (.sl .un 1 (c.nn.map i64T)), .t (.sl .un 4 (c.ax.map axT)), .t (.sl .un 3 (c.is.map ctT)), .t (.sl .un 4 (c.ts.map tsT)), .t (.sl .un 2 (c.sm.map prT)), .t (.sl .un 2 (c.df.map prT))]), (3, .box [.t (.sl .un 1 (c.nl.map i64T)), .t (.sl .un 1 (c.nn.map i64T)), .t (.sl .un 4 (c.ax.map axT)), .t (.sl .un 3 (c.is.map ctT)), .t (.sl .un 4 (c.ts.map tsT)), .t (.sl .un 2 (c.sm.map prT)), .t (.sl .un 2 (c.df.map prT))])] (H) rfl ⟨rfl, rfl, rfl, trivial⟩ ⟨rfl, rfl, trivial⟩ (fun _ _ h => h) rfl, by omega, hi, rfl⟩
        ·
          refine AW.exit ?_
          refine eth_e ?_
          refine eth_e ?_
          refine exit_here ?_
          refine AW.seq ?_
          refine AW.seq ?_
          refine AW.reg ?_
          refine SeqK.q (q_asC rfl rfl) rfl rfl rfl ?_
          refine SeqK.nil ?_
          refine AW.block ?_
          refine AW.loop (fun (i : Nat) s => (i ≤ c.is.length) ∧ s = ⟨168, sp [(2, .lp 2 0), (3, .lp 3 0), (6, iX .i64 ((i : Nat) : Int))], lv [(2, .box [.t (.sl .un 1 (c.nl.map i64T)), .t (.sl .un 1 (c.nn.map i64T)), .t (.sl .un 4 (c.ax.map axT)), .t (.sl .un 3 (c.is.map ctT)), .t (.sl .un 4 (c.ts.map tsT)), .t (.sl .un 2 (c.sm.map prT)), .t (.sl .un 2 (c.df.map prT))]), (3, .box [.t (.sl .un 1 (c.nl.map i64T)), .t (.sl .un 1 (c.nn.map i64T)), .t (.sl .un 4 (c.ax.map axT)), .t (.sl .un 3 (c.is.map ctT)), .t (.sl .un 4 (c.ts.map tsT)), .t (.sl .un 2 (c.sm.map prT)), .t (.sl .un 2 (c.df.map prT))])], H⟩) (fun i => c.is.length - i) 0 ⟨_, Wk.keep 168 [(2, .lp 2 0), (3, .lp 3 0), (6, iX .i64 ((((0 : Nat)) : Nat) : Int))] [(2, .box [.t (.sl .un 1 (c.nl.map i64T)), .t (.sl .un 1 (c.nn.map i64T)), .t (.sl .un 4 (c.ax.map axT)), .t (.sl .un 3 (c.is.map ctT)), .t (.sl .un 4 (c.ts.map tsT)), .t (.sl .un 2 (c.sm.map prT)), .t (.sl .un 2 (c.df.map prT))]), (3, .box [.t (.sl .un 1 (c.nl.map i64T)), .t (.sl .un 1 (c.nn.map i64T)), .t (.sl .un 4 (c.ax.map axT)), .t (.sl .un 3 (c.is.map ctT)), .t (.sl .un 4 (c.ts.map tsT)), .t (.sl .un 2 (c.sm.map prT)), .t (.sl .un 2 (c.df.map prT))])] (H) rfl ⟨rfl, rfl, rfl, trivial⟩ ⟨rfl, rfl, trivial⟩ (fun _ _ h => h) rfl, Nat.zero_le _, rfl⟩ (fun i s hs => ?_)
          obtain ⟨hi0, rfl⟩ := hs
          refine AW.seq ?_
          refine AW.seq ?_
          refine AW.reg ?_
          refine SeqK.q (q_mvC rfl rfl) rfl rfl rfl ?_
          refine SeqK.q (q_fieldL _ rfl Fx.fl28_3 rfl rfl) rfl rfl rfl ?_
          refine SeqK.r (b_load (r := .a _) rfl Fx.ty24 rfl rfl rfl rfl rfl rfl) rfl ?_
          refine SeqK.q (q_len rfl Fx.un24 rfl) rfl rfl rfl ?_
          refine SeqK.q (q_lss rfl rfl rfl) rfl rfl rfl ?_
          refine SeqK.nil ?_
          refine AW.condD rfl (fun h118 => ?_) (fun h118 => ?_)
          ·
            have hi : i < c.is.length := by rw [List.length_map] at h118; omega
            refine AW.skip ?_
            refine AW.seq ?_
            refine AW.block ?_
            refine AW.seq ?_
            refine AW.draw Fx.mo ?_
            refine LexK.q (q_fieldL _ rfl Fx.fl28_3 rfl rfl) rfl rfl rfl ?_
            refine LexK.r (b_load (r := .a _) rfl Fx.ty24 rfl rfl rfl rfl rfl rfl) rfl ?_
            refine LexK.q (q_mvC rfl rfl) rfl rfl rfl ?_
            refine LexK.q (q_index _ rfl Fx.sl24 rfl rfl (by omega) (idx_map (f := ctT) hi)) rfl rfl rfl ?_
            refine LexK.q (q_fieldP _ rfl Fx.fl76_1 rfl rfl) rfl rfl rfl ?_
            refine LexK.q (q_load (.a _) rfl Fx.ty4 rfl rfl rfl) rfl rfl rfl ?_
            refine LexK.q (q_fieldL _ rfl Fx.fl28_3 rfl rfl) rfl rfl rfl ?_
            refine LexK.r (b_load (r := .a _) rfl Fx.ty24 rfl rfl rfl rfl rfl rfl) rfl ?_
            refine LexK.q (q_mvC rfl rfl) rfl rfl rfl ?_
            refine LexK.q (q_index _ rfl Fx.sl24 rfl rfl (by omega) (idx_map (f := ctT) hi)) rfl rfl rfl ?_
            refine LexK.q (q_fieldP _ rfl Fx.fl76_1 rfl rfl) rfl rfl rfl ?_
            refine LexK.q (q_load (.a _) rfl Fx.ty4 rfl rfl rfl) rfl rfl rfl ?_
            refine LexK.q (q_neqB rfl Fx.un4 rfl rfl) rfl rfl rfl ?_
            refine LexK.qD (q_mvC rfl rfl) rfl rfl rfl (fun g134 => ?_) (fun g134 => ?_)
            ·
              exact absurd rfl g134
            ·
              refine LexK.on (q_fieldL _ rfl Fx.fl28_3 rfl rfl) rfl rfl rfl rfl rfl ?_
              refine LexK.rOn (b_load (r := .a _) rfl Fx.ty24 rfl rfl rfl rfl rfl rfl) rfl rfl rfl ?_
              refine LexK.on (q_mvC rfl rfl) rfl rfl rfl rfl rfl ?_
              refine LexK.on (q_index _ rfl Fx.sl24 rfl rfl (by omega) (idx_map (f := ctT) hi)) rfl rfl rfl rfl rfl ?_
              refine LexK.on (q_fieldP _ rfl Fx.fl76_0 rfl rfl) rfl rfl rfl rfl rfl ?_
              refine LexK.on (q_load (.g [_, _]) rfl Fx.ty74 rfl rfl rfl) rfl rfl rfl rfl rfl ?_
              refine LexK.on (q_fieldL _ rfl Fx.fl28_3 rfl rfl) rfl rfl rfl rfl rfl ?_
              refine LexK.rOn (b_load (r := .a _) rfl Fx.ty24 rfl rfl rfl rfl rfl rfl) rfl rfl rfl ?_
              refine LexK.on (q_mvC rfl rfl) rfl rfl rfl rfl rfl ?_
              refine LexK.on (q_index _ rfl Fx.sl24 rfl rfl (by omega) (idx_map (f := ctT) hi)) rfl rfl rfl rfl rfl ?_
              refine LexK.on (q_fieldP _ rfl Fx.fl76_0 rfl rfl) rfl rfl rfl rfl rfl ?_
              refine LexK.on (q_load (.g [_, _]) rfl Fx.ty74 rfl rfl rfl) rfl rfl rfl rfl rfl ?_
              refine LexK.on (q_call _ rfl Fx.fn35 rfl (forms_self _ (hc.isf _ (List.getElem_mem hi))) rfl) rfl rfl rfl rfl rfl ?_
              refine LexK.on (q_not rfl rfl) rfl rfl rfl rfl rfl ?_
              refine LexK.q (q_pkF rfl rfl rfl) rfl rfl rfl ?_
              refine LexK.nil (by kernel_rfl) ?_
              refine AW.condF rfl ?_
              refine AW.skip ?_
              refine AW.reg ?_
              refine SeqK.q (q_mvC rfl rfl) rfl rfl rfl ?_
              refine SeqK.q (q_add _ rfl rfl rfl (w64 (by omega) (by omega))) rfl rfl rfl ?_
              refine SeqK.q (q_asC rfl rfl) rfl rfl rfl ?_
              refine SeqK.nil ?_
              exact ⟨i + 1, _, Wk.keep 168 [(2, .lp 2 0), (3, .lp 3 0), (6, iX .i64 (((i + 1) : Nat) : Int))] [(2, .box [.t (.sl .un 1 (c.nl.map i64T)), .t (.sl .un 1 (c.nn.map i64T)), .t (.sl .un 4 (c.ax.map axT)), .t (.sl .un 3 (c.is.map ctT)), .t (.sl .un 4 (c.ts.map tsT)), .t (.sl .un 2 (c.sm.map prT)), .t (.sl .un 2 (c.df.map prT))]), (3, .box [.t (.sl .un 1 (c.nl.map i64T)), .t (.sl .un 1 (c.nn.map i64T)), .t (.sl .un 4 (c.ax.map axT)), .t (.sl .un 3 (c.is.map ctT)), .t (.sl .un 4 (c.ts.map tsT)), .t (.sl .un 2 (c.sm.map prT)), .t (.sl .un 2 (c.df.map prT))])] (H) rfl ⟨rfl, rfl, rfl, trivial⟩ ⟨rfl, rfl, trivial⟩ (fun _ _ h => h) rfl, by omega, hi, rfl⟩
          ·
            refine AW.exit ?_
            refine eth_e ?_
            refine eth_e ?_
            refine exit_here ?_
            refine AW.seq ?_
            refine AW.seq ?_
            refine AW.reg ?_
            refine SeqK.q (q_asC rfl rfl) rfl rfl rfl ?_
            refine SeqK.nil ?_
            refine AW.block ?_
            refine AW.loop (fun (i : Nat) s => (i ≤ c.ts.length) ∧ s = ⟨168, sp [(2, .lp 2 0), (3, .lp 3 0), (7, iX .i64 ((i : Nat) : Int))], lv [(2, .box [.t (.sl .un 1 (c.nl.map i64T)), .t (.sl .un 1 (c.nn.map i64T)), .t (.sl .un 4 (c.ax.map axT)), .t (.sl .un 3 (c.is.map ctT)), .t (.sl .un 4 (c.ts.map tsT)), .t (.sl .un 2 (c.sm.map prT)), .t (.sl .un 2 (c.df.map prT))]), (3, .box [.t (.sl .un 1 (c.nl.map i64T)), .t (.sl .un 1 (c.nn.map i64T)), .t (.sl .un 4 (c.ax.map axT)), .t (.sl .un 3 (c.is.map ctT)), .t (.sl .un 4 (c.ts.map tsT)), .t (.sl .un 2 (c.sm.map prT)), .t (.sl .un 2 (c.df.map prT))])], H⟩) (fun i => c.ts.length - i) 0 ⟨_, Wk.keep 168 [(2, .lp 2 0), (3, .lp 3 0), (7, iX .i64 ((((0 : Nat)) : Nat) : Int))] [(2, .box [.t (.sl .un 1 (c.nl.map i64T)), .t (.sl .un 1 (c.nn.map i64T)), .t (.sl .un 4 (c.ax.map axT)), .t (.sl .un 3 (c.is.map ctT)), .t (.sl .un 4 (c.ts.map tsT)), .t (.sl .un 2 (c.sm.map prT)), .t (.sl .un 2 (c.df.map prT))]), (3, .box [.t (.sl .un 1 (c.nl.map i64T)), .t (.sl .un 1 (c.nn.map i64T)), .t (.sl .un 4 (c.ax.map axT)), .t (.sl .un 3 (c.is.map ctT)), .t (.sl .un 4 (c.ts.map tsT)), .t (.sl .un 2 (c.sm.map prT)), .t (.sl .un 2 (c.df.map prT))])] (H) rfl ⟨rfl, rfl, rfl, trivial⟩ ⟨rfl, rfl, trivial⟩ (fun _ _ h => h) rfl, Nat.zero_le _, rfl⟩ (fun i s hs => ?_)
            obtain ⟨hi0, rfl⟩ := hs
            refine AW.seq ?_
            refine AW.seq ?_
            refine AW.reg ?_
            refine SeqK.q (q_mvC rfl rfl) rfl rfl rfl ?_
            refine SeqK.q (q_fieldL _ rfl Fx.fl28_4 rfl rfl) rfl rfl rfl ?_
            refine SeqK.r (b_load (r := .a _) rfl Fx.ty25 rfl rfl rfl rfl rfl rfl) rfl ?_
            refine SeqK.q (q_len rfl Fx.un25 rfl) rfl rfl rfl ?_
            refine SeqK.q (q_lss rfl rfl rfl) rfl rfl rfl ?_
            refine SeqK.nil ?_
            refine AW.condD rfl (fun h154 => ?_) (fun h154 => ?_)
            ·
              have hi : i < c.ts.length := by rw [List.length_map] at h154; omega
              refine AW.skip ?_
              refine AW.seq ?_
              refine AW.block ?_
              refine AW.seq ?_
              refine AW.draw Fx.mo ?_
              refine LexK.q (q_fieldL _ rfl Fx.fl28_4 rfl rfl) rfl rfl rfl ?_
              refine LexK.r (b_load (r := .a _) rfl Fx.ty25 rfl rfl rfl rfl rfl rfl) rfl ?_
              refine LexK.q (q_mvC rfl rfl) rfl rfl rfl ?_
              refine LexK.q (q_index _ rfl Fx.sl25 rfl rfl (by omega) (idx_map (f := tsT) hi)) rfl rfl rfl ?_
              refine LexK.q (q_load (.g [_, _, _, _]) rfl Fx.ty61 rfl rfl rfl) rfl rfl rfl ?_
              refine LexK.q (q_fieldL _ rfl Fx.fl28_4 rfl rfl) rfl rfl rfl ?_
              refine LexK.r (b_load (r := .a _) rfl Fx.ty25 rfl rfl rfl rfl rfl rfl) rfl ?_
              refine LexK.q (q_mvC rfl rfl) rfl rfl rfl ?_
              refine LexK.q (q_index _ rfl Fx.sl25 rfl rfl (by omega) (idx_map (f := tsT) hi)) rfl rfl rfl ?_
              refine LexK.q (q_load (.g [_, _, _, _]) rfl Fx.ty61 rfl rfl rfl) rfl rfl rfl ?_
              refine LexK.q (q_neqG [.int .i64 c.ts[i].v, .int .i64 c.ts[i].k, .bool c.ts[i].n, .string c.ts[i].s] [.int .i64 c.ts[i].v, .int .i64 c.ts[i].k, .bool c.ts[i].n, .string c.ts[i].s] rfl rfl rfl rfl rfl (by kernel_rfl) (fun w => eq61 _ _ _ _ _ _ _ _ w)) rfl rfl rfl ?_
              refine LexK.nil (by kernel_rfl) ?_
              refine AW.cond _ rfl (fun h167 => ?_) (fun h167 => ?_)
              ·
                exact absurd h167 (by simp)
              ·
                refine AW.skip ?_
                refine AW.reg ?_
                refine SeqK.q (q_mvC rfl rfl) rfl rfl rfl ?_
                refine SeqK.q (q_add _ rfl rfl rfl (w64 (by omega) (by omega))) rfl rfl rfl ?_
                refine SeqK.q (q_asC rfl rfl) rfl rfl rfl ?_
                refine SeqK.nil ?_
                exact ⟨i + 1, _, Wk.keep 168 [(2, .lp 2 0), (3, .lp 3 0), (7, iX .i64 (((i + 1) : Nat) : Int))] [(2, .box [.t (.sl .un 1 (c.nl.map i64T)), .t (.sl .un 1 (c.nn.map i64T)), .t (.sl .un 4 (c.ax.map axT)), .t (.sl .un 3 (c.is.map ctT)), .t (.sl .un 4 (c.ts.map tsT)), .t (.sl .un 2 (c.sm.map prT)), .t (.sl .un 2 (c.df.map prT))]), (3, .box [.t (.sl .un 1 (c.nl.map i64T)), .t (.sl .un 1 (c.nn.map i64T)), .t (.sl .un 4 (c.ax.map axT)), .t (.sl .un 3 (c.is.map ctT)), .t (.sl .un 4 (c.ts.map tsT)), .t (.sl .un 2 (c.sm.map prT)), .t (.sl .un 2 (c.df.map prT))])] (H) rfl ⟨rfl, rfl, rfl, trivial⟩ ⟨rfl, rfl, trivial⟩ (fun _ _ h => h) rfl, by omega, hi, rfl⟩
            ·
              refine AW.exit ?_
              refine eth_e ?_
              refine eth_e ?_
              refine exit_here ?_
              refine AW.seq ?_
              refine AW.reg ?_
              refine SeqK.q (q_asC rfl rfl) rfl rfl rfl ?_
              refine SeqK.nil ?_
              refine AW.ret ?_
              exact fin_x (x := .c _) (H) (.tmp rfl .nil) rfl (fun _ _ h => h) (⟨rfl, rfl⟩)

end Go.Proofs.Ytnmfjojhgfipcaa.W
namespace Go.Proofs.Ytnmfjojhgfipcaa.W
open Go.RowKit E
set_option linter.unusedVariables false
set_option linter.unusedSimpArgs false
set_option linter.unusedSectionVars false
/-! what a renaming keeps -/
structure Mv (q : List Int) (m : Nat) : Prop where
  m20 : m ≤ 20
  ins : ∀ j (h : j < q.length), 0 ≤ q[j] ∧ q[j] < m
  inj : ∀ i j (hi : i < q.length) (hj : j < q.length), q[i] = q[j] → i = j
theorem Mv.of {l : List Vr} {q : List Int} {m : Nat} (h : rtP l q m) : Mv q m := by
  obtain ⟨_, h2, h3⟩ := h
  refine ⟨by omega, fun j hj => (h3 j hj).1, fun i j hi hj e => ?_⟩
  rcases Nat.lt_trichotomy i j with k | k | k
  · exact absurd e.symm ((h3 j hj).2 i k)
  · exact k
  · exact absurd e ((h3 i hi).2 j k)
section
variable {q : List Int} {m : Nat}
theorem ren_in (M : Mv q m) {v : Int} (h0 : 0 ≤ v) (h1 : v < q.length) : 0 ≤ ren q m v ∧ ren q m v < m := by
  rw [ren_lo (by omega) (by omega : v.toNat < q.length)]; exact M.ins _ _
theorem ren_inj (M : Mv q m) {v w : Int} (hv : 0 ≤ v) (hw : 0 ≤ w) (h : ren q m v = ren q m w) : v = w := by
  by_cases h1 : (q.length : Int) ≤ v
  · by_cases h2 : (q.length : Int) ≤ w
    · rw [ren_hi h1, ren_hi h2] at h; omega
    · have := (ren_in M hw (by omega)).2; rw [← h, ren_hi h1] at this; omega
  · by_cases h2 : (q.length : Int) ≤ w
    · have := (ren_in M hv (by omega)).2; rw [h, ren_hi h2] at this; omega
    · rw [ren_lo h1 (by omega : v.toNat < q.length), ren_lo h2 (by omega : w.toNat < q.length)] at h
      have := M.inj _ _ _ _ h; omega
theorem pw_of_step {l : List Int} (h : ∀ j (h : j < l.length), ∀ (h0 : 0 < j), l[j - 1] < l[j]) : sI l := by
  refine List.pairwise_iff_getElem.2 fun i j hi hj hij => ?_
  induction j with
  | zero => omega
  | succ j ih =>
    have h1 : l[j] < l[j + 1] := h (j + 1) hj (by omega)
    by_cases e : i = j
    · subst e; exact h1
    · have := ih (by omega) (by omega); omega
theorem nd_names (M : Mv q m) {cs : List Cf} (h : sI (cs.map (·.v))) (h0 : ∀ k ∈ cs, 0 ≤ k.v) : (cs.map fun k => ren q m k.v).Nodup := by
  refine List.pairwise_map.2 (((List.pairwise_map.1 h).imp_of_mem fun {a b} ha hb hab e => ?_))
  have := ren_inj M (h0 _ ha) (h0 _ hb) e
  omega
theorem nmF_of (M : Mv q m) {f : Lf} {nn : List Int} {l : List Vr} {bs : List Nat} (hf : formP f nn l bs) (hl : l.length ≤ 10) (hb : bs.length ≤ 80) (hc : f.cs.length ≤ 400) : nmF VV (ren q m) f := by
  have hm : ∀ k ∈ f.cs, (0 ≤ k.v ∧ k.v < l.length + bs.length) ∧ k.n ≠ 0 := fun k hk => by
    obtain ⟨j, hj, rfl⟩ := List.mem_iff_getElem.1 hk
    have := hf.2.1 j hj; exact ⟨this.1, this.2.2.1⟩
  refine ⟨by omega, fun k hk => ?_, fun k hk => (hm k hk).2, nd_names M (pw_of_step fun j hj h0 => ?_) fun k hk => (hm k hk).1.1⟩
  · have := (hm k hk).1; show _ ∧ _; omega
  · rw [List.getElem_map, List.getElem_map]
    exact (hf.2.1 j (by simpa using hj)).2.1 h0
theorem nmF_nil {f : Lf} (h : f.cs.length = 0) : nmF VV (ren q m) f := by
  have : f.cs = [] := List.eq_nil_of_length_eq_zero h
  exact ⟨by omega, by simp [this], by simp [this], by simp [this]⟩
theorem nmC_of (M : Mv q m) {c : Cl} {l : List Vr} (hl : l.length ≤ 10) (hf : fewP c) (hv : vldP c l) : nmC VV (ren q m) c := by
  obtain ⟨f1, _, f3⟩ := hf
  unfold lenN at f1
  obtain ⟨h1, h2, h3, h4, h5, h6, h7⟩ := hv
  have hax : ∀ a ∈ c.ax, a.f.cs.length ≤ 400 := fun a ha => by
    have : a.f.cs.length ≤ axN c.ax := sumL_mem (f := fun a : Ax => a.f.cs.length) ha
    omega
  have his : ∀ a ∈ c.is, a.f.cs.length ≤ 400 := fun a ha => by
    have : a.f.cs.length ≤ isN c.is := sumL_mem (f := fun a : Ct => a.f.cs.length) ha
    omega
  refine ⟨by omega, by omega, by omega, by omega, by omega, by omega, by omega, fun v hv => ?_, fun v hv => ?_, fun a ha hb => ?_, fun a ha => ?_, fun a ha => ?_, fun t ht => ?_, fun p hp => ?_, fun p hp => ?_⟩
  · obtain ⟨j, hj, rfl⟩ := List.mem_iff_getElem.1 hv
    have := h1 j hj; show _ ∧ _; exact ⟨this.1, by have := this.2.1; omega⟩
  · obtain ⟨j, hj, rfl⟩ := List.mem_iff_getElem.1 hv
    have := h2 j hj; show _ ∧ _; exact ⟨this.1, by have := this.2.1; omega⟩
  · obtain ⟨j, hj, rfl⟩ := List.mem_iff_getElem.1 ha
    rcases h3 j hj with ⟨_, _, _, k, _⟩ | ⟨k, _⟩
    · show _ ∧ _; exact ⟨k.1, by have := k.2; omega⟩
    · exact absurd hb k
  · have hlen := hax a ha
    obtain ⟨j, hj, rfl⟩ := List.mem_iff_getElem.1 ha
    rcases h3 j hj with ⟨_, k, _⟩ | ⟨_, k, _⟩
    · exact nmF_nil k
    · exact nmF_of M k hl (by rw [bsF_len, List.length_take]; omega) hlen
  · have hlen := his a ha
    obtain ⟨j, hj, rfl⟩ := List.mem_iff_getElem.1 ha
    exact nmF_of M (h4 j hj) hl (by rw [bsF_len]; omega) hlen
  · obtain ⟨j, hj, rfl⟩ := List.mem_iff_getElem.1 ht
    have := (h5 j hj).2.1; show _ ∧ _; exact ⟨this.1, by have := this.2; omega⟩
  · obtain ⟨j, hj, rfl⟩ := List.mem_iff_getElem.1 hp
    have a := (h6 j hj).1.1; have b := (h6 j hj).2.1.1; exact ⟨⟨a.1, by have := a.2; omega⟩, ⟨b.1, by have := b.2; omega⟩⟩
  · obtain ⟨j, hj, rfl⟩ := List.mem_iff_getElem.1 hp
    have a := (h7 j hj).1.1; have b := (h7 j hj).2.1.1; exact ⟨⟨a.1, by have := a.2; omega⟩, ⟨b.1, by have := b.2; omega⟩⟩
theorem rgC_rn {gv : Int → Int} {V : Int → Prop} {c : Cl} (h : nmC V gv c) (hr : rgC c) : rgC (rnCl gv c) := by
  refine ⟨?_, ?_, ?_, ?_, ?_, ?_, ?_, fun a ha => ?_, fun a ha => ?_, fun t ht => ?_⟩
  · have := dd_len (c.nl.map gv); have h2 := h.nll; rw [List.length_map] at this; show (dd _).length ≤ _; omega
  · have := dd_len (c.nn.map gv); have h2 := h.nnl; rw [List.length_map] at this; show (dd _).length ≤ _; omega
  · show (List.map _ _).length ≤ _; rw [List.length_map]; exact hr.ax
  · show (List.map _ _).length ≤ _; rw [List.length_map]; exact hr.is
  · show (List.map _ _).length ≤ _; rw [List.length_map]; exact hr.ts
  · show (List.map _ _).length ≤ _; rw [List.length_map]; exact hr.sm
  · show (List.map _ _).length ≤ _; rw [List.length_map]; exact hr.df
  · obtain ⟨b, hb, rfl⟩ := List.mem_map.1 ha
    have := cofs_len (b.f.cs.map (rnK gv)); rw [List.length_map] at this
    have := hr.axf b hb; show (cofs _).length ≤ _; omega
  · obtain ⟨b, hb, rfl⟩ := List.mem_map.1 ha
    have := cofs_len (b.f.cs.map (rnK gv)); rw [List.length_map] at this
    have := hr.isf b hb; show (cofs _).length ≤ _; omega
  · obtain ⟨b, hb, rfl⟩ := List.mem_map.1 ht
    exact hr.tss b hb
end
end Go.Proofs.Ytnmfjojhgfipcaa.W
namespace Go.Proofs.Ytnmfjojhgfipcaa.W
open Go.RowKit E
set_option linter.unusedVariables false
set_option linter.unusedSimpArgs false
set_option linter.unusedSectionVars false
/-! a clause renamed holds in the row moved exactly if the clause holds -/
theorem w_comm (s x y : Int) : w (w (s + x) + y) = w (w (s + y) + x) := by
  simp only [w, IntKind.wrap_i64]; omega
theorem cmpV_perm {r : List RV} {au : List Int} {l l' : List Cf} (h : l.Perm l') : ∀ s, cmpV r au l s = cmpV r au l' s := by
  induction h with
  | nil => intro s; rfl
  | cons a _ ih => intro s; rw [cmpV, cmpV]; split; exact ih _; rfl
  | swap a b l =>
    intro s
    rw [cmpV, cmpV, cmpV, cmpV]
    by_cases h1 : (itV r au a.v).2 = true
    · by_cases h2 : (itV r au b.v).2 = true
      · rw [if_pos h2, if_pos h1, if_pos h1, if_pos h2, w_comm]
      · rw [if_neg h2, if_pos h1, if_neg h2]
    · by_cases h2 : (itV r au b.v).2 = true
      · rw [if_pos h2, if_neg h1, if_neg h1]
      · rw [if_neg h2, if_neg h1]
  | trans _ _ ih1 ih2 => intro s; rw [ih1, ih2]
theorem perm_mem : ∀ {l m : List Cf}, l.Nodup → m.Nodup → (∀ x, x ∈ l ↔ x ∈ m) → l.Perm m
  | [], [], _, _, _ => .nil
  | [], y :: m, _, _, h => absurd ((h y).2 (by simp)) (by simp)
  | a :: l, m, hl, hm, h => by
    obtain ⟨s, t, rfl⟩ := List.append_of_mem ((h a).1 (by simp))
    have hp : (s ++ a :: t).Perm (a :: (s ++ t)) := List.perm_middle
    have hn := hp.nodup_iff.1 hm
    rw [List.nodup_cons] at hl hn
    refine List.Perm.trans (.cons a (perm_mem hl.2 hn.2 fun x => ?_)) hp.symm
    have hx := (h x).trans hp.mem_iff
    rw [List.mem_cons, List.mem_cons] at hx
    constructor
    · intro hxl
      rcases hx.1 (.inr hxl) with rfl | k
      · exact absurd hxl hl.1
      · exact k
    · intro hxm
      rcases hx.2 (.inr hxm) with rfl | k
      · exact absurd hxm hn.1
      · exact k
theorem nodup_of_v {l : List Cf} (h : (l.map (·.v)).Nodup) : l.Nodup := (List.pairwise_map.1 h).imp fun {a b} h e => h (by rw [e])
theorem cofs_perm {gv : Int → Int} {V : Int → Prop} {f : Lf} (h : nmF V gv f) : (cofs (f.cs.map (rnK gv))).Perm (f.cs.map (rnK gv)) := by
  have hv : ((f.cs.map (rnK gv)).map (·.v)).Nodup := by rw [List.map_map]; exact h.nd
  exact perm_mem (nodup_of_v (by rw [cofs_v]; exact sI_nodup (dd_spec _).1)) (nodup_of_v hv) (cofs_mem hv)
theorem cmpV_map {r row : List RV} {au : List Int} {gv : Int → Int} : ∀ {l : List Cf}, (∀ k ∈ l, itV row au (gv k.v) = itV r au k.v) → ∀ s, cmpV row au (l.map (rnK gv)) s = cmpV r au l s
  | [], _, s => rfl
  | a :: l, h, s => by
    rw [List.map_cons, cmpV, cmpV]
    have h1 : itV row au (rnK gv a).v = itV r au a.v := h a (by simp)
    rw [h1]
    split
    · exact cmpV_map (fun k hk => h k (by simp [hk])) _
    · rfl
theorem lfV_rn {r row : List RV} {au : List Int} {gv : Int → Int} {V : Int → Prop} {f : Lf} (h : nmF V gv f) (hi : ∀ k ∈ f.cs, itV row au (gv k.v) = itV r au k.v) : lfV row au (rnF gv f) = lfV r au f := by
  rw [lfV, lfV, cmpV_perm (cofs_perm h)]
  exact cmpV_map hi _
section
variable {q : List Int} {m : Nat} {r row : List RV}
structure Moved (q : List Int) (m : Nat) (r row : List RV) : Prop where
  M : Mv q m
  rl : r.length = q.length
  wl : row.length = m
  put : ∀ j (h : j < q.length), at' row q[j] = at' r j
theorem Moved.at (P : Moved q m r row) {v : Int} (h0 : 0 ≤ v) (h1 : v < q.length) : at' row (ren q m v) = at' r v := by
  have hv : v.toNat < q.length := by omega
  rw [ren_lo (by omega) hv, P.put _ hv]
  congr 1
  omega
theorem Moved.it (P : Moved q m r row) {au : List Int} {v : Int} (h0 : 0 ≤ v) : itV row au (ren q m v) = itV r au v := by
  have h1 := P.rl
  have h2 := P.wl
  unfold itV
  by_cases h : (q.length : Int) ≤ v
  · rw [ren_hi h, if_pos (by omega), if_pos (by omega), show ((m : Int) + v - q.length).toNat - row.length = v.toNat - r.length by omega]
  · have := ren_in P.M h0 (by omega)
    rw [if_neg (by omega), if_neg (by omega), P.at h0 (by omega)]
theorem Moved.lf (P : Moved q m r row) {au : List Int} {f : Lf} (h : nmF VV (ren q m) f) : lfV row au (rnF (ren q m) f) = lfV r au f := lfV_rn h fun k hk => P.it (h.v k hk).1
theorem Moved.au (P : Moved q m r row) : ∀ {A : List Ax} {out : List Int}, (∀ a ∈ A, (a.b = 0 → 0 ≤ a.t ∧ a.t < q.length) ∧ nmF VV (ren q m) a.f) → auV row (A.map (rnA (ren q m))) out = auV r A out
  | [], out, _ => by rw [List.map_nil, auV, auV]
  | a :: A, out, h => by
    have ih : ∀ out, auV row (A.map (rnA (ren q m))) out = auV r A out := fun out => P.au fun b hb => h b (by simp [hb])
    rw [List.map_cons, auV, auV]
    have h1 := h a (by simp)
    by_cases hb : a.b = 0
    · rw [if_pos (show (rnA (ren q m) a).b = 0 from hb), if_pos hb, show (rnA (ren q m) a).t = ren q m a.t from if_pos hb, P.at (h1.1 hb).1 (h1.1 hb).2, ih]
    · rw [if_neg (show ¬ (rnA (ren q m) a).b = 0 from hb), if_neg hb, show lfV row out (rnA (ren q m) a).f = lfV r out a.f from P.lf h1.2, ih]
theorem all_mem {α : Type} {l : List α} {Q : α → Prop} : (∀ j (h : j < l.length), Q l[j]) ↔ ∀ x ∈ l, Q x :=
  ⟨fun h x hx => by obtain ⟨j, hj, rfl⟩ := List.mem_iff_getElem.1 hx; exact h j hj, fun h j hj => h _ (List.getElem_mem hj)⟩
theorem all_map {α β : Type} {l : List α} {f : α → β} {Q : β → Prop} {R : α → Prop} (h : ∀ x ∈ l, Q (f x) ↔ R x) : (∀ j (h : j < (l.map f).length), Q (l.map f)[j]) ↔ ∀ j (h : j < l.length), R l[j] := by
  rw [all_mem, all_mem]
  exact ⟨fun k x hx => (h x hx).1 (k _ (List.mem_map.2 ⟨x, hx, rfl⟩)), fun k y hy => by obtain ⟨x, hx, rfl⟩ := List.mem_map.1 hy; exact (h x hx).2 (k x hx)⟩
theorem all_dd {l : List Int} {f : Int → Int} {Q : Int → Prop} {R : Int → Prop} (h : ∀ x ∈ l, Q (f x) ↔ R x) : (∀ j (h : j < (dd (l.map f)).length), Q (dd (l.map f))[j]) ↔ ∀ j (h : j < l.length), R l[j] := by
  rw [all_mem, all_mem]
  exact ⟨fun k x hx => (h x hx).1 (k _ (((dd_spec _).2 _).2 (List.mem_map.2 ⟨x, hx, rfl⟩))), fun k y hy => by obtain ⟨x, hx, rfl⟩ := List.mem_map.1 (((dd_spec _).2 _).1 hy); exact (h x hx).2 (k x hx)⟩
theorem mnx {gv : Int → Int} {p : Int × Int} : (rnP gv p).1 = gv p.1 ∧ (rnP gv p).2 = gv p.2 ∨ (rnP gv p).1 = gv p.2 ∧ (rnP gv p).2 = gv p.1 := by
  show min _ _ = _ ∧ max _ _ = _ ∨ min _ _ = _ ∧ max _ _ = _
  omega
theorem Moved.sm (P : Moved q m r row) {p : Int × Int} (h : (0 ≤ p.1 ∧ p.1 < r.length) ∧ 0 ≤ p.2 ∧ p.2 < r.length) : smQ row (rnP (ren q m) p) ↔ smQ r p := by
  have e := P.rl
  have e1 := P.at h.1.1 (by omega)
  have e2 := P.at h.2.1 (by omega)
  unfold smQ
  rcases mnx (gv := ren q m) (p := p) with ⟨a, b⟩ | ⟨a, b⟩ <;> rw [a, b, e1, e2]
  exact ⟨fun ⟨x, y, z⟩ => ⟨y, x, z.symm⟩, fun ⟨x, y, z⟩ => ⟨y, x, z.symm⟩⟩
theorem Moved.df (P : Moved q m r row) {p : Int × Int} (h : (0 ≤ p.1 ∧ p.1 < r.length) ∧ 0 ≤ p.2 ∧ p.2 < r.length) : dfQ row (rnP (ren q m) p) ↔ dfQ r p := by
  have e := P.rl
  have e1 := P.at h.1.1 (by omega)
  have e2 := P.at h.2.1 (by omega)
  unfold dfQ
  rcases mnx (gv := ren q m) (p := p) with ⟨a, b⟩ | ⟨a, b⟩ <;> rw [a, b, e1, e2]
  exact ⟨fun ⟨x, y, z⟩ => ⟨y, x, z.symm⟩, fun ⟨x, y, z⟩ => ⟨y, x, z.symm⟩⟩
theorem Moved.inr (P : Moved q m r row) {v : Int} (h : 0 ≤ v ∧ v < r.length) : 0 ≤ ren q m v ∧ ren q m v < row.length := by
  have := P.rl
  have := P.wl
  have := ren_in P.M h.1 (by omega)
  omega
theorem Moved.ina (P : Moved q m r row) {v : Int} {k : Nat} (h : 0 ≤ v ∧ v < (r.length + k : Nat)) : 0 ≤ ren q m v ∧ ren q m v < (row.length + k : Nat) := by
  have h1 := P.rl
  have h2 := P.wl
  by_cases hv : (q.length : Int) ≤ v
  · rw [ren_hi hv]; omega
  · have := ren_in P.M h.1 (by omega); omega
theorem Moved.okF' (P : Moved q m r row) {f : Lf} {k : Nat} (hf : nmF VV (ren q m) f) (h : okF f (r.length + k)) : okF (rnF (ren q m) f) (row.length + k) := fun j hj => by
  have hm := (cofs_perm hf).mem_iff.1 (List.getElem_mem hj)
  obtain ⟨b, hb, e⟩ := List.mem_map.1 hm
  obtain ⟨i, hi, rfl⟩ := List.mem_iff_getElem.1 hb
  have := P.ina (k := k) (h i hi)
  rw [show (rnF (ren q m) f).cs[j].v = ren q m f.cs[i].v by rw [← e]]
  exact this
theorem Moved.ok (P : Moved q m r row) {c : Cl} (hc : nmC VV (ren q m) c) (h : okC c r) : okC (rnCl (ren q m) c) row := by
  have e := P.rl
  refine ⟨?_, ?_, fun j hj => ⟨fun hb => ?_, fun hb => ?_⟩, fun j hj => ?_, ?_, ?_, ?_, ?_, ?_⟩
  · refine (all_mem (l := dd (c.nl.map (ren q m))) (Q := fun x => 0 ≤ x ∧ x < (row.length : Int))).2 fun x hx => ?_
    obtain ⟨v, hv, rfl⟩ := List.mem_map.1 (((dd_spec _).2 _).1 hx)
    exact P.inr (all_mem (Q := fun v => 0 ≤ v ∧ v < (r.length : Int)) |>.1 h.nl v hv)
  · refine (all_mem (l := dd (c.nn.map (ren q m))) (Q := fun x => 0 ≤ x ∧ x < (row.length : Int))).2 fun x hx => ?_
    obtain ⟨v, hv, rfl⟩ := List.mem_map.1 (((dd_spec _).2 _).1 hx)
    exact P.inr (all_mem (Q := fun v => 0 ≤ v ∧ v < (r.length : Int)) |>.1 h.nn v hv)
  · have hj' : j < c.ax.length := by simpa using hj
    have e1 : (rnCl (ren q m) c).ax[j] = rnA (ren q m) c.ax[j] := List.getElem_map _
    rw [e1] at hb ⊢
    have hb : c.ax[j].b = 0 := hb
    rw [show (rnA (ren q m) c.ax[j]).t = ren q m c.ax[j].t from if_pos hb]
    exact P.inr ((h.ax j hj').1 hb)
  · have hj' : j < c.ax.length := by simpa using hj
    have e1 : (rnCl (ren q m) c).ax[j] = rnA (ren q m) c.ax[j] := List.getElem_map _
    rw [e1] at hb ⊢
    have hb : c.ax[j].b ≠ 0 := hb
    have := (h.ax j hj').2 hb
    exact ⟨this.1, P.okF' (hc.ax _ (List.getElem_mem hj')) this.2⟩
  · have hj' : j < c.is.length := by simpa using hj
    have e1 : (rnCl (ren q m) c).is[j] = rnI (ren q m) c.is[j] := List.getElem_map _
    have e2 : (rnCl (ren q m) c).ax.length = c.ax.length := List.length_map _
    rw [e1, e2]
    exact P.okF' (hc.is _ (List.getElem_mem hj')) (h.is j hj')
  · exact (all_map (Q := fun t : Ts => 0 ≤ t.v ∧ t.v < (row.length : Int)) (R := fun _ => True) fun t ht => ⟨fun _ => trivial, fun _ => P.inr (all_mem (Q := fun t : Ts => 0 ≤ t.v ∧ t.v < (r.length : Int)) |>.1 h.ts t ht)⟩).2 fun _ _ => trivial
  · refine (all_map (Q := fun p : Int × Int => (0 ≤ p.1 ∧ p.1 < (row.length : Int)) ∧ 0 ≤ p.2 ∧ p.2 < (row.length : Int)) (R := fun _ => True) fun p hp => ⟨fun _ => trivial, fun _ => ?_⟩).2 fun _ _ => trivial
    have k := all_mem (Q := fun p : Int × Int => (0 ≤ p.1 ∧ p.1 < (r.length : Int)) ∧ 0 ≤ p.2 ∧ p.2 < (r.length : Int)) |>.1 h.sm p hp
    have k1 := P.inr k.1
    have k2 := P.inr k.2
    rcases mnx (gv := ren q m) (p := p) with ⟨a, b⟩ | ⟨a, b⟩ <;> rw [a, b]
    · exact ⟨k1, k2⟩
    · exact ⟨k2, k1⟩
  · refine (all_map (Q := fun p : Int × Int => (0 ≤ p.1 ∧ p.1 < (row.length : Int)) ∧ 0 ≤ p.2 ∧ p.2 < (row.length : Int)) (R := fun _ => True) fun p hp => ⟨fun _ => trivial, fun _ => ?_⟩).2 fun _ _ => trivial
    have k := all_mem (Q := fun p : Int × Int => (0 ≤ p.1 ∧ p.1 < (r.length : Int)) ∧ 0 ≤ p.2 ∧ p.2 < (r.length : Int)) |>.1 h.df p hp
    have k1 := P.inr k.1
    have k2 := P.inr k.2
    rcases mnx (gv := ren q m) (p := p) with ⟨a, b⟩ | ⟨a, b⟩ <;> rw [a, b]
    · exact ⟨k1, k2⟩
    · exact ⟨k2, k1⟩
  · intro a ha
    obtain ⟨b, hb, rfl⟩ := List.mem_map.1 ha
    exact h.cR b hb
  · intro a ha
    obtain ⟨b, hb, rfl⟩ := List.mem_map.1 ha
    exact h.iR b hb
theorem Moved.hol (P : Moved q m r row) {c : Cl} (hc : nmC VV (ren q m) c) (h : okC c r) : holP (rnCl (ren q m) c) row ↔ holP c r := by
  have e := P.rl
  have hau : auV row (rnCl (ren q m) c).ax [] = auV r c.ax [] := P.au fun a ha => by
    obtain ⟨j, hj, rfl⟩ := List.mem_iff_getElem.1 ha
    exact ⟨fun hb => by have := (h.ax j hj).1 hb; omega, hc.ax _ ha⟩
  unfold holP
  rw [hau]
  refine and_congr (all_dd (Q := fun v => (at' row v).k = 0) (R := fun v => (at' r v).k = 0) fun v hv => ?_) (and_congr (all_dd (Q := fun v => (at' row v).k ≠ 0) (R := fun v => (at' r v).k ≠ 0) fun v hv => ?_) (and_congr Iff.rfl (and_congr (all_map (Q := inQ row _) (R := inQ r _) fun k hk => ?_) (and_congr (all_map (Q := tsQ row) (R := tsQ r) fun t ht => ?_) (and_congr (all_map (Q := smQ row) (R := smQ r) fun p hp => ?_) (all_map (Q := dfQ row) (R := dfQ r) fun p hp => ?_))))))
  · obtain ⟨j, hj, rfl⟩ := List.mem_iff_getElem.1 hv
    have := h.nl j hj
    rw [P.at this.1 (by omega)]
  · obtain ⟨j, hj, rfl⟩ := List.mem_iff_getElem.1 hv
    have := h.nn j hj
    rw [P.at this.1 (by omega)]
  · unfold inQ
    rw [show lfV row (auV r c.ax []).1 (rnI (ren q m) k).f = lfV r (auV r c.ax []).1 k.f from P.lf (hc.is k hk)]
  · obtain ⟨j, hj, rfl⟩ := List.mem_iff_getElem.1 ht
    have := h.ts j hj
    unfold tsQ
    rw [show at' row (rnT (ren q m) c.ts[j]).v = at' r c.ts[j].v from P.at this.1 (by omega)]
    exact Iff.rfl
  · obtain ⟨j, hj, rfl⟩ := List.mem_iff_getElem.1 hp
    exact P.sm (h.sm j hj)
  · obtain ⟨j, hj, rfl⟩ := List.mem_iff_getElem.1 hp
    exact P.df (h.df j hj)
end
end Go.Proofs.Ytnmfjojhgfipcaa.W
namespace Go.Proofs.Ytnmfjojhgfipcaa.W
open Go.RowKit E
set_option linter.unusedVariables false
set_option linter.unusedSimpArgs false
set_option linter.unusedSectionVars false
theorem rvT_len (v : RV) : (rvT v).length = 3 := rfl
theorem put_step {q : List Int} {m i : Nat} {r row : List RV} (M : Mv q m) (hwl : row.length = m) (hi : i < q.length) (hir : i < r.length) (h : ∀ j (h : j < q.length), j < i → at' row q[j] = at' r j) :
    ∀ j (h : j < q.length), j < i + 1 → at' (row.set q[i].toNat r[i]) q[j] = at' r j := fun j hj hji => by
  have hqi := M.ins i hi
  have hqj := M.ins j hj
  by_cases e : j = i
  · subst e
    rw [at_get (by rw [List.length_set]; omega), List.getElem_set_self, at_get (by omega)]
    congr 1
  · have hne : q[i].toNat ≠ q[j].toNat := fun e2 => e (M.inj j i hj hi (by omega))
    rw [← h j hj (by omega), at_get (by rw [List.length_set]; omega), List.getElem_set_ne hne, at_get (by omega)]

set_option maxHeartbeats 8000000 in
set_option maxRecDepth 20000 in
theorem rename_law (c : Cl) (l : List Vr) (r : List RV) (q : List Int) (n : Int) (hc : rgC c) (hl : l.length ≤ 17592186044000) (hr : r.length ≤ 17592186044000) (hs : ∀ v ∈ r, v.s.size ≤ 1000000000000000) (hq : q.length ≤ 17592186044000) (H : Heap) : E.Spec Try.prog 5 [rnC c l r q n] H fun x H' => x = bX true := by
  refine Spec.enter Try.func5 rfl ?_
  refine AW.wk (Wk.keep 72 [(0, .c (rnC c l r q n))] [] (H) rfl ⟨rfl, trivial⟩ trivial (fun _ _ h => h) rfl) ?_
  refine AW.seq ?_
  refine AW.reg ?_
  refine SeqK.r (b_box (r := [_, _, _, _, _, _, _, _, _, _, _]) rfl rfl rfl rfl rfl rfl) rfl ?_
  refine SeqK.q (q_asC rfl rfl) rfl rfl rfl ?_
  refine SeqK.nil ?_
  refine AW.seq ?_
  refine AW.seq ?_
  refine AW.reg ?_
  refine SeqK.q (q_call _ rfl Fx.fn8 rfl (awake_any) rfl) rfl rfl rfl ?_
  refine SeqK.q (q_not rfl rfl) rfl rfl rfl ?_
  refine SeqK.q (q_mvC rfl rfl) rfl rfl rfl ?_
  refine SeqK.on (q_fieldL _ rfl Fx.fl39_0 rfl rfl) rfl rfl rfl rfl rfl ?_
  refine SeqK.rOn (b_load (r := .g [_, _, _, _, _, _, _]) rfl Fx.ty28 rfl rfl rfl rfl rfl rfl) rfl rfl rfl ?_
  refine SeqK.on (q_fieldL _ rfl Fx.fl39_1 rfl rfl) rfl rfl rfl rfl rfl ?_
  refine SeqK.rOn (b_load (r := .a _) rfl Fx.ty29 rfl rfl rfl rfl rfl rfl) rfl rfl rfl ?_
  refine SeqK.on (q_fieldL _ rfl Fx.fl39_2 rfl rfl) rfl rfl rfl rfl rfl ?_
  refine SeqK.rOn (b_load (r := .a _) rfl Fx.ty31 rfl rfl rfl rfl rfl rfl) rfl rfl rfl ?_
  refine SeqK.on (q_call _ rfl Fx.fn9 rfl (fits_any c l r .un .un hc hl hr hs) rfl) rfl rfl rfl rfl rfl ?_
  refine SeqK.on (q_not rfl rfl) rfl rfl rfl rfl rfl ?_
  refine SeqK.q (q_pkF rfl rfl rfl) rfl rfl rfl ?_
  refine SeqK.qB (q_mvC rfl rfl) rfl rfl rfl (fun g19 => ?_) (fun g19 => ?_)
  ·
    refine SeqK.off rfl rfl rfl rfl rfl rfl ?_
    refine SeqK.off rfl rfl rfl rfl rfl rfl ?_
    refine SeqK.off rfl rfl rfl rfl rfl rfl ?_
    refine SeqK.q (q_pkT rfl rfl rfl) rfl rfl rfl ?_
    refine SeqK.nil ?_
    refine AW.condT rfl ?_
    refine AW.seq ?_
    refine AW.reg ?_
    refine SeqK.q (q_call _ rfl Fx.fn8 rfl (awake_any) rfl) rfl rfl rfl ?_
    refine SeqK.q (q_asC rfl rfl) rfl rfl rfl ?_
    refine SeqK.nil ?_
    refine AW.ret ?_
    exact fin_x (x := .c _) (H) (.tmp rfl .nil) rfl (fun _ _ h => h) (rfl)
  ·
    refine SeqK.rOn (b_load (r := .g [_, _, _, _, _, _, _, _, _, _, _]) rfl Fx.ty39 rfl rfl rfl rfl rfl rfl) rfl rfl rfl ?_
    refine SeqK.on (q_call _ rfl Fx.fn14 rfl (right_any c l r q n hq) rfl) rfl rfl rfl rfl rfl ?_
    refine SeqK.on (q_not rfl rfl) rfl rfl rfl rfl rfl ?_
    refine SeqK.q (q_pkF rfl rfl rfl) rfl rfl rfl ?_
    refine SeqK.nil ?_
    refine AW.cond _ rfl (fun h23 => ?_) (fun h23 => ?_)
    ·
      refine AW.seq ?_
      refine AW.reg ?_
      refine SeqK.q (q_call _ rfl Fx.fn8 rfl (awake_any) rfl) rfl rfl rfl ?_
      refine SeqK.q (q_asC rfl rfl) rfl rfl rfl ?_
      refine SeqK.nil ?_
      refine AW.ret ?_
      exact fin_x (x := .c _) (H) (.tmp rfl .nil) rfl (fun _ _ h => h) (rfl)
    ·
      obtain ⟨hd, hf, hv, hi⟩ := fits_iff (by simpa using g19 : fitsB c l r = true)
      have hrt : rtP l q n := by simpa using h23
      have hok := okC_of hv hi.1
      have hvv : ∀ v ∈ r, vvP v := fun v hm => by
        obtain ⟨j, hj, rfl⟩ := List.mem_iff_getElem.1 hm
        exact (hi.2 j hj).1
      have htt : ∀ t ∈ c.ts, tstP t := fun t hm => by
        obtain ⟨j, hj, rfl⟩ := List.mem_iff_getElem.1 hm
        exact (hv.2.2.2.2.1 j hj).1
      obtain ⟨m, rfl⟩ := Int.eq_ofNat_of_zero_le hrt.2.1.1
      have M : Mv q m := Mv.of hrt
      have hm20 := M.m20
      have hrq : r.length = q.length := by rw [hi.1, hrt.1]
      have hl10 : l.length ≤ 10 := by have := hd; simp [domB] at this; exact this.2
      have hnm := nmC_of M hl10 hf hv
      have hrg := rgC_rn hnm hc
      refine AW.skip ?_
      refine AW.seq ?_
      refine AW.reg ?_
      refine SeqK.q (q_fieldL _ rfl Fx.fl39_0 rfl rfl) rfl rfl rfl ?_
      refine SeqK.r (b_load (r := .g [_, _, _, _, _, _, _]) rfl Fx.ty28 rfl rfl rfl rfl rfl rfl) rfl ?_
      refine SeqK.q (q_fieldL _ rfl Fx.fl39_3 rfl rfl) rfl rfl rfl ?_
      refine SeqK.r (b_load (r := .a _) rfl Fx.ty22 rfl rfl rfl rfl rfl rfl) rfl ?_
      refine SeqK.q (q_fieldL _ rfl Fx.fl39_4 rfl rfl) rfl rfl rfl ?_
      refine SeqK.r (b_load (r := .a _) rfl Fx.ty3 rfl rfl rfl rfl rfl rfl) rfl ?_
      refine SeqK.q (q_call _ rfl Fx.fn15 rfl (rename_any c q m hnm hq (by omega)) rfl) rfl rfl rfl ?_
      refine SeqK.r (b_alloc (r := [_, _, _, _, _, _, _]) rfl rfl Fx.ze28 rfl rfl rfl rfl) rfl ?_
      refine SeqK.r (b_store (r := [_, _, _, _, _, _, _]) rfl rfl Fx.ty28 rfl rfl rfl rfl rfl rfl) rfl ?_
      refine SeqK.nil ?_
      refine AW.seq ?_
      refine AW.reg ?_
      refine SeqK.q (q_fieldL _ rfl Fx.fl39_4 rfl rfl) rfl rfl rfl ?_
      refine SeqK.r (b_load (r := .a _) rfl Fx.ty3 rfl rfl rfl rfl rfl rfl) rfl ?_
      refine SeqK.make (zc := (rvT r0).map .t) (m := m) rfl rfl Fx.el31 Fx.ze42 rfl rfl rfl rfl (by omega) rfl rfl (fun k34 hk34 => ?_)
      rw [rowE_rep]
      refine SeqK.q (q_asC rfl rfl) rfl rfl rfl ?_
      refine SeqK.nil ?_
      refine AW.seq ?_
      refine AW.seq ?_
      refine AW.reg ?_
      refine SeqK.q (q_fieldL _ rfl Fx.fl39_3 rfl rfl) rfl rfl rfl ?_
      refine SeqK.r (b_load (r := .a _) rfl Fx.ty22 rfl rfl rfl rfl rfl rfl) rfl ?_
      refine SeqK.q (q_len rfl Fx.un22 rfl) rfl rfl rfl ?_
      refine SeqK.q (q_mvC rfl rfl) rfl rfl rfl ?_
      refine SeqK.nil ?_
      refine AW.block ?_
      refine AW.loop (fun (i : Nat) s => ∃ (row : List RV), (i ≤ q.length ∧ row.length = m ∧ (∀ j (h : j < q.length), j < i → at' row q[j] = at' r j) ∧ ∀ v ∈ row, v.s.size ≤ 1000000000000000) ∧ s = ⟨72, sp [(1, .lp 1 0), (3, .lp 3 0), (4, .c (.a (.os k34 0 m 3))), (36, .c (iL .un q)), (37, iX .i64 (((q.map i64T).length : Nat) : Int)), (38, iX .i64 ((i : Nat) : Int))], lv [(1, .box [.t (.sl .un 1 (c.nl.map i64T)), .t (.sl .un 1 (c.nn.map i64T)), .t (.sl .un 4 (c.ax.map axT)), .t (.sl .un 3 (c.is.map ctT)), .t (.sl .un 4 (c.ts.map tsT)), .t (.sl .un 2 (c.sm.map prT)), .t (.sl .un 2 (c.df.map prT)), .t (.sl .un 5 (l.map vrT)), .t (.sl .un 3 (r.map rvT)), .t (.sl .un 1 (q.map i64T)), .t (.v (.int .i64 (m : Int)))]), (3, .box [.t (.sl .un 1 ((rnCl (ren q m) c).nl.map i64T)), .t (.sl .un 1 ((rnCl (ren q m) c).nn.map i64T)), .t (.sl .un 4 ((rnCl (ren q m) c).ax.map axT)), .t (.sl .un 3 ((rnCl (ren q m) c).is.map ctT)), .t (.sl .un 4 ((rnCl (ren q m) c).ts.map tsT)), .t (.sl .un 2 ((rnCl (ren q m) c).sm.map prT)), .t (.sl .un 2 ((rnCl (ren q m) c).df.map prT))])], upd H k34 (some (.row 42 3 (rowE rvT row)))⟩) (fun i => q.length - i) 0 ⟨_, Wk.keep 72 [(1, .lp 1 0), (3, .lp 3 0), (4, .c (.a (.os k34 0 m 3))), (36, .c (iL .un q)), (37, iX .i64 (((q.map i64T).length : Nat) : Int)), (38, iX .i64 ((((0 : Nat)) : Nat) : Int))] [(1, .box [.t (.sl .un 1 (c.nl.map i64T)), .t (.sl .un 1 (c.nn.map i64T)), .t (.sl .un 4 (c.ax.map axT)), .t (.sl .un 3 (c.is.map ctT)), .t (.sl .un 4 (c.ts.map tsT)), .t (.sl .un 2 (c.sm.map prT)), .t (.sl .un 2 (c.df.map prT)), .t (.sl .un 5 (l.map vrT)), .t (.sl .un 3 (r.map rvT)), .t (.sl .un 1 (q.map i64T)), .t (.v (.int .i64 (m : Int)))]), (3, .box [.t (.sl .un 1 ((rnCl (ren q m) c).nl.map i64T)), .t (.sl .un 1 ((rnCl (ren q m) c).nn.map i64T)), .t (.sl .un 4 ((rnCl (ren q m) c).ax.map axT)), .t (.sl .un 3 ((rnCl (ren q m) c).is.map ctT)), .t (.sl .un 4 ((rnCl (ren q m) c).ts.map tsT)), .t (.sl .un 2 ((rnCl (ren q m) c).sm.map prT)), .t (.sl .un 2 ((rnCl (ren q m) c).df.map prT))])] (upd H k34 (some (.row 42 3 (rowE rvT (List.replicate m r0))))) rfl ⟨rfl, rfl, rfl, rfl, rfl, rfl, trivial⟩ ⟨rfl, rfl, trivial⟩ (fun _ _ h => h) rfl, List.replicate m r0, ⟨Nat.zero_le _, by simp, fun j _ h => absurd h (Nat.not_lt_zero j), fun v hv => by rw [(List.mem_replicate.1 hv).2]; show (0 : Nat) ≤ _; omega⟩, rfl⟩ (fun i s hs => ?_)
      obtain ⟨row, ⟨hi0, hwl, hput, hsz⟩, rfl⟩ := hs
      refine AW.seq ?_
      refine AW.reg ?_
      refine SeqK.q (q_lss rfl rfl rfl) rfl rfl rfl ?_
      refine SeqK.nil ?_
      refine AW.seq ?_
      refine AW.condD rfl (fun h39 => ?_) (fun h39 => ?_)
      ·
        have hi2 : i < q.length := by rw [List.length_map] at h39; omega
        have hir : i < r.length := by omega
        have hqi := M.ins i hi2
        have hqr : q[i].toNat < row.length := by omega
        refine AW.skip ?_
        refine AW.seq ?_
        refine AW.block ?_
        refine AW.seq ?_
        refine AW.reg ?_
        refine SeqK.q (q_mvC rfl rfl) rfl rfl rfl ?_
        refine SeqK.q (q_index _ rfl Fx.sl22 rfl rfl (by omega) (idx_map (f := i64T) hi2)) rfl rfl rfl ?_
        refine SeqK.q (q_load (.a _) rfl Fx.ty3 rfl rfl rfl) rfl rfl rfl ?_
        refine SeqK.q (q_asC rfl rfl) rfl rfl rfl ?_
        refine SeqK.q (q_asC rfl rfl) rfl rfl rfl ?_
        refine SeqK.nil ?_
        refine AW.reg ?_
        refine SeqK.q (q_mvC rfl rfl) rfl rfl rfl ?_
        refine SeqK.q (q_mvC rfl rfl) rfl rfl rfl ?_
        refine SeqK.q (q_fieldL _ rfl Fx.fl39_2 rfl rfl) rfl rfl rfl ?_
        refine SeqK.r (b_load (r := .a _) rfl Fx.ty31 rfl rfl rfl rfl rfl rfl) rfl ?_
        refine SeqK.q (q_mvC rfl rfl) rfl rfl rfl ?_
        refine SeqK.q (q_index _ rfl Fx.sl31 rfl rfl (by omega) (idx_map (f := rvT) hir)) rfl rfl rfl ?_
        refine SeqK.q (q_load (.g [_, _, _]) rfl Fx.ty42 rfl rfl rfl) rfl rfl rfl ?_
        refine SeqK.q (q_indexOs _ rfl Fx.sl31 rfl rfl (by omega) (by omega) rfl) rfl rfl rfl ?_
        refine SeqK.r (g_storeR rfl rfl Fx.ty42 rfl rfl (upd_same _ _ _) ((row_st rvT_len hqr r[i])) rfl (row_in0 rvT_len hqr) (by decide)) rfl ?_
        refine SeqK.nil ?_
        refine AW.reg ?_
        refine SeqK.q (q_add _ rfl rfl rfl (w64 (by omega) (by omega))) rfl rfl rfl ?_
        refine SeqK.q (q_mvC rfl rfl) rfl rfl rfl ?_
        refine SeqK.nil ?_
        exact ⟨i + 1, _, Wk.keep 72 [(1, .lp 1 0), (3, .lp 3 0), (4, .c (.a (.os k34 0 m 3))), (36, .c (iL .un q)), (37, iX .i64 (((q.map i64T).length : Nat) : Int)), (38, iX .i64 (((i + 1) : Nat) : Int))] [(1, .box [.t (.sl .un 1 (c.nl.map i64T)), .t (.sl .un 1 (c.nn.map i64T)), .t (.sl .un 4 (c.ax.map axT)), .t (.sl .un 3 (c.is.map ctT)), .t (.sl .un 4 (c.ts.map tsT)), .t (.sl .un 2 (c.sm.map prT)), .t (.sl .un 2 (c.df.map prT)), .t (.sl .un 5 (l.map vrT)), .t (.sl .un 3 (r.map rvT)), .t (.sl .un 1 (q.map i64T)), .t (.v (.int .i64 (m : Int)))]), (3, .box [.t (.sl .un 1 ((rnCl (ren q m) c).nl.map i64T)), .t (.sl .un 1 ((rnCl (ren q m) c).nn.map i64T)), .t (.sl .un 4 ((rnCl (ren q m) c).ax.map axT)), .t (.sl .un 3 ((rnCl (ren q m) c).is.map ctT)), .t (.sl .un 4 ((rnCl (ren q m) c).ts.map tsT)), .t (.sl .un 2 ((rnCl (ren q m) c).sm.map prT)), .t (.sl .un 2 ((rnCl (ren q m) c).df.map prT))])] (upd H k34 (some (.row 42 3 (rowE rvT (row.set q[i].toNat r[i]))))) rfl ⟨rfl, rfl, rfl, rfl, rfl, rfl, trivial⟩ ⟨rfl, rfl, trivial⟩ (fun j o h => by show upd (upd H k34 _) k34 _ j = some o; rw [upd_upd]; exact h) rfl, by omega, row.set q[i].toNat r[i], ⟨hi2, by rw [List.length_set]; exact hwl, put_step M hwl hi2 hir hput, fun v hv => (List.mem_or_eq_of_mem_set hv).elim (hsz v) (fun e => e ▸ hs _ (List.getElem_mem hir))⟩, rfl⟩
      ·
        refine AW.exit ?_
        refine eth_e ?_
        refine eth_e ?_
        refine exit_here ?_
        refine AW.seq ?_
        obtain rfl : i = q.length := by rw [List.length_map] at h39; omega
        have P : Moved q m r row := ⟨M, hrq, hwl, fun j h => hput j h h⟩
        have hok2 := P.ok hnm hok
        have hEQ : decide (holP (rnCl (ren q m) c) row) = decide (holP c r) := decide_eq_decide.2 (P.hol hnm hok)
        refine AW.gh (Gh.freeze k34 3 42 (row.map rvT) (upd_same _ _ _) (fun e he => by obtain ⟨p, _, rfl⟩ := List.mem_map.1 he; rfl) (by decide)) ?_
        rintro s1 rfl
        refine AW.wk (Wk.keep 72 [(1, .lp 1 0), (3, .lp 3 0), (4, .c (rowC .un row))] [(1, .box [.t (.sl .un 1 (c.nl.map i64T)), .t (.sl .un 1 (c.nn.map i64T)), .t (.sl .un 4 (c.ax.map axT)), .t (.sl .un 3 (c.is.map ctT)), .t (.sl .un 4 (c.ts.map tsT)), .t (.sl .un 2 (c.sm.map prT)), .t (.sl .un 2 (c.df.map prT)), .t (.sl .un 5 (l.map vrT)), .t (.sl .un 3 (r.map rvT)), .t (.sl .un 1 (q.map i64T)), .t (.v (.int .i64 (m : Int)))]), (3, .box [.t (.sl .un 1 ((rnCl (ren q m) c).nl.map i64T)), .t (.sl .un 1 ((rnCl (ren q m) c).nn.map i64T)), .t (.sl .un 4 ((rnCl (ren q m) c).ax.map axT)), .t (.sl .un 3 ((rnCl (ren q m) c).is.map ctT)), .t (.sl .un 4 ((rnCl (ren q m) c).ts.map tsT)), .t (.sl .un 2 ((rnCl (ren q m) c).sm.map prT)), .t (.sl .un 2 ((rnCl (ren q m) c).df.map prT))])] (H) rfl ⟨rfl, rfl, by show fzX _ _ _ (.c (.a (.os k34 0 m 3))) = _; rw [show m = (row.map rvT).length by rw [List.length_map]; exact hwl.symm]; simp [fzX, fzC, fzA], trivial⟩ ⟨rfl, rfl, trivial⟩ (fun j o h => by show upd (upd H k34 _) k34 none j = _; rw [upd_back hk34]; exact h) rfl) ?_
        refine AW.draw Fx.mo ?_
        refine LexK.r (b_load (r := .g [_, _, _, _, _, _, _]) rfl Fx.ty28 rfl rfl rfl rfl rfl rfl) rfl ?_
        refine LexK.q (q_fieldL _ rfl Fx.fl39_0 rfl rfl) rfl rfl rfl ?_
        refine LexK.r (b_load (r := .g [_, _, _, _, _, _, _]) rfl Fx.ty28 rfl rfl rfl rfl rfl rfl) rfl ?_
        refine LexK.q (q_fieldL _ rfl Fx.fl39_3 rfl rfl) rfl rfl rfl ?_
        refine LexK.r (b_load (r := .a _) rfl Fx.ty22 rfl rfl rfl rfl rfl rfl) rfl ?_
        refine LexK.q (q_fieldL _ rfl Fx.fl39_4 rfl rfl) rfl rfl rfl ?_
        refine LexK.r (b_load (r := .a _) rfl Fx.ty3 rfl rfl rfl rfl rfl rfl) rfl ?_
        refine LexK.q (q_call _ rfl Fx.fn17 rfl (rrename_any c q .un m hq (by omega) hnm) rfl) rfl rfl rfl ?_
        refine LexK.q (q_call _ rfl Fx.fn16 rfl (same_self _ hrg) rfl) rfl rfl rfl ?_
        refine LexK.q (q_mvC rfl rfl) rfl rfl rfl ?_
        refine LexK.rOn (b_load (r := .g [_, _, _, _, _, _, _]) rfl Fx.ty28 rfl rfl rfl rfl rfl rfl) rfl rfl rfl ?_
        refine LexK.on (q_mvC rfl rfl) rfl rfl rfl rfl rfl ?_
        refine LexK.on (q_call _ rfl Fx.fn10 rfl (holds_any _ row .un hrg (by omega) hsz hok2 (fun t ht u hu => by obtain ⟨t2, ht2, rfl⟩ := List.mem_map.1 ht; exact passes_any _ u hu (by have := (htt t2 ht2).2.2; show t2.s.size ≤ _; omega))) rfl) rfl rfl rfl rfl rfl ?_
        refine LexK.on (q_fieldL _ rfl Fx.fl39_0 rfl rfl) rfl rfl rfl rfl rfl ?_
        refine LexK.rOn (b_load (r := .g [_, _, _, _, _, _, _]) rfl Fx.ty28 rfl rfl rfl rfl rfl rfl) rfl rfl rfl ?_
        refine LexK.on (q_fieldL _ rfl Fx.fl39_2 rfl rfl) rfl rfl rfl rfl rfl ?_
        refine LexK.rOn (b_load (r := .a _) rfl Fx.ty31 rfl rfl rfl rfl rfl rfl) rfl rfl rfl ?_
        refine LexK.on (q_call _ rfl Fx.fn11 rfl (rholds_any c r .un hc hr hs hvv hok (fun t ht u hu => rpasses_any t u hu (by have := (htt t ht).2.2; omega) (htt t ht).2.1)) rfl) rfl rfl rfl rfl rfl ?_
        refine LexK.on (q_eqlB rfl Fx.un4 rfl rfl) rfl rfl rfl rfl rfl ?_
        refine LexK.q (q_pkT rfl rfl rfl) rfl rfl rfl ?_
        refine LexK.q (q_asC rfl rfl) rfl rfl rfl ?_
        refine LexK.nil (by kernel_rfl) ?_
        refine AW.ret ?_
        exact fin_x (x := .c _) (_) (.tmp rfl .nil) rfl (fun _ _ h => h) (by show bX (decide (decide (holP _ _) = decide (holP _ _))) = bX true; rw [hEQ]; simp)

end Go.Proofs.Ytnmfjojhgfipcaa.W
namespace Go.Proofs.Ytnmfjojhgfipcaa.W
open Go.RowKit E
set_option linter.unusedVariables false
set_option linter.unusedSimpArgs false
set_option linter.unusedSectionVars false
structure Rn where (c : Cl) (l : List Vr) (r : List RV) (q : List Int) (n : Int)
abbrev rngT (x : Rn) : List E.T := [.sl .un 1 (x.c.nl.map i64T), .sl .un 1 (x.c.nn.map i64T), .sl .un 4 (x.c.ax.map axT), .sl .un 3 (x.c.is.map ctT), .sl .un 4 (x.c.ts.map tsT), .sl .un 2 (x.c.sm.map prT), .sl .un 2 (x.c.df.map prT), .sl .un 5 (x.l.map vrT), .sl .un 3 (x.r.map rvT), .sl .un 1 (x.q.map i64T), .v (.int .i64 x.n)]
end Go.Proofs.Ytnmfjojhgfipcaa.W
/- The readers of the laws' arguments: data to trees. -/
namespace Go.Proofs.Ytnmfjojhgfipcaa.W
open Go.RowKit E
set_option linter.unusedVariables false
abbrev ok39 (s : Rn) : Prop := ok28 s.c ∧ ok29 s.l ∧ ok31 s.r ∧ ok22 s.q ∧ (fun i : Int => (Lit.int .i64 i).wf = true) s.n ∧ True
theorem rd39 (N : Nat) : Reads Try.prog N 39 11 rngT ok39 :=
  (Reads.struct Try.underlying39 (ReadsF.cons rfl (by kernel_rfl) (fun M _ => (rd28 M)) (ReadsF.cons rfl (by kernel_rfl) (fun M _ => (rd29 M)) (ReadsF.cons rfl (by kernel_rfl) (fun M _ => (rd31 M)) (ReadsF.cons rfl (by kernel_rfl) (fun M _ => (rd22 M)) (ReadsF.cons rfl (by kernel_rfl) (fun M _ => (Reads.int Try.underlying3)) .nil)))))).conv (fun p => (⟨p.1, p.2.1, p.2.2.1, p.2.2.2.1, p.2.2.2.2.1⟩ : Rn)) (fun _ _ => rfl) (fun _ h => h)
end Go.Proofs.Ytnmfjojhgfipcaa.W
