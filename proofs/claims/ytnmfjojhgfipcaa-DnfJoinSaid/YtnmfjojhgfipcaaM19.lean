/- Parts of the proof, one after the other: W44, W45, W46, W47, W48, W49, W50, W51, W52. No condition. -/
import Derived.Test.YtnmfjojhgfipcaaM18
namespace Go.Proofs.Ytnmfjojhgfipcaa.W
open Go.RowKit E
set_option linter.unusedVariables false
set_option linter.unusedSimpArgs false
set_option linter.unusedSectionVars false
/-! a clause is the same as itself -/
set_option maxRecDepth 20000 in
theorem ints_self (l : List Int) (z z2 : Nz) (hl : l.length ≤ 17592186044000) : Pure Try.prog 33 [.a (.t (.sl z 1 (l.map i64T))), .a (.t (.sl z2 1 (l.map i64T)))] (.c (bC true)) := by
 intro H
 refine Spec.enter Try.func33 rfl ?_
 refine AW.wk (Wk.keep 26 [(0, .c (.a (.t (.sl z 1 (l.map i64T))))), (1, .c (.a (.t (.sl z2 1 (l.map i64T)))))] [] (H) rfl ⟨rfl, rfl, trivial⟩ trivial (fun _ _ h => h) rfl) ?_
 refine sR ?_
 refine sA ?_
 refine SeqK.nil ?_
 refine AW.seq ?_
 refine sR ?_
 refine sM ?_
 refine SeqK.q (q_len rfl Fx.un22 rfl) rfl rfl rfl ?_
 refine sM ?_
 refine SeqK.q (q_len rfl Fx.un22 rfl) rfl rfl rfl ?_
 refine SeqK.q (q_neq rfl rfl rfl) rfl rfl rfl ?_
 refine SeqK.nil ?_
 refine AW.condD rfl (fun h10 => ?_) (fun h10 => ?_)
 ·
  exact absurd rfl h10
 ·
  refine AW.skip ?_
  refine AW.seq ?_
  refine sR ?_
  refine sA ?_
  refine SeqK.nil ?_
  refine AW.block ?_
  refine AW.loop (fun (i : Nat) s => (i ≤ l.length) ∧ s = ⟨26, sp [(0, .c (.a (.t (.sl z 1 (l.map i64T))))), (1, .c (.a (.t (.sl z2 1 (l.map i64T))))), (5, iX .i64 ((i : Nat) : Int))], lv [], H⟩) (fun i => l.length - i) 0 ⟨_, Wk.keep 26 [(0, .c (.a (.t (.sl z 1 (l.map i64T))))), (1, .c (.a (.t (.sl z2 1 (l.map i64T))))), (5, iX .i64 ((((0 : Nat)) : Nat) : Int))] [] (H) rfl ⟨rfl, rfl, rfl, trivial⟩ trivial (fun _ _ h => h) rfl, Nat.zero_le _, rfl⟩ (fun i s hs => ?_)
  obtain ⟨hi0, rfl⟩ := hs
  refine AW.seq ?_
  refine sR ?_
  refine sM ?_
  refine sM ?_
  refine SeqK.q (q_len rfl Fx.un22 rfl) rfl rfl rfl ?_
  refine SeqK.q (q_lss rfl rfl rfl) rfl rfl rfl ?_
  refine SeqK.nil ?_
  refine AW.condD rfl (fun h14 => ?_) (fun h14 => ?_)
  ·
   have hi : i < l.length := by rw [List.length_map] at h14; omega
   refine AW.skip ?_
   refine AW.seq ?_
   refine AW.block ?_
   refine AW.seq ?_
   refine AW.draw Fx.mo ?_
   refine LexK.q (q_mvC rfl rfl) rfl rfl rfl ?_
   refine LexK.q (q_mvC rfl rfl) rfl rfl rfl ?_
   refine LexK.q (q_index _ rfl Fx.sl22 rfl rfl (by omega) (idx_map (f := i64T) hi)) rfl rfl rfl ?_
   refine LexK.q (q_load (.a _) rfl Fx.ty3 rfl rfl rfl) rfl rfl rfl ?_
   refine LexK.q (q_mvC rfl rfl) rfl rfl rfl ?_
   refine LexK.q (q_mvC rfl rfl) rfl rfl rfl ?_
   refine LexK.q (q_index _ rfl Fx.sl22 rfl rfl (by omega) (idx_map (f := i64T) hi)) rfl rfl rfl ?_
   refine LexK.q (q_load (.a _) rfl Fx.ty3 rfl rfl rfl) rfl rfl rfl ?_
   refine LexK.q (q_neq rfl rfl rfl) rfl rfl rfl ?_
   refine LexK.nil (by kernel_rfl) ?_
   refine AW.condD rfl (fun h25 => ?_) (fun h25 => ?_)
   ·
    exact absurd rfl h25
   ·
    refine AW.skip ?_
    refine AW.reg ?_
    refine sM ?_
    refine SeqK.q (q_add _ rfl rfl rfl (w64 (by omega) (by omega))) rfl rfl rfl ?_
    refine sA ?_
    refine SeqK.nil ?_
    exact ⟨i + 1, _, Wk.keep 26 [(0, .c (.a (.t (.sl z 1 (l.map i64T))))), (1, .c (.a (.t (.sl z2 1 (l.map i64T))))), (5, iX .i64 (((i + 1) : Nat) : Int))] [] (H) rfl ⟨rfl, rfl, rfl, trivial⟩ trivial (fun _ _ h => h) rfl, by omega, hi, rfl⟩
  ·
   refine AW.exit ?_
   refine eth_e ?_
   refine eth_e ?_
   refine exit_here ?_
   refine sR ?_
   refine sA ?_
   refine SeqK.nil ?_
   refine AW.ret ?_
   exact fin_x (x := .c _) (H) (.tmp rfl .nil) rfl (fun _ _ h => h) (⟨rfl, rfl⟩)

set_option maxRecDepth 20000 in
theorem twos_self (l : List (Int × Int)) (z z2 : Nz) (hl : l.length ≤ 17592186044000) : Pure Try.prog 34 [.a (.t (.sl z 2 (l.map prT))), .a (.t (.sl z2 2 (l.map prT)))] (.c (bC true)) := by
 intro H
 refine Spec.enter Try.func34 rfl ?_
 refine AW.wk (Wk.keep 26 [(0, .c (.a (.t (.sl z 2 (l.map prT))))), (1, .c (.a (.t (.sl z2 2 (l.map prT)))))] [] (H) rfl ⟨rfl, rfl, trivial⟩ trivial (fun _ _ h => h) rfl) ?_
 refine sR ?_
 refine sA ?_
 refine SeqK.nil ?_
 refine AW.seq ?_
 refine sR ?_
 refine sM ?_
 refine SeqK.q (q_len rfl Fx.un26 rfl) rfl rfl rfl ?_
 refine sM ?_
 refine SeqK.q (q_len rfl Fx.un26 rfl) rfl rfl rfl ?_
 refine SeqK.q (q_neq rfl rfl rfl) rfl rfl rfl ?_
 refine SeqK.nil ?_
 refine AW.condD rfl (fun h10 => ?_) (fun h10 => ?_)
 ·
  exact absurd rfl h10
 ·
  refine AW.skip ?_
  refine AW.seq ?_
  refine sR ?_
  refine sA ?_
  refine SeqK.nil ?_
  refine AW.block ?_
  refine AW.loop (fun (i : Nat) s => (i ≤ l.length) ∧ s = ⟨26, sp [(0, .c (.a (.t (.sl z 2 (l.map prT))))), (1, .c (.a (.t (.sl z2 2 (l.map prT))))), (5, iX .i64 ((i : Nat) : Int))], lv [], H⟩) (fun i => l.length - i) 0 ⟨_, Wk.keep 26 [(0, .c (.a (.t (.sl z 2 (l.map prT))))), (1, .c (.a (.t (.sl z2 2 (l.map prT))))), (5, iX .i64 ((((0 : Nat)) : Nat) : Int))] [] (H) rfl ⟨rfl, rfl, rfl, trivial⟩ trivial (fun _ _ h => h) rfl, Nat.zero_le _, rfl⟩ (fun i s hs => ?_)
  obtain ⟨hi0, rfl⟩ := hs
  refine AW.seq ?_
  refine sR ?_
  refine sM ?_
  refine sM ?_
  refine SeqK.q (q_len rfl Fx.un26 rfl) rfl rfl rfl ?_
  refine SeqK.q (q_lss rfl rfl rfl) rfl rfl rfl ?_
  refine SeqK.nil ?_
  refine AW.condD rfl (fun h14 => ?_) (fun h14 => ?_)
  ·
   have hi : i < l.length := by rw [List.length_map] at h14; omega
   refine AW.skip ?_
   refine AW.seq ?_
   refine AW.block ?_
   refine AW.seq ?_
   refine AW.draw Fx.mo ?_
   refine LexK.q (q_mvC rfl rfl) rfl rfl rfl ?_
   refine LexK.q (q_mvC rfl rfl) rfl rfl rfl ?_
   refine LexK.q (q_index _ rfl Fx.sl26 rfl rfl (by omega) (idx_map (f := prT) hi)) rfl rfl rfl ?_
   refine LexK.q (q_load (.g [_, _]) rfl Fx.ty80 rfl rfl rfl) rfl rfl rfl ?_
   refine LexK.q (q_mvC rfl rfl) rfl rfl rfl ?_
   refine LexK.q (q_mvC rfl rfl) rfl rfl rfl ?_
   refine LexK.q (q_index _ rfl Fx.sl26 rfl rfl (by omega) (idx_map (f := prT) hi)) rfl rfl rfl ?_
   refine LexK.q (q_load (.g [_, _]) rfl Fx.ty80 rfl rfl rfl) rfl rfl rfl ?_
   refine LexK.q (q_neqG [.int .i64 l[i].1, .int .i64 l[i].2] [.int .i64 l[i].1, .int .i64 l[i].2] rfl rfl rfl rfl rfl (by kernel_rfl) (fun w => eq80 _ _ _ _ w)) rfl rfl rfl ?_
   refine LexK.nil (by kernel_rfl) ?_
   refine AW.cond _ rfl (fun h25 => ?_) (fun h25 => ?_)
   ·
    exact absurd h25 (by simp)
   ·
    refine AW.skip ?_
    refine AW.reg ?_
    refine sM ?_
    refine SeqK.q (q_add _ rfl rfl rfl (w64 (by omega) (by omega))) rfl rfl rfl ?_
    refine sA ?_
    refine SeqK.nil ?_
    exact ⟨i + 1, _, Wk.keep 26 [(0, .c (.a (.t (.sl z 2 (l.map prT))))), (1, .c (.a (.t (.sl z2 2 (l.map prT))))), (5, iX .i64 (((i + 1) : Nat) : Int))] [] (H) rfl ⟨rfl, rfl, rfl, trivial⟩ trivial (fun _ _ h => h) rfl, by omega, hi, rfl⟩
  ·
   refine AW.exit ?_
   refine eth_e ?_
   refine eth_e ?_
   refine exit_here ?_
   refine sR ?_
   refine sA ?_
   refine SeqK.nil ?_
   refine AW.ret ?_
   exact fin_x (x := .c _) (H) (.tmp rfl .nil) rfl (fun _ _ h => h) (⟨rfl, rfl⟩)

set_option maxRecDepth 20000 in
theorem forms_self (F : Lf) (hl : F.cs.length ≤ 17592186044000) : Pure Try.prog 35 [lfC F, lfC F] (.c (bC true)) := by
 intro H
 refine Spec.enter Try.func35 rfl ?_
 refine AW.wk (Wk.keep 38 [(0, .c (lfC F)), (1, .c (lfC F))] [] (H) rfl ⟨rfl, rfl, trivial⟩ trivial (fun _ _ h => h) rfl) ?_
 refine sR ?_
 refine SeqK.r (b_box (r := [_, _]) rfl rfl rfl rfl rfl rfl) rfl ?_
 refine SeqK.r (b_box (r := [_, _]) rfl rfl rfl rfl rfl rfl) rfl ?_
 refine sA ?_
 refine SeqK.nil ?_
 refine AW.seq ?_
 refine sR ?_
 refine SeqK.q (q_fieldL _ rfl Fx.fl74_0 rfl rfl) rfl rfl rfl ?_
 refine SeqK.r (b_load (r := .a _) rfl Fx.ty2 rfl rfl rfl rfl rfl rfl) rfl ?_
 refine SeqK.q (q_fieldL _ rfl Fx.fl74_0 rfl rfl) rfl rfl rfl ?_
 refine SeqK.r (b_load (r := .a _) rfl Fx.ty2 rfl rfl rfl rfl rfl rfl) rfl ?_
 refine SeqK.q (q_neq rfl rfl rfl) rfl rfl rfl ?_
 refine SeqK.qD (q_mvC rfl rfl) rfl rfl rfl (fun g11 => ?_) (fun g11 => ?_)
 ·
  exact absurd rfl g11
 ·
  refine SeqK.on (q_fieldL _ rfl Fx.fl74_1 rfl rfl) rfl rfl rfl rfl rfl ?_
  refine SeqK.rOn (b_load (r := .a _) rfl Fx.ty72 rfl rfl rfl rfl rfl rfl) rfl rfl rfl ?_
  refine SeqK.on (q_len rfl Fx.un72 rfl) rfl rfl rfl rfl rfl ?_
  refine SeqK.on (q_fieldL _ rfl Fx.fl74_1 rfl rfl) rfl rfl rfl rfl rfl ?_
  refine SeqK.rOn (b_load (r := .a _) rfl Fx.ty72 rfl rfl rfl rfl rfl rfl) rfl rfl rfl ?_
  refine SeqK.on (q_len rfl Fx.un72 rfl) rfl rfl rfl rfl rfl ?_
  refine SeqK.on (q_neq rfl rfl rfl) rfl rfl rfl rfl rfl ?_
  refine SeqK.q (q_pkF rfl rfl rfl) rfl rfl rfl ?_
  refine SeqK.nil ?_
  refine AW.condD rfl (fun h19 => ?_) (fun h19 => ?_)
  ·
   exact absurd rfl h19
  ·
   refine AW.skip ?_
   refine AW.seq ?_
   refine sR ?_
   refine sA ?_
   refine SeqK.nil ?_
   refine AW.block ?_
   refine AW.loop (fun (i : Nat) s => (i ≤ F.cs.length) ∧ s = ⟨38, sp [(2, .lp 2 0), (3, .lp 3 0), (5, iX .i64 ((i : Nat) : Int))], lv [(2, .box [.t (.v (.int .i64 F.c)), .t (.sl .un 2 (F.cs.map cfT))]), (3, .box [.t (.v (.int .i64 F.c)), .t (.sl .un 2 (F.cs.map cfT))])], H⟩) (fun i => F.cs.length - i) 0 ⟨_, Wk.keep 38 [(2, .lp 2 0), (3, .lp 3 0), (5, iX .i64 ((((0 : Nat)) : Nat) : Int))] [(2, .box [.t (.v (.int .i64 F.c)), .t (.sl .un 2 (F.cs.map cfT))]), (3, .box [.t (.v (.int .i64 F.c)), .t (.sl .un 2 (F.cs.map cfT))])] (H) rfl ⟨rfl, rfl, rfl, trivial⟩ ⟨rfl, rfl, trivial⟩ (fun _ _ h => h) rfl, Nat.zero_le _, rfl⟩ (fun i s hs => ?_)
   obtain ⟨hi0, rfl⟩ := hs
   refine AW.seq ?_
   refine sR ?_
   refine sM ?_
   refine SeqK.q (q_fieldL _ rfl Fx.fl74_1 rfl rfl) rfl rfl rfl ?_
   refine SeqK.r (b_load (r := .a _) rfl Fx.ty72 rfl rfl rfl rfl rfl rfl) rfl ?_
   refine SeqK.q (q_len rfl Fx.un72 rfl) rfl rfl rfl ?_
   refine SeqK.q (q_lss rfl rfl rfl) rfl rfl rfl ?_
   refine SeqK.nil ?_
   refine AW.condD rfl (fun h24 => ?_) (fun h24 => ?_)
   ·
    have hi : i < F.cs.length := by rw [List.length_map] at h24; omega
    refine AW.skip ?_
    refine AW.seq ?_
    refine AW.block ?_
    refine AW.seq ?_
    refine AW.draw Fx.mo ?_
    refine LexK.q (q_fieldL _ rfl Fx.fl74_1 rfl rfl) rfl rfl rfl ?_
    refine LexK.r (b_load (r := .a _) rfl Fx.ty72 rfl rfl rfl rfl rfl rfl) rfl ?_
    refine LexK.q (q_mvC rfl rfl) rfl rfl rfl ?_
    refine LexK.q (q_index _ rfl Fx.sl72 rfl rfl (by omega) (idx_map (f := cfT) hi)) rfl rfl rfl ?_
    refine LexK.q (q_load (.g [_, _]) rfl Fx.ty106 rfl rfl rfl) rfl rfl rfl ?_
    refine LexK.q (q_fieldL _ rfl Fx.fl74_1 rfl rfl) rfl rfl rfl ?_
    refine LexK.r (b_load (r := .a _) rfl Fx.ty72 rfl rfl rfl rfl rfl rfl) rfl ?_
    refine LexK.q (q_mvC rfl rfl) rfl rfl rfl ?_
    refine LexK.q (q_index _ rfl Fx.sl72 rfl rfl (by omega) (idx_map (f := cfT) hi)) rfl rfl rfl ?_
    refine LexK.q (q_load (.g [_, _]) rfl Fx.ty106 rfl rfl rfl) rfl rfl rfl ?_
    refine LexK.q (q_neqG [.int .i64 F.cs[i].v, .int .i64 F.cs[i].n] [.int .i64 F.cs[i].v, .int .i64 F.cs[i].n] rfl rfl rfl rfl rfl (by kernel_rfl) (fun w => eq106 _ _ _ _ w)) rfl rfl rfl ?_
    refine LexK.nil (by kernel_rfl) ?_
    refine AW.cond _ rfl (fun h37 => ?_) (fun h37 => ?_)
    ·
     exact absurd h37 (by simp)
    ·
     refine AW.skip ?_
     refine AW.reg ?_
     refine sM ?_
     refine SeqK.q (q_add _ rfl rfl rfl (w64 (by omega) (by omega))) rfl rfl rfl ?_
     refine sA ?_
     refine SeqK.nil ?_
     exact ⟨i + 1, _, Wk.keep 38 [(2, .lp 2 0), (3, .lp 3 0), (5, iX .i64 (((i + 1) : Nat) : Int))] [(2, .box [.t (.v (.int .i64 F.c)), .t (.sl .un 2 (F.cs.map cfT))]), (3, .box [.t (.v (.int .i64 F.c)), .t (.sl .un 2 (F.cs.map cfT))])] (H) rfl ⟨rfl, rfl, rfl, trivial⟩ ⟨rfl, rfl, trivial⟩ (fun _ _ h => h) rfl, by omega, hi, rfl⟩
   ·
    refine AW.exit ?_
    refine eth_e ?_
    refine eth_e ?_
    refine exit_here ?_
    refine sR ?_
    refine sA ?_
    refine SeqK.nil ?_
    refine AW.ret ?_
    exact fin_x (x := .c _) (H) (.tmp rfl .nil) rfl (fun _ _ h => h) (⟨rfl, rfl⟩)

set_option maxHeartbeats 4000000 in
set_option maxRecDepth 20000 in
theorem same_self (c : Cl) (hc : rgC c) : Pure Try.prog 16 [clC c, clC c] (.c (bC true)) := by
 intro H
 refine Spec.enter Try.func16 rfl ?_
 refine AW.wk (Wk.keep 168 [(0, .c (clC c)), (1, .c (clC c))] [] (H) rfl ⟨rfl, rfl, trivial⟩ trivial (fun _ _ h => h) rfl) ?_
 refine sR ?_
 refine SeqK.r (b_box (r := [_, _, _, _, _, _, _]) rfl rfl rfl rfl rfl rfl) rfl ?_
 refine SeqK.r (b_box (r := [_, _, _, _, _, _, _]) rfl rfl rfl rfl rfl rfl) rfl ?_
 refine sA ?_
 refine SeqK.nil ?_
 refine AW.seq ?_
 refine AW.seq ?_
 have q1 := hc.ax
 have q2 := hc.is
 have q3 := hc.ts
 refine AW.reg ?_
 refine SeqK.q (q_fieldL _ rfl Fx.fl28_0 rfl rfl) rfl rfl rfl ?_
 refine SeqK.r (b_load (r := .a _) rfl Fx.ty22 rfl rfl rfl rfl rfl rfl) rfl ?_
 refine SeqK.q (q_fieldL _ rfl Fx.fl28_0 rfl rfl) rfl rfl rfl ?_
 refine SeqK.r (b_load (r := .a _) rfl Fx.ty22 rfl rfl rfl rfl rfl rfl) rfl ?_
 refine SeqK.q (q_call _ rfl Fx.fn33 rfl (ints_self _ _ _ hc.nl) rfl) rfl rfl rfl ?_
 refine SeqK.q (q_not rfl rfl) rfl rfl rfl ?_
 refine sM ?_
 refine SeqK.on (q_fieldL _ rfl Fx.fl28_1 rfl rfl) rfl rfl rfl rfl rfl ?_
 refine SeqK.rOn (b_load (r := .a _) rfl Fx.ty22 rfl rfl rfl rfl rfl rfl) rfl rfl rfl ?_
 refine SeqK.on (q_fieldL _ rfl Fx.fl28_1 rfl rfl) rfl rfl rfl rfl rfl ?_
 refine SeqK.rOn (b_load (r := .a _) rfl Fx.ty22 rfl rfl rfl rfl rfl rfl) rfl rfl rfl ?_
 refine SeqK.on (q_call _ rfl Fx.fn33 rfl (ints_self _ _ _ hc.nn) rfl) rfl rfl rfl rfl rfl ?_
 refine SeqK.on (q_not rfl rfl) rfl rfl rfl rfl rfl ?_
 refine SeqK.q (q_pkF rfl rfl rfl) rfl rfl rfl ?_
 refine sM ?_
 refine SeqK.on (q_fieldL _ rfl Fx.fl28_5 rfl rfl) rfl rfl rfl rfl rfl ?_
 refine SeqK.rOn (b_load (r := .a _) rfl Fx.ty26 rfl rfl rfl rfl rfl rfl) rfl rfl rfl ?_
 refine SeqK.on (q_fieldL _ rfl Fx.fl28_5 rfl rfl) rfl rfl rfl rfl rfl ?_
 refine SeqK.rOn (b_load (r := .a _) rfl Fx.ty26 rfl rfl rfl rfl rfl rfl) rfl rfl rfl ?_
 refine SeqK.on (q_call _ rfl Fx.fn34 rfl (twos_self _ _ _ hc.sm) rfl) rfl rfl rfl rfl rfl ?_
 refine SeqK.on (q_not rfl rfl) rfl rfl rfl rfl rfl ?_
 refine SeqK.q (q_pkF rfl rfl rfl) rfl rfl rfl ?_
 refine sM ?_
 refine SeqK.on (q_fieldL _ rfl Fx.fl28_6 rfl rfl) rfl rfl rfl rfl rfl ?_
 refine SeqK.rOn (b_load (r := .a _) rfl Fx.ty26 rfl rfl rfl rfl rfl rfl) rfl rfl rfl ?_
 refine SeqK.on (q_fieldL _ rfl Fx.fl28_6 rfl rfl) rfl rfl rfl rfl rfl ?_
 refine SeqK.rOn (b_load (r := .a _) rfl Fx.ty26 rfl rfl rfl rfl rfl rfl) rfl rfl rfl ?_
 refine SeqK.on (q_call _ rfl Fx.fn34 rfl (twos_self _ _ _ hc.df) rfl) rfl rfl rfl rfl rfl ?_
 refine SeqK.on (q_not rfl rfl) rfl rfl rfl rfl rfl ?_
 refine SeqK.q (q_pkF rfl rfl rfl) rfl rfl rfl ?_
 refine SeqK.nil ?_
 refine AW.condF rfl ?_
 refine AW.skip ?_
 refine AW.seq ?_
 refine sR ?_
 refine SeqK.q (q_fieldL _ rfl Fx.fl28_2 rfl rfl) rfl rfl rfl ?_
 refine SeqK.r (b_load (r := .a _) rfl Fx.ty23 rfl rfl rfl rfl rfl rfl) rfl ?_
 refine SeqK.q (q_len rfl Fx.un23 rfl) rfl rfl rfl ?_
 refine SeqK.q (q_fieldL _ rfl Fx.fl28_2 rfl rfl) rfl rfl rfl ?_
 refine SeqK.r (b_load (r := .a _) rfl Fx.ty23 rfl rfl rfl rfl rfl rfl) rfl ?_
 refine SeqK.q (q_len rfl Fx.un23 rfl) rfl rfl rfl ?_
 refine SeqK.q (q_neq rfl rfl rfl) rfl rfl rfl ?_
 refine SeqK.qD (q_mvC rfl rfl) rfl rfl rfl (fun g45 => ?_) (fun g45 => ?_)
 ·
  exact absurd rfl g45
 ·
  refine SeqK.on (q_fieldL _ rfl Fx.fl28_3 rfl rfl) rfl rfl rfl rfl rfl ?_
  refine SeqK.rOn (b_load (r := .a _) rfl Fx.ty24 rfl rfl rfl rfl rfl rfl) rfl rfl rfl ?_
  refine SeqK.on (q_len rfl Fx.un24 rfl) rfl rfl rfl rfl rfl ?_
  refine SeqK.on (q_fieldL _ rfl Fx.fl28_3 rfl rfl) rfl rfl rfl rfl rfl ?_
  refine SeqK.rOn (b_load (r := .a _) rfl Fx.ty24 rfl rfl rfl rfl rfl rfl) rfl rfl rfl ?_
  refine SeqK.on (q_len rfl Fx.un24 rfl) rfl rfl rfl rfl rfl ?_
  refine SeqK.on (q_neq rfl rfl rfl) rfl rfl rfl rfl rfl ?_
  refine SeqK.q (q_pkF rfl rfl rfl) rfl rfl rfl ?_
  refine SeqK.qD (q_mvC rfl rfl) rfl rfl rfl (fun g54 => ?_) (fun g54 => ?_)
  ·
   exact absurd rfl g54
  ·
   refine SeqK.on (q_fieldL _ rfl Fx.fl28_4 rfl rfl) rfl rfl rfl rfl rfl ?_
   refine SeqK.rOn (b_load (r := .a _) rfl Fx.ty25 rfl rfl rfl rfl rfl rfl) rfl rfl rfl ?_
   refine SeqK.on (q_len rfl Fx.un25 rfl) rfl rfl rfl rfl rfl ?_
   refine SeqK.on (q_fieldL _ rfl Fx.fl28_4 rfl rfl) rfl rfl rfl rfl rfl ?_
   refine SeqK.rOn (b_load (r := .a _) rfl Fx.ty25 rfl rfl rfl rfl rfl rfl) rfl rfl rfl ?_
   refine SeqK.on (q_len rfl Fx.un25 rfl) rfl rfl rfl rfl rfl ?_
   refine SeqK.on (q_neq rfl rfl rfl) rfl rfl rfl rfl rfl ?_
   refine SeqK.q (q_pkF rfl rfl rfl) rfl rfl rfl ?_
   refine SeqK.nil ?_
   refine AW.condD rfl (fun h62 => ?_) (fun h62 => ?_)
   ·
    exact absurd rfl h62
   ·
    refine AW.skip ?_
    refine AW.seq ?_
    refine sR ?_
    refine sA ?_
    refine SeqK.nil ?_
    refine AW.block ?_
    refine AW.loop (fun (i : Nat) s => (i ≤ c.ax.length) ∧ s = ⟨168, sp [(2, .lp 2 0), (3, .lp 3 0), (5, iX .i64 ((i : Nat) : Int))], lv [(2, .box [.t (.sl .un 1 (c.nl.map i64T)), .t (.sl .un 1 (c.nn.map i64T)), .t (.sl .un 4 (c.ax.map axT)), .t (.sl .un 3 (c.is.map ctT)), .t (.sl .un 4 (c.ts.map tsT)), .t (.sl .un 2 (c.sm.map prT)), .t (.sl .un 2 (c.df.map prT))]), (3, .box [.t (.sl .un 1 (c.nl.map i64T)), .t (.sl .un 1 (c.nn.map i64T)), .t (.sl .un 4 (c.ax.map axT)), .t (.sl .un 3 (c.is.map ctT)), .t (.sl .un 4 (c.ts.map tsT)), .t (.sl .un 2 (c.sm.map prT)), .t (.sl .un 2 (c.df.map prT))])], H⟩) (fun i => c.ax.length - i) 0 ⟨_, Wk.keep 168 [(2, .lp 2 0), (3, .lp 3 0), (5, iX .i64 ((((0 : Nat)) : Nat) : Int))] [(2, .box [.t (.sl .un 1 (c.nl.map i64T)), .t (.sl .un 1 (c.nn.map i64T)), .t (.sl .un 4 (c.ax.map axT)), .t (.sl .un 3 (c.is.map ctT)), .t (.sl .un 4 (c.ts.map tsT)), .t (.sl .un 2 (c.sm.map prT)), .t (.sl .un 2 (c.df.map prT))]), (3, .box [.t (.sl .un 1 (c.nl.map i64T)), .t (.sl .un 1 (c.nn.map i64T)), .t (.sl .un 4 (c.ax.map axT)), .t (.sl .un 3 (c.is.map ctT)), .t (.sl .un 4 (c.ts.map tsT)), .t (.sl .un 2 (c.sm.map prT)), .t (.sl .un 2 (c.df.map prT))])] (H) rfl ⟨rfl, rfl, rfl, trivial⟩ ⟨rfl, rfl, trivial⟩ (fun _ _ h => h) rfl, Nat.zero_le _, rfl⟩ (fun i s hs => ?_)
    obtain ⟨hi0, rfl⟩ := hs
    refine AW.seq ?_
    refine sR ?_
    refine sM ?_
    refine SeqK.q (q_fieldL _ rfl Fx.fl28_2 rfl rfl) rfl rfl rfl ?_
    refine SeqK.r (b_load (r := .a _) rfl Fx.ty23 rfl rfl rfl rfl rfl rfl) rfl ?_
    refine SeqK.q (q_len rfl Fx.un23 rfl) rfl rfl rfl ?_
    refine SeqK.q (q_lss rfl rfl rfl) rfl rfl rfl ?_
    refine SeqK.nil ?_
    refine AW.condD rfl (fun h67 => ?_) (fun h67 => ?_)
    ·
     have hi : i < c.ax.length := by rw [List.length_map] at h67; omega
     refine AW.skip ?_
     refine AW.seq ?_
     refine AW.block ?_
     refine AW.seq ?_
     refine AW.draw Fx.mo ?_
     refine LexK.q (q_fieldL _ rfl Fx.fl28_2 rfl rfl) rfl rfl rfl ?_
     refine LexK.r (b_load (r := .a _) rfl Fx.ty23 rfl rfl rfl rfl rfl rfl) rfl ?_
     refine LexK.q (q_mvC rfl rfl) rfl rfl rfl ?_
     refine LexK.q (q_index _ rfl Fx.sl23 rfl rfl (by omega) (idx_map (f := axT) hi)) rfl rfl rfl ?_
     refine LexK.q (q_fieldP _ rfl Fx.fl82_1 rfl rfl) rfl rfl rfl ?_
     refine LexK.q (q_load (.a _) rfl Fx.ty2 rfl rfl rfl) rfl rfl rfl ?_
     refine LexK.q (q_fieldL _ rfl Fx.fl28_2 rfl rfl) rfl rfl rfl ?_
     refine LexK.r (b_load (r := .a _) rfl Fx.ty23 rfl rfl rfl rfl rfl rfl) rfl ?_
     refine LexK.q (q_mvC rfl rfl) rfl rfl rfl ?_
     refine LexK.q (q_index _ rfl Fx.sl23 rfl rfl (by omega) (idx_map (f := axT) hi)) rfl rfl rfl ?_
     refine LexK.q (q_fieldP _ rfl Fx.fl82_1 rfl rfl) rfl rfl rfl ?_
     refine LexK.q (q_load (.a _) rfl Fx.ty2 rfl rfl rfl) rfl rfl rfl ?_
     refine LexK.q (q_neq rfl rfl rfl) rfl rfl rfl ?_
     refine LexK.qD (q_mvC rfl rfl) rfl rfl rfl (fun g83 => ?_) (fun g83 => ?_)
     ·
      exact absurd rfl g83
     ·
      refine LexK.on (q_fieldL _ rfl Fx.fl28_2 rfl rfl) rfl rfl rfl rfl rfl ?_
      refine LexK.rOn (b_load (r := .a _) rfl Fx.ty23 rfl rfl rfl rfl rfl rfl) rfl rfl rfl ?_
      refine LexK.on (q_mvC rfl rfl) rfl rfl rfl rfl rfl ?_
      refine LexK.on (q_index _ rfl Fx.sl23 rfl rfl (by omega) (idx_map (f := axT) hi)) rfl rfl rfl rfl rfl ?_
      refine LexK.on (q_fieldP _ rfl Fx.fl82_2 rfl rfl) rfl rfl rfl rfl rfl ?_
      refine LexK.on (q_load (.a _) rfl Fx.ty3 rfl rfl rfl) rfl rfl rfl rfl rfl ?_
      refine LexK.on (q_fieldL _ rfl Fx.fl28_2 rfl rfl) rfl rfl rfl rfl rfl ?_
      refine LexK.rOn (b_load (r := .a _) rfl Fx.ty23 rfl rfl rfl rfl rfl rfl) rfl rfl rfl ?_
      refine LexK.on (q_mvC rfl rfl) rfl rfl rfl rfl rfl ?_
      refine LexK.on (q_index _ rfl Fx.sl23 rfl rfl (by omega) (idx_map (f := axT) hi)) rfl rfl rfl rfl rfl ?_
      refine LexK.on (q_fieldP _ rfl Fx.fl82_2 rfl rfl) rfl rfl rfl rfl rfl ?_
      refine LexK.on (q_load (.a _) rfl Fx.ty3 rfl rfl rfl) rfl rfl rfl rfl rfl ?_
      refine LexK.on (q_neq rfl rfl rfl) rfl rfl rfl rfl rfl ?_
      refine LexK.q (q_pkF rfl rfl rfl) rfl rfl rfl ?_
      refine LexK.qD (q_mvC rfl rfl) rfl rfl rfl (fun g98 => ?_) (fun g98 => ?_)
      ·
       exact absurd rfl g98
      ·
       refine LexK.on (q_fieldL _ rfl Fx.fl28_2 rfl rfl) rfl rfl rfl rfl rfl ?_
       refine LexK.rOn (b_load (r := .a _) rfl Fx.ty23 rfl rfl rfl rfl rfl rfl) rfl rfl rfl ?_
       refine LexK.on (q_mvC rfl rfl) rfl rfl rfl rfl rfl ?_
       refine LexK.on (q_index _ rfl Fx.sl23 rfl rfl (by omega) (idx_map (f := axT) hi)) rfl rfl rfl rfl rfl ?_
       refine LexK.on (q_fieldP _ rfl Fx.fl82_0 rfl rfl) rfl rfl rfl rfl rfl ?_
       refine LexK.on (q_load (.g [_, _]) rfl Fx.ty74 rfl rfl rfl) rfl rfl rfl rfl rfl ?_
       refine LexK.on (q_fieldL _ rfl Fx.fl28_2 rfl rfl) rfl rfl rfl rfl rfl ?_
       refine LexK.rOn (b_load (r := .a _) rfl Fx.ty23 rfl rfl rfl rfl rfl rfl) rfl rfl rfl ?_
       refine LexK.on (q_mvC rfl rfl) rfl rfl rfl rfl rfl ?_
       refine LexK.on (q_index _ rfl Fx.sl23 rfl rfl (by omega) (idx_map (f := axT) hi)) rfl rfl rfl rfl rfl ?_
       refine LexK.on (q_fieldP _ rfl Fx.fl82_0 rfl rfl) rfl rfl rfl rfl rfl ?_
       refine LexK.on (q_load (.g [_, _]) rfl Fx.ty74 rfl rfl rfl) rfl rfl rfl rfl rfl ?_
       refine LexK.on (q_call _ rfl Fx.fn35 rfl (forms_self _ (hc.axf _ (List.getElem_mem hi))) rfl) rfl rfl rfl rfl rfl ?_
       refine LexK.on (q_not rfl rfl) rfl rfl rfl rfl rfl ?_
       refine LexK.q (q_pkF rfl rfl rfl) rfl rfl rfl ?_
       refine LexK.nil (by kernel_rfl) ?_
       refine AW.condF rfl ?_
       refine AW.skip ?_
       refine AW.reg ?_
       refine sM ?_
       refine SeqK.q (q_add _ rfl rfl rfl (w64 (by omega) (by omega))) rfl rfl rfl ?_
       refine sA ?_
       refine SeqK.nil ?_
       exact ⟨i + 1, _, Wk.keep 168 [(2, .lp 2 0), (3, .lp 3 0), (5, iX .i64 (((i + 1) : Nat) : Int))] [(2, .box [.t (.sl .un 1 (c.nl.map i64T)), .t (.sl .un 1 (c.nn.map i64T)), .t (.sl .un 4 (c.ax.map axT)), .t (.sl .un 3 (c.is.map ctT)), .t (.sl .un 4 (c.ts.map tsT)), .t (.sl .un 2 (c.sm.map prT)), .t (.sl .un 2 (c.df.map prT))]), (3, .box [.t (.sl .un 1 (c.nl.map i64T)), .t (.sl .un 1 (c.nn.map i64T)), .t (.sl .un 4 (c.ax.map axT)), .t (.sl .un 3 (c.is.map ctT)), .t (.sl .un 4 (c.ts.map tsT)), .t (.sl .un 2 (c.sm.map prT)), .t (.sl .un 2 (c.df.map prT))])] (H) rfl ⟨rfl, rfl, rfl, trivial⟩ ⟨rfl, rfl, trivial⟩ (fun _ _ h => h) rfl, by omega, hi, rfl⟩
    ·
     refine AW.exit ?_
     refine eth_e ?_
     refine eth_e ?_
     refine exit_here ?_
     refine AW.seq ?_
     refine sR ?_
     refine sA ?_
     refine SeqK.nil ?_
     refine AW.block ?_
     refine AW.loop (fun (i : Nat) s => (i ≤ c.is.length) ∧ s = ⟨168, sp [(2, .lp 2 0), (3, .lp 3 0), (6, iX .i64 ((i : Nat) : Int))], lv [(2, .box [.t (.sl .un 1 (c.nl.map i64T)), .t (.sl .un 1 (c.nn.map i64T)), .t (.sl .un 4 (c.ax.map axT)), .t (.sl .un 3 (c.is.map ctT)), .t (.sl .un 4 (c.ts.map tsT)), .t (.sl .un 2 (c.sm.map prT)), .t (.sl .un 2 (c.df.map prT))]), (3, .box [.t (.sl .un 1 (c.nl.map i64T)), .t (.sl .un 1 (c.nn.map i64T)), .t (.sl .un 4 (c.ax.map axT)), .t (.sl .un 3 (c.is.map ctT)), .t (.sl .un 4 (c.ts.map tsT)), .t (.sl .un 2 (c.sm.map prT)), .t (.sl .un 2 (c.df.map prT))])], H⟩) (fun i => c.is.length - i) 0 ⟨_, Wk.keep 168 [(2, .lp 2 0), (3, .lp 3 0), (6, iX .i64 ((((0 : Nat)) : Nat) : Int))] [(2, .box [.t (.sl .un 1 (c.nl.map i64T)), .t (.sl .un 1 (c.nn.map i64T)), .t (.sl .un 4 (c.ax.map axT)), .t (.sl .un 3 (c.is.map ctT)), .t (.sl .un 4 (c.ts.map tsT)), .t (.sl .un 2 (c.sm.map prT)), .t (.sl .un 2 (c.df.map prT))]), (3, .box [.t (.sl .un 1 (c.nl.map i64T)), .t (.sl .un 1 (c.nn.map i64T)), .t (.sl .un 4 (c.ax.map axT)), .t (.sl .un 3 (c.is.map ctT)), .t (.sl .un 4 (c.ts.map tsT)), .t (.sl .un 2 (c.sm.map prT)), .t (.sl .un 2 (c.df.map prT))])] (H) rfl ⟨rfl, rfl, rfl, trivial⟩ ⟨rfl, rfl, trivial⟩ (fun _ _ h => h) rfl, Nat.zero_le _, rfl⟩ (fun i s hs => ?_)
     obtain ⟨hi0, rfl⟩ := hs
     refine AW.seq ?_
     refine sR ?_
     refine sM ?_
     refine SeqK.q (q_fieldL _ rfl Fx.fl28_3 rfl rfl) rfl rfl rfl ?_
     refine SeqK.r (b_load (r := .a _) rfl Fx.ty24 rfl rfl rfl rfl rfl rfl) rfl ?_
     refine SeqK.q (q_len rfl Fx.un24 rfl) rfl rfl rfl ?_
     refine SeqK.q (q_lss rfl rfl rfl) rfl rfl rfl ?_
     refine SeqK.nil ?_
     refine AW.condD rfl (fun h118 => ?_) (fun h118 => ?_)
     ·
      have hi : i < c.is.length := by rw [List.length_map] at h118; omega
      refine AW.skip ?_
      refine AW.seq ?_
      refine AW.block ?_
      refine AW.seq ?_
      refine AW.draw Fx.mo ?_
      refine LexK.q (q_fieldL _ rfl Fx.fl28_3 rfl rfl) rfl rfl rfl ?_
      refine LexK.r (b_load (r := .a _) rfl Fx.ty24 rfl rfl rfl rfl rfl rfl) rfl ?_
      refine LexK.q (q_mvC rfl rfl) rfl rfl rfl ?_
      refine LexK.q (q_index _ rfl Fx.sl24 rfl rfl (by omega) (idx_map (f := ctT) hi)) rfl rfl rfl ?_
      refine LexK.q (q_fieldP _ rfl Fx.fl76_1 rfl rfl) rfl rfl rfl ?_
      refine LexK.q (q_load (.a _) rfl Fx.ty4 rfl rfl rfl) rfl rfl rfl ?_
      refine LexK.q (q_fieldL _ rfl Fx.fl28_3 rfl rfl) rfl rfl rfl ?_
      refine LexK.r (b_load (r := .a _) rfl Fx.ty24 rfl rfl rfl rfl rfl rfl) rfl ?_
      refine LexK.q (q_mvC rfl rfl) rfl rfl rfl ?_
      refine LexK.q (q_index _ rfl Fx.sl24 rfl rfl (by omega) (idx_map (f := ctT) hi)) rfl rfl rfl ?_
      refine LexK.q (q_fieldP _ rfl Fx.fl76_1 rfl rfl) rfl rfl rfl ?_
      refine LexK.q (q_load (.a _) rfl Fx.ty4 rfl rfl rfl) rfl rfl rfl ?_
      refine LexK.q (q_neqB rfl Fx.un4 rfl rfl) rfl rfl rfl ?_
      refine LexK.qD (q_mvC rfl rfl) rfl rfl rfl (fun g134 => ?_) (fun g134 => ?_)
      ·
       exact absurd rfl g134
      ·
       refine LexK.on (q_fieldL _ rfl Fx.fl28_3 rfl rfl) rfl rfl rfl rfl rfl ?_
       refine LexK.rOn (b_load (r := .a _) rfl Fx.ty24 rfl rfl rfl rfl rfl rfl) rfl rfl rfl ?_
       refine LexK.on (q_mvC rfl rfl) rfl rfl rfl rfl rfl ?_
       refine LexK.on (q_index _ rfl Fx.sl24 rfl rfl (by omega) (idx_map (f := ctT) hi)) rfl rfl rfl rfl rfl ?_
       refine LexK.on (q_fieldP _ rfl Fx.fl76_0 rfl rfl) rfl rfl rfl rfl rfl ?_
       refine LexK.on (q_load (.g [_, _]) rfl Fx.ty74 rfl rfl rfl) rfl rfl rfl rfl rfl ?_
       refine LexK.on (q_fieldL _ rfl Fx.fl28_3 rfl rfl) rfl rfl rfl rfl rfl ?_
       refine LexK.rOn (b_load (r := .a _) rfl Fx.ty24 rfl rfl rfl rfl rfl rfl) rfl rfl rfl ?_
       refine LexK.on (q_mvC rfl rfl) rfl rfl rfl rfl rfl ?_
       refine LexK.on (q_index _ rfl Fx.sl24 rfl rfl (by omega) (idx_map (f := ctT) hi)) rfl rfl rfl rfl rfl ?_
       refine LexK.on (q_fieldP _ rfl Fx.fl76_0 rfl rfl) rfl rfl rfl rfl rfl ?_
       refine LexK.on (q_load (.g [_, _]) rfl Fx.ty74 rfl rfl rfl) rfl rfl rfl rfl rfl ?_
       refine LexK.on (q_call _ rfl Fx.fn35 rfl (forms_self _ (hc.isf _ (List.getElem_mem hi))) rfl) rfl rfl rfl rfl rfl ?_
       refine LexK.on (q_not rfl rfl) rfl rfl rfl rfl rfl ?_
       refine LexK.q (q_pkF rfl rfl rfl) rfl rfl rfl ?_
       refine LexK.nil (by kernel_rfl) ?_
       refine AW.condF rfl ?_
       refine AW.skip ?_
       refine AW.reg ?_
       refine sM ?_
       refine SeqK.q (q_add _ rfl rfl rfl (w64 (by omega) (by omega))) rfl rfl rfl ?_
       refine sA ?_
       refine SeqK.nil ?_
       exact ⟨i + 1, _, Wk.keep 168 [(2, .lp 2 0), (3, .lp 3 0), (6, iX .i64 (((i + 1) : Nat) : Int))] [(2, .box [.t (.sl .un 1 (c.nl.map i64T)), .t (.sl .un 1 (c.nn.map i64T)), .t (.sl .un 4 (c.ax.map axT)), .t (.sl .un 3 (c.is.map ctT)), .t (.sl .un 4 (c.ts.map tsT)), .t (.sl .un 2 (c.sm.map prT)), .t (.sl .un 2 (c.df.map prT))]), (3, .box [.t (.sl .un 1 (c.nl.map i64T)), .t (.sl .un 1 (c.nn.map i64T)), .t (.sl .un 4 (c.ax.map axT)), .t (.sl .un 3 (c.is.map ctT)), .t (.sl .un 4 (c.ts.map tsT)), .t (.sl .un 2 (c.sm.map prT)), .t (.sl .un 2 (c.df.map prT))])] (H) rfl ⟨rfl, rfl, rfl, trivial⟩ ⟨rfl, rfl, trivial⟩ (fun _ _ h => h) rfl, by omega, hi, rfl⟩
     ·
      refine AW.exit ?_
      refine eth_e ?_
      refine eth_e ?_
      refine exit_here ?_
      refine AW.seq ?_
      refine sR ?_
      refine sA ?_
      refine SeqK.nil ?_
      refine AW.block ?_
      refine AW.loop (fun (i : Nat) s => (i ≤ c.ts.length) ∧ s = ⟨168, sp [(2, .lp 2 0), (3, .lp 3 0), (7, iX .i64 ((i : Nat) : Int))], lv [(2, .box [.t (.sl .un 1 (c.nl.map i64T)), .t (.sl .un 1 (c.nn.map i64T)), .t (.sl .un 4 (c.ax.map axT)), .t (.sl .un 3 (c.is.map ctT)), .t (.sl .un 4 (c.ts.map tsT)), .t (.sl .un 2 (c.sm.map prT)), .t (.sl .un 2 (c.df.map prT))]), (3, .box [.t (.sl .un 1 (c.nl.map i64T)), .t (.sl .un 1 (c.nn.map i64T)), .t (.sl .un 4 (c.ax.map axT)), .t (.sl .un 3 (c.is.map ctT)), .t (.sl .un 4 (c.ts.map tsT)), .t (.sl .un 2 (c.sm.map prT)), .t (.sl .un 2 (c.df.map prT))])], H⟩) (fun i => c.ts.length - i) 0 ⟨_, Wk.keep 168 [(2, .lp 2 0), (3, .lp 3 0), (7, iX .i64 ((((0 : Nat)) : Nat) : Int))] [(2, .box [.t (.sl .un 1 (c.nl.map i64T)), .t (.sl .un 1 (c.nn.map i64T)), .t (.sl .un 4 (c.ax.map axT)), .t (.sl .un 3 (c.is.map ctT)), .t (.sl .un 4 (c.ts.map tsT)), .t (.sl .un 2 (c.sm.map prT)), .t (.sl .un 2 (c.df.map prT))]), (3, .box [.t (.sl .un 1 (c.nl.map i64T)), .t (.sl .un 1 (c.nn.map i64T)), .t (.sl .un 4 (c.ax.map axT)), .t (.sl .un 3 (c.is.map ctT)), .t (.sl .un 4 (c.ts.map tsT)), .t (.sl .un 2 (c.sm.map prT)), .t (.sl .un 2 (c.df.map prT))])] (H) rfl ⟨rfl, rfl, rfl, trivial⟩ ⟨rfl, rfl, trivial⟩ (fun _ _ h => h) rfl, Nat.zero_le _, rfl⟩ (fun i s hs => ?_)
      obtain ⟨hi0, rfl⟩ := hs
      refine AW.seq ?_
      refine sR ?_
      refine sM ?_
      refine SeqK.q (q_fieldL _ rfl Fx.fl28_4 rfl rfl) rfl rfl rfl ?_
      refine SeqK.r (b_load (r := .a _) rfl Fx.ty25 rfl rfl rfl rfl rfl rfl) rfl ?_
      refine SeqK.q (q_len rfl Fx.un25 rfl) rfl rfl rfl ?_
      refine SeqK.q (q_lss rfl rfl rfl) rfl rfl rfl ?_
      refine SeqK.nil ?_
      refine AW.condD rfl (fun h154 => ?_) (fun h154 => ?_)
      ·
       have hi : i < c.ts.length := by rw [List.length_map] at h154; omega
       refine AW.skip ?_
       refine AW.seq ?_
       refine AW.block ?_
       refine AW.seq ?_
       refine AW.draw Fx.mo ?_
       refine LexK.q (q_fieldL _ rfl Fx.fl28_4 rfl rfl) rfl rfl rfl ?_
       refine LexK.r (b_load (r := .a _) rfl Fx.ty25 rfl rfl rfl rfl rfl rfl) rfl ?_
       refine LexK.q (q_mvC rfl rfl) rfl rfl rfl ?_
       refine LexK.q (q_index _ rfl Fx.sl25 rfl rfl (by omega) (idx_map (f := tsT) hi)) rfl rfl rfl ?_
       refine LexK.q (q_load (.g [_, _, _, _]) rfl Fx.ty61 rfl rfl rfl) rfl rfl rfl ?_
       refine LexK.q (q_fieldL _ rfl Fx.fl28_4 rfl rfl) rfl rfl rfl ?_
       refine LexK.r (b_load (r := .a _) rfl Fx.ty25 rfl rfl rfl rfl rfl rfl) rfl ?_
       refine LexK.q (q_mvC rfl rfl) rfl rfl rfl ?_
       refine LexK.q (q_index _ rfl Fx.sl25 rfl rfl (by omega) (idx_map (f := tsT) hi)) rfl rfl rfl ?_
       refine LexK.q (q_load (.g [_, _, _, _]) rfl Fx.ty61 rfl rfl rfl) rfl rfl rfl ?_
       refine LexK.q (q_neqG [.int .i64 c.ts[i].v, .int .i64 c.ts[i].k, .bool c.ts[i].n, .string c.ts[i].s] [.int .i64 c.ts[i].v, .int .i64 c.ts[i].k, .bool c.ts[i].n, .string c.ts[i].s] rfl rfl rfl rfl rfl (by kernel_rfl) (fun w => eq61 _ _ _ _ _ _ _ _ w)) rfl rfl rfl ?_
       refine LexK.nil (by kernel_rfl) ?_
       refine AW.cond _ rfl (fun h167 => ?_) (fun h167 => ?_)
       ·
        exact absurd h167 (by simp)
       ·
        refine AW.skip ?_
        refine AW.reg ?_
        refine sM ?_
        refine SeqK.q (q_add _ rfl rfl rfl (w64 (by omega) (by omega))) rfl rfl rfl ?_
        refine sA ?_
        refine SeqK.nil ?_
        exact ⟨i + 1, _, Wk.keep 168 [(2, .lp 2 0), (3, .lp 3 0), (7, iX .i64 (((i + 1) : Nat) : Int))] [(2, .box [.t (.sl .un 1 (c.nl.map i64T)), .t (.sl .un 1 (c.nn.map i64T)), .t (.sl .un 4 (c.ax.map axT)), .t (.sl .un 3 (c.is.map ctT)), .t (.sl .un 4 (c.ts.map tsT)), .t (.sl .un 2 (c.sm.map prT)), .t (.sl .un 2 (c.df.map prT))]), (3, .box [.t (.sl .un 1 (c.nl.map i64T)), .t (.sl .un 1 (c.nn.map i64T)), .t (.sl .un 4 (c.ax.map axT)), .t (.sl .un 3 (c.is.map ctT)), .t (.sl .un 4 (c.ts.map tsT)), .t (.sl .un 2 (c.sm.map prT)), .t (.sl .un 2 (c.df.map prT))])] (H) rfl ⟨rfl, rfl, rfl, trivial⟩ ⟨rfl, rfl, trivial⟩ (fun _ _ h => h) rfl, by omega, hi, rfl⟩
      ·
       refine AW.exit ?_
       refine eth_e ?_
       refine eth_e ?_
       refine exit_here ?_
       refine sR ?_
       refine sA ?_
       refine SeqK.nil ?_
       refine AW.ret ?_
       exact fin_x (x := .c _) (H) (.tmp rfl .nil) rfl (fun _ _ h => h) (⟨rfl, rfl⟩)

end Go.Proofs.Ytnmfjojhgfipcaa.W
namespace Go.Proofs.Ytnmfjojhgfipcaa.W
open Go.RowKit E
set_option linter.unusedVariables false
set_option linter.unusedSimpArgs false
set_option linter.unusedSectionVars false
/-! what a renaming keeps -/
structure Mv (q : List Int) (m : Nat) : Prop where
  m20 : m ≤ 20
  ins : ∀ j (h : j < q.length), 0 ≤ q[j] ∧ q[j] < m
  inj : ∀ i j (hi : i < q.length) (hj : j < q.length), q[i] = q[j] → i = j
theorem Mv.of {l : List Vr} {q : List Int} {m : Nat} (h : rtP l q m) : Mv q m := by
  obtain ⟨_, h2, h3⟩ := h
  refine ⟨by omega, fun j hj => (h3 j hj).1, fun i j hi hj e => ?_⟩
  rcases Nat.lt_trichotomy i j with k | k | k
  · exact absurd e.symm ((h3 j hj).2 i k)
  · exact k
  · exact absurd e ((h3 i hi).2 j k)
section
variable {q : List Int} {m : Nat}
theorem ren_in (M : Mv q m) {v : Int} (h0 : 0 ≤ v) (h1 : v < q.length) : 0 ≤ ren q m v ∧ ren q m v < m := by
  rw [ren_lo (by omega) (by omega : v.toNat < q.length)]; exact M.ins _ _
theorem pw_of_step {l : List Int} (h : ∀ j (h : j < l.length), ∀ (h0 : 0 < j), l[j - 1] < l[j]) : sI l := by
  refine List.pairwise_iff_getElem.2 fun i j hi hj hij => ?_
  induction j with
  | zero => omega
  | succ j ih =>
    have h1 : l[j] < l[j + 1] := h (j + 1) hj (by omega)
    by_cases e : i = j
    · subst e; exact h1
    · have := ih (by omega) (by omega); omega
theorem rgC_rn {gv : Int → Int} {V : Int → Prop} {c : Cl} (h : nmC V gv c) (hr : rgC c) : rgC (rnCl gv c) := by
  refine ⟨?_, ?_, ?_, ?_, ?_, ?_, ?_, fun a ha => ?_, fun a ha => ?_, fun t ht => ?_⟩
  · have := dd_len (c.nl.map gv); have h2 := h.nll; rw [List.length_map] at this; show (dd _).length ≤ _; omega
  · have := dd_len (c.nn.map gv); have h2 := h.nnl; rw [List.length_map] at this; show (dd _).length ≤ _; omega
  · show (List.map _ _).length ≤ _; rw [List.length_map]; exact hr.ax
  · show (List.map _ _).length ≤ _; rw [List.length_map]; exact hr.is
  · show (List.map _ _).length ≤ _; rw [List.length_map]; exact hr.ts
  · show (List.map _ _).length ≤ _; rw [List.length_map]; exact hr.sm
  · show (List.map _ _).length ≤ _; rw [List.length_map]; exact hr.df
  · obtain ⟨b, hb, rfl⟩ := List.mem_map.1 ha
    have := cofs_len (b.f.cs.map (rnK gv)); rw [List.length_map] at this
    have := hr.axf b hb; show (cofs _).length ≤ _; omega
  · obtain ⟨b, hb, rfl⟩ := List.mem_map.1 ha
    have := cofs_len (b.f.cs.map (rnK gv)); rw [List.length_map] at this
    have := hr.isf b hb; show (cofs _).length ≤ _; omega
  · obtain ⟨b, hb, rfl⟩ := List.mem_map.1 ht
    exact hr.tss b hb
end
end Go.Proofs.Ytnmfjojhgfipcaa.W
namespace Go.Proofs.Ytnmfjojhgfipcaa.W
open Go.RowKit E
set_option linter.unusedVariables false
set_option linter.unusedSimpArgs false
set_option linter.unusedSectionVars false
/-! a clause renamed holds in the row moved exactly if the clause holds -/
theorem w_comm (s x y : Int) : w (w (s + x) + y) = w (w (s + y) + x) := by
  simp only [w, IntKind.wrap_i64]; omega
theorem cmpV_perm {r : List RV} {au : List Int} {l l' : List Cf} (h : l.Perm l') : ∀ s, cmpV r au l s = cmpV r au l' s := by
  induction h with
  | nil => intro s; rfl
  | cons a _ ih => intro s; rw [cmpV, cmpV]; split; exact ih _; rfl
  | swap a b l =>
    intro s
    rw [cmpV, cmpV, cmpV, cmpV]
    by_cases h1 : (itV r au a.v).2 = true
    · by_cases h2 : (itV r au b.v).2 = true
      · rw [if_pos h2, if_pos h1, if_pos h1, if_pos h2, w_comm]
      · rw [if_neg h2, if_pos h1, if_neg h2]
    · by_cases h2 : (itV r au b.v).2 = true
      · rw [if_pos h2, if_neg h1, if_neg h1]
      · rw [if_neg h2, if_neg h1]
  | trans _ _ ih1 ih2 => intro s; rw [ih1, ih2]
theorem perm_mem : ∀ {l m : List Cf}, l.Nodup → m.Nodup → (∀ x, x ∈ l ↔ x ∈ m) → l.Perm m
  | [], [], _, _, _ => .nil
  | [], y :: m, _, _, h => absurd ((h y).2 (by simp)) (by simp)
  | a :: l, m, hl, hm, h => by
    obtain ⟨s, t, rfl⟩ := List.append_of_mem ((h a).1 (by simp))
    have hp : (s ++ a :: t).Perm (a :: (s ++ t)) := List.perm_middle
    have hn := hp.nodup_iff.1 hm
    rw [List.nodup_cons] at hl hn
    refine List.Perm.trans (.cons a (perm_mem hl.2 hn.2 fun x => ?_)) hp.symm
    have hx := (h x).trans hp.mem_iff
    rw [List.mem_cons, List.mem_cons] at hx
    constructor
    · intro hxl
      rcases hx.1 (.inr hxl) with rfl | k
      · exact absurd hxl hl.1
      · exact k
    · intro hxm
      rcases hx.2 (.inr hxm) with rfl | k
      · exact absurd hxm hn.1
      · exact k
theorem nodup_of_v {l : List Cf} (h : (l.map (·.v)).Nodup) : l.Nodup := (List.pairwise_map.1 h).imp fun {a b} h e => h (by rw [e])
theorem cofs_perm {gv : Int → Int} {V : Int → Prop} {f : Lf} (h : nmF V gv f) : (cofs (f.cs.map (rnK gv))).Perm (f.cs.map (rnK gv)) := by
  have hv : ((f.cs.map (rnK gv)).map (·.v)).Nodup := by rw [List.map_map]; exact h.nd
  exact perm_mem (nodup_of_v (by rw [cofs_v]; exact sI_nodup (dd_spec _).1)) (nodup_of_v hv) (cofs_mem hv)
theorem cmpV_map {r row : List RV} {au : List Int} {gv : Int → Int} : ∀ {l : List Cf}, (∀ k ∈ l, itV row au (gv k.v) = itV r au k.v) → ∀ s, cmpV row au (l.map (rnK gv)) s = cmpV r au l s
  | [], _, s => rfl
  | a :: l, h, s => by
    rw [List.map_cons, cmpV, cmpV]
    have h1 : itV row au (rnK gv a).v = itV r au a.v := h a (by simp)
    rw [h1]
    split
    · exact cmpV_map (fun k hk => h k (by simp [hk])) _
    · rfl
theorem lfV_rn {r row : List RV} {au : List Int} {gv : Int → Int} {V : Int → Prop} {f : Lf} (h : nmF V gv f) (hi : ∀ k ∈ f.cs, itV row au (gv k.v) = itV r au k.v) : lfV row au (rnF gv f) = lfV r au f := by
  rw [lfV, lfV, cmpV_perm (cofs_perm h)]
  exact cmpV_map hi _
section
variable {q : List Int} {m : Nat} {r row : List RV}
structure Moved (q : List Int) (m : Nat) (r row : List RV) : Prop where
  M : Mv q m
  rl : r.length = q.length
  wl : row.length = m
  put : ∀ j (h : j < q.length), at' row q[j] = at' r j
theorem Moved.at (P : Moved q m r row) {v : Int} (h0 : 0 ≤ v) (h1 : v < q.length) : at' row (ren q m v) = at' r v := by
  have hv : v.toNat < q.length := by omega
  rw [ren_lo (by omega) hv, P.put _ hv]
  congr 1
  omega
theorem Moved.it (P : Moved q m r row) {au : List Int} {v : Int} (h0 : 0 ≤ v) : itV row au (ren q m v) = itV r au v := by
  have h1 := P.rl
  have h2 := P.wl
  unfold itV
  by_cases h : (q.length : Int) ≤ v
  · rw [ren_hi h, if_pos (by omega), if_pos (by omega), show ((m : Int) + v - q.length).toNat - row.length = v.toNat - r.length by omega]
  · have := ren_in P.M h0 (by omega)
    rw [if_neg (by omega), if_neg (by omega), P.at h0 (by omega)]
theorem Moved.lf (P : Moved q m r row) {au : List Int} {f : Lf} (h : nmF VV (ren q m) f) : lfV row au (rnF (ren q m) f) = lfV r au f := lfV_rn h fun k hk => P.it (h.v k hk).1
theorem Moved.au (P : Moved q m r row) : ∀ {A : List Ax} {out : List Int}, (∀ a ∈ A, (a.b = 0 → 0 ≤ a.t ∧ a.t < q.length) ∧ nmF VV (ren q m) a.f) → auV row (A.map (rnA (ren q m))) out = auV r A out
  | [], out, _ => by rw [List.map_nil, auV, auV]
  | a :: A, out, h => by
    have ih : ∀ out, auV row (A.map (rnA (ren q m))) out = auV r A out := fun out => P.au fun b hb => h b (by simp [hb])
    rw [List.map_cons, auV, auV]
    have h1 := h a (by simp)
    by_cases hb : a.b = 0
    · rw [if_pos (show (rnA (ren q m) a).b = 0 from hb), if_pos hb, show (rnA (ren q m) a).t = ren q m a.t from if_pos hb, P.at (h1.1 hb).1 (h1.1 hb).2, ih]
    · rw [if_neg (show ¬ (rnA (ren q m) a).b = 0 from hb), if_neg hb, show lfV row out (rnA (ren q m) a).f = lfV r out a.f from P.lf h1.2, ih]
theorem all_mem {α : Type} {l : List α} {Q : α → Prop} : (∀ j (h : j < l.length), Q l[j]) ↔ ∀ x ∈ l, Q x :=
  ⟨fun h x hx => by obtain ⟨j, hj, rfl⟩ := List.mem_iff_getElem.1 hx; exact h j hj, fun h j hj => h _ (List.getElem_mem hj)⟩
theorem all_map {α β : Type} {l : List α} {f : α → β} {Q : β → Prop} {R : α → Prop} (h : ∀ x ∈ l, Q (f x) ↔ R x) : (∀ j (h : j < (l.map f).length), Q (l.map f)[j]) ↔ ∀ j (h : j < l.length), R l[j] := by
  rw [all_mem, all_mem]
  exact ⟨fun k x hx => (h x hx).1 (k _ (List.mem_map.2 ⟨x, hx, rfl⟩)), fun k y hy => by obtain ⟨x, hx, rfl⟩ := List.mem_map.1 hy; exact (h x hx).2 (k x hx)⟩
theorem all_dd {l : List Int} {f : Int → Int} {Q : Int → Prop} {R : Int → Prop} (h : ∀ x ∈ l, Q (f x) ↔ R x) : (∀ j (h : j < (dd (l.map f)).length), Q (dd (l.map f))[j]) ↔ ∀ j (h : j < l.length), R l[j] := by
  rw [all_mem, all_mem]
  exact ⟨fun k x hx => (h x hx).1 (k _ (((dd_spec _).2 _).2 (List.mem_map.2 ⟨x, hx, rfl⟩))), fun k y hy => by obtain ⟨x, hx, rfl⟩ := List.mem_map.1 (((dd_spec _).2 _).1 hy); exact (h x hx).2 (k x hx)⟩
theorem mnx {gv : Int → Int} {p : Int × Int} : (rnP gv p).1 = gv p.1 ∧ (rnP gv p).2 = gv p.2 ∨ (rnP gv p).1 = gv p.2 ∧ (rnP gv p).2 = gv p.1 := by
  show min _ _ = _ ∧ max _ _ = _ ∨ min _ _ = _ ∧ max _ _ = _
  omega
theorem Moved.sm (P : Moved q m r row) {p : Int × Int} (h : (0 ≤ p.1 ∧ p.1 < r.length) ∧ 0 ≤ p.2 ∧ p.2 < r.length) : smQ row (rnP (ren q m) p) ↔ smQ r p := by
  have e := P.rl
  have e1 := P.at h.1.1 (by omega)
  have e2 := P.at h.2.1 (by omega)
  unfold smQ
  rcases mnx (gv := ren q m) (p := p) with ⟨a, b⟩ | ⟨a, b⟩ <;> rw [a, b, e1, e2]
  exact ⟨fun ⟨x, y, z⟩ => ⟨y, x, z.symm⟩, fun ⟨x, y, z⟩ => ⟨y, x, z.symm⟩⟩
theorem Moved.df (P : Moved q m r row) {p : Int × Int} (h : (0 ≤ p.1 ∧ p.1 < r.length) ∧ 0 ≤ p.2 ∧ p.2 < r.length) : dfQ row (rnP (ren q m) p) ↔ dfQ r p := by
  have e := P.rl
  have e1 := P.at h.1.1 (by omega)
  have e2 := P.at h.2.1 (by omega)
  unfold dfQ
  rcases mnx (gv := ren q m) (p := p) with ⟨a, b⟩ | ⟨a, b⟩ <;> rw [a, b, e1, e2]
  exact ⟨fun ⟨x, y, z⟩ => ⟨y, x, z.symm⟩, fun ⟨x, y, z⟩ => ⟨y, x, z.symm⟩⟩
theorem Moved.inr (P : Moved q m r row) {v : Int} (h : 0 ≤ v ∧ v < r.length) : 0 ≤ ren q m v ∧ ren q m v < row.length := by
  have := P.rl
  have := P.wl
  have := ren_in P.M h.1 (by omega)
  omega
theorem Moved.ina (P : Moved q m r row) {v : Int} {k : Nat} (h : 0 ≤ v ∧ v < (r.length + k : Nat)) : 0 ≤ ren q m v ∧ ren q m v < (row.length + k : Nat) := by
  have h1 := P.rl
  have h2 := P.wl
  by_cases hv : (q.length : Int) ≤ v
  · rw [ren_hi hv]; omega
  · have := ren_in P.M h.1 (by omega); omega
theorem Moved.okF' (P : Moved q m r row) {f : Lf} {k : Nat} (hf : nmF VV (ren q m) f) (h : okF f (r.length + k)) : okF (rnF (ren q m) f) (row.length + k) := fun j hj => by
  have hm := (cofs_perm hf).mem_iff.1 (List.getElem_mem hj)
  obtain ⟨b, hb, e⟩ := List.mem_map.1 hm
  obtain ⟨i, hi, rfl⟩ := List.mem_iff_getElem.1 hb
  have := P.ina (k := k) (h i hi)
  rw [show (rnF (ren q m) f).cs[j].v = ren q m f.cs[i].v by rw [← e]]
  exact this
theorem Moved.ok (P : Moved q m r row) {c : Cl} (hc : nmC VV (ren q m) c) (h : okC c r) : okC (rnCl (ren q m) c) row := by
  have e := P.rl
  refine ⟨?_, ?_, fun j hj => ⟨fun hb => ?_, fun hb => ?_⟩, fun j hj => ?_, ?_, ?_, ?_, ?_, ?_⟩
  · refine (all_mem (l := dd (c.nl.map (ren q m))) (Q := fun x => 0 ≤ x ∧ x < (row.length : Int))).2 fun x hx => ?_
    obtain ⟨v, hv, rfl⟩ := List.mem_map.1 (((dd_spec _).2 _).1 hx)
    exact P.inr (all_mem (Q := fun v => 0 ≤ v ∧ v < (r.length : Int)) |>.1 h.nl v hv)
  · refine (all_mem (l := dd (c.nn.map (ren q m))) (Q := fun x => 0 ≤ x ∧ x < (row.length : Int))).2 fun x hx => ?_
    obtain ⟨v, hv, rfl⟩ := List.mem_map.1 (((dd_spec _).2 _).1 hx)
    exact P.inr (all_mem (Q := fun v => 0 ≤ v ∧ v < (r.length : Int)) |>.1 h.nn v hv)
  · have hj' : j < c.ax.length := by simpa using hj
    have e1 : (rnCl (ren q m) c).ax[j] = rnA (ren q m) c.ax[j] := List.getElem_map _
    rw [e1] at hb ⊢
    have hb : c.ax[j].b = 0 := hb
    rw [show (rnA (ren q m) c.ax[j]).t = ren q m c.ax[j].t from if_pos hb]
    exact P.inr ((h.ax j hj').1 hb)
  · have hj' : j < c.ax.length := by simpa using hj
    have e1 : (rnCl (ren q m) c).ax[j] = rnA (ren q m) c.ax[j] := List.getElem_map _
    rw [e1] at hb ⊢
    have hb : c.ax[j].b ≠ 0 := hb
    have := (h.ax j hj').2 hb
    exact ⟨this.1, P.okF' (hc.ax _ (List.getElem_mem hj')) this.2⟩
  · have hj' : j < c.is.length := by simpa using hj
    have e1 : (rnCl (ren q m) c).is[j] = rnI (ren q m) c.is[j] := List.getElem_map _
    have e2 : (rnCl (ren q m) c).ax.length = c.ax.length := List.length_map _
    rw [e1, e2]
    exact P.okF' (hc.is _ (List.getElem_mem hj')) (h.is j hj')
  · exact (all_map (Q := fun t : Ts => 0 ≤ t.v ∧ t.v < (row.length : Int)) (R := fun _ => True) fun t ht => ⟨fun _ => trivial, fun _ => P.inr (all_mem (Q := fun t : Ts => 0 ≤ t.v ∧ t.v < (r.length : Int)) |>.1 h.ts t ht)⟩).2 fun _ _ => trivial
  · refine (all_map (Q := fun p : Int × Int => (0 ≤ p.1 ∧ p.1 < (row.length : Int)) ∧ 0 ≤ p.2 ∧ p.2 < (row.length : Int)) (R := fun _ => True) fun p hp => ⟨fun _ => trivial, fun _ => ?_⟩).2 fun _ _ => trivial
    have k := all_mem (Q := fun p : Int × Int => (0 ≤ p.1 ∧ p.1 < (r.length : Int)) ∧ 0 ≤ p.2 ∧ p.2 < (r.length : Int)) |>.1 h.sm p hp
    have k1 := P.inr k.1
    have k2 := P.inr k.2
    rcases mnx (gv := ren q m) (p := p) with ⟨a, b⟩ | ⟨a, b⟩ <;> rw [a, b]
    · exact ⟨k1, k2⟩
    · exact ⟨k2, k1⟩
  · refine (all_map (Q := fun p : Int × Int => (0 ≤ p.1 ∧ p.1 < (row.length : Int)) ∧ 0 ≤ p.2 ∧ p.2 < (row.length : Int)) (R := fun _ => True) fun p hp => ⟨fun _ => trivial, fun _ => ?_⟩).2 fun _ _ => trivial
    have k := all_mem (Q := fun p : Int × Int => (0 ≤ p.1 ∧ p.1 < (r.length : Int)) ∧ 0 ≤ p.2 ∧ p.2 < (r.length : Int)) |>.1 h.df p hp
    have k1 := P.inr k.1
    have k2 := P.inr k.2
    rcases mnx (gv := ren q m) (p := p) with ⟨a, b⟩ | ⟨a, b⟩ <;> rw [a, b]
    · exact ⟨k1, k2⟩
    · exact ⟨k2, k1⟩
  · intro a ha
    obtain ⟨b, hb, rfl⟩ := List.mem_map.1 ha
    exact h.cR b hb
  · intro a ha
    obtain ⟨b, hb, rfl⟩ := List.mem_map.1 ha
    exact h.iR b hb
theorem Moved.hol (P : Moved q m r row) {c : Cl} (hc : nmC VV (ren q m) c) (h : okC c r) : holP (rnCl (ren q m) c) row ↔ holP c r := by
  have e := P.rl
  have hau : auV row (rnCl (ren q m) c).ax [] = auV r c.ax [] := P.au fun a ha => by
    obtain ⟨j, hj, rfl⟩ := List.mem_iff_getElem.1 ha
    exact ⟨fun hb => by have := (h.ax j hj).1 hb; omega, hc.ax _ ha⟩
  unfold holP
  rw [hau]
  refine and_congr (all_dd (Q := fun v => (at' row v).k = 0) (R := fun v => (at' r v).k = 0) fun v hv => ?_) (and_congr (all_dd (Q := fun v => (at' row v).k ≠ 0) (R := fun v => (at' r v).k ≠ 0) fun v hv => ?_) (and_congr Iff.rfl (and_congr (all_map (Q := inQ row _) (R := inQ r _) fun k hk => ?_) (and_congr (all_map (Q := tsQ row) (R := tsQ r) fun t ht => ?_) (and_congr (all_map (Q := smQ row) (R := smQ r) fun p hp => ?_) (all_map (Q := dfQ row) (R := dfQ r) fun p hp => ?_))))))
  · obtain ⟨j, hj, rfl⟩ := List.mem_iff_getElem.1 hv
    have := h.nl j hj
    rw [P.at this.1 (by omega)]
  · obtain ⟨j, hj, rfl⟩ := List.mem_iff_getElem.1 hv
    have := h.nn j hj
    rw [P.at this.1 (by omega)]
  · unfold inQ
    rw [show lfV row (auV r c.ax []).1 (rnI (ren q m) k).f = lfV r (auV r c.ax []).1 k.f from P.lf (hc.is k hk)]
  · obtain ⟨j, hj, rfl⟩ := List.mem_iff_getElem.1 ht
    have := h.ts j hj
    unfold tsQ
    rw [show at' row (rnT (ren q m) c.ts[j]).v = at' r c.ts[j].v from P.at this.1 (by omega)]
    exact Iff.rfl
  · obtain ⟨j, hj, rfl⟩ := List.mem_iff_getElem.1 hp
    exact P.sm (h.sm j hj)
  · obtain ⟨j, hj, rfl⟩ := List.mem_iff_getElem.1 hp
    exact P.df (h.df j hj)
end
end Go.Proofs.Ytnmfjojhgfipcaa.W
namespace Go.Proofs.Ytnmfjojhgfipcaa.W
open Go.RowKit E
set_option linter.unusedVariables false
set_option linter.unusedSimpArgs false
set_option linter.unusedSectionVars false
end Go.Proofs.Ytnmfjojhgfipcaa.W
namespace Go.Proofs.Ytnmfjojhgfipcaa.W
open Go.RowKit E
set_option linter.unusedVariables false
set_option linter.unusedSimpArgs false
set_option linter.unusedSectionVars false
structure Rn where (c : Cl) (l : List Vr) (r : List RV) (q : List Int) (n : Int)
end Go.Proofs.Ytnmfjojhgfipcaa.W
namespace Go.Proofs.Ytnmfjojhgfipcaa.W
open Go.RowKit E
set_option linter.unusedVariables false
set_option linter.unusedSimpArgs false
set_option linter.unusedSectionVars false

def layI_ren : Go.Shelf.Ren := ⟨fun | 4 => 76 | n => n, fun | 22 => 22 | 25 => 3 | n => n, fun | n => n⟩
theorem layI : Go.Proofs.Lays8.n4 Try.prog layI_ren := {
  mixed := by kernel_rfl
  f4 := ⟨"slices.Grow[[]int,int]", by decide, Try.func76.trans (congrArg some (by kernel_rfl))⟩
  t0 := Try.underlying0
  a0 := Try.isAgg0
  z0 := Try.sizeOf0
  v0 := Try.zeroValue0
  t3 := Try.underlying3
  a3 := Try.isAgg3
  z3 := Try.sizeOf3
  v3 := Try.zeroValue3
  t4 := Try.underlying4
  a4 := Try.isAgg4
  z4 := Try.sizeOf4
  v4 := Try.zeroValue4
  t9 := Try.underlying9
  a9 := Try.isAgg9
  z9 := Try.sizeOf9
  v9 := Try.zeroValue9
  t20 := Try.underlying20
  a20 := Try.isAgg20
  z20 := Try.sizeOf20
  v20 := Try.zeroValue20
  t22 := Try.underlying22
  a22 := Try.isAgg22
  z22 := Try.sizeOf22
  v22 := Try.zeroValue22 }
theorem growI_any (H : Heap) (N : Nat) (h0 : 0 < N) (hb : N * 8 ≤ 140737488355328) : E.Spec Try.prog 76 [.a (.t (.v (.slice none 0 0))), iC (N : Int)] H fun x H' => ∃ k, H k = none ∧ x = .c (.a (.gs k 1)) ∧ H' = upd H k (some (.new 3 1)) := by
  obtain ⟨i, z, g1, g2, g3, g4, g5, g6, g7⟩ := elB_get Fx.el22
  refine E.Spec.fresh [.slice none 0 0, .int .i64 (N : Int)] (y := .new 3 1) (x := fun k => .c (.a (.gs k 1))) (fun _ => rfl) (fun w => ?_) H
  refine (Any8.slices_Grow_grow layI i z g2 g6 (by omega) none 0 0 N [] w (Nat.le_refl _) (by omega) (by rw [g5]; omega) (by omega) (by simp) (fun _ => rfl) (fun a h => by cases h)).mono ?_
  rintro e w' ⟨rfl, rfl⟩
  refine ⟨_, w.heap.size, grownCap w (0 + N) 0 (layI_ren.t 25), rfl, rfl, rfl, rfl, ?_, fun b' hb' => ?_, Nat.le_refl _, fun c hu => ?_, fun c k hk => ?_⟩
  · show w.drew.heap.size ≤ _
    show w.heap.size ≤ (w.heap.push _).size
    rw [Array.size_push]; omega
  · exact Below.heap_alloc w.drew _ b' hb'
  · refine ⟨_, heap_new w.drew _, ?_, grownCap_le_maxLen w _ _ _ (by unfold maxLen; omega), hu⟩
    have h9 := grownCap_ge w (0 + N) 0 (layI_ren.t 25)
    rw [Array.size_append, Array.size_append, size_zeroCells, size_zeroCells, g7]
    show 0 + (0 + N - 0) * 1 + (grownCap w (0 + N) 0 (layI_ren.t 25) - (0 + N)) * 1 = grownCap w (0 + N) 0 (layI_ren.t 25) * 1
    omega
  · exact .gs hk
theorem pIT : ∀ p : List Int, (p.map i64T).flatten.length = p.length * 1
  | [] => rfl
  | a :: r => by
    have := pIT r
    simp only [List.map_cons, List.flatten_cons, List.length_append, this, List.length_cons, List.length_nil]; omega
theorem growI_0 : Pure Try.prog 76 [.a (.t (.v (.slice none 0 0))), iC 0] (.c (.a (.t (.v (.slice none 0 0))))) :=
  Pure.of_calls [.slice none 0 0, .int .i64 0] (fun w => Any8.slices_Grow_room layI none 0 0 0 w (by omega) (by omega) (by omega) (by omega)) fun c => .t (.v rfl)

set_option maxHeartbeats 4000000 in
set_option maxRecDepth 20000 in
theorem catI_00 (H : Heap) : E.Spec Try.prog 43 [.a (.t (.sl .nn 1 [[.sl .un 1 (([] : List Int).map i64T)], [.sl .un 1 (([] : List Int).map i64T)]]))] H fun x H' => ∃ k, H k = none ∧ x = .c (.a (.os k 0 ([] : List Int).length 1)) ∧ H' = upd H k (some (.row 3 1 ((([] : List Int).map i64T).flatten.map .t))) := by
 refine Spec.enter Try.func43 rfl ?_
 refine AW.wk (Wk.keep 36 [(0, .c (.a (.t (.sl .nn 1 [[.sl .un 1 (([] : List Int).map i64T)], [.sl .un 1 (([] : List Int).map i64T)]]))))] [] (H) rfl ⟨rfl, trivial⟩ trivial (fun _ _ h => h) rfl) ?_
 refine sR ?_
 refine sA ?_
 refine SeqK.nil ?_
 refine sR ?_
 refine sA ?_
 refine SeqK.nil ?_
 refine AW.seq ?_
 refine sR ?_
 refine sM ?_
 refine SeqK.q (q_len rfl Fx.un127 rfl) rfl rfl rfl ?_
 refine sM ?_
 refine SeqK.nil ?_
 refine AW.block ?_
 refine AW.unroll ?_
 refine sR ?_
 refine SeqK.q (q_lss rfl rfl rfl) rfl rfl rfl ?_
 refine SeqK.nil ?_
 refine AW.seq ?_
 refine AW.condT rfl ?_
 refine AW.skip ?_
 refine AW.seq ?_
 refine AW.block ?_
 refine sR ?_
 refine SeqK.q (q_index _ rfl Fx.sl127 rfl rfl (by omega) (rfl)) rfl rfl rfl ?_
 refine SeqK.q (q_load (.a _) rfl Fx.ty22 rfl rfl rfl) rfl rfl rfl ?_
 refine sA ?_
 refine SeqK.nil ?_
 refine sR ?_
 refine sM ?_
 refine sM ?_
 refine SeqK.q (q_len rfl Fx.un22 rfl) rfl rfl rfl ?_
 refine SeqK.q (q_add _ rfl rfl rfl ((rfl : IntKind.i64.wrap _ = 0))) rfl rfl rfl ?_
 refine sA ?_
 refine SeqK.nil ?_
 refine sR ?_
 refine sM ?_
 refine SeqK.q (q_lss rfl rfl rfl) rfl rfl rfl ?_
 refine SeqK.nil ?_
 refine AW.condD rfl (fun h20 => ?_) (fun h20 => ?_)
 ·
  exfalso; simp at h20
 ·
  refine AW.skip ?_
  refine AW.reg ?_
  refine SeqK.q (q_add _ rfl rfl rfl (w64 (by omega) (by omega))) rfl rfl rfl ?_
  refine sM ?_
  refine SeqK.nil ?_
  first | with_reducible refine LoopW.again ?_ | with_reducible refine eth_n (LoopW.again ?_) | with_reducible refine eb_n (eth_n (LoopW.again ?_)) | with_reducible refine eth_n (eb_n (eth_n (LoopW.again ?_)))
  refine sR ?_
  refine SeqK.q (q_lss rfl rfl rfl) rfl rfl rfl ?_
  refine SeqK.nil ?_
  refine AW.seq ?_
  refine AW.condT rfl ?_
  refine AW.skip ?_
  refine AW.seq ?_
  refine AW.block ?_
  refine sR ?_
  refine SeqK.q (q_index _ rfl Fx.sl127 rfl rfl (by omega) (rfl)) rfl rfl rfl ?_
  refine SeqK.q (q_load (.a _) rfl Fx.ty22 rfl rfl rfl) rfl rfl rfl ?_
  refine sA ?_
  refine SeqK.nil ?_
  refine sR ?_
  refine sM ?_
  refine sM ?_
  refine SeqK.q (q_len rfl Fx.un22 rfl) rfl rfl rfl ?_
  refine SeqK.q (q_add _ rfl rfl rfl ((rfl : IntKind.i64.wrap _ = 0))) rfl rfl rfl ?_
  refine sA ?_
  refine SeqK.nil ?_
  refine sR ?_
  refine sM ?_
  refine SeqK.q (q_lss rfl rfl rfl) rfl rfl rfl ?_
  refine SeqK.nil ?_
  refine AW.condD rfl (fun h20 => ?_) (fun h20 => ?_)
  ·
   exfalso; simp at h20
  ·
   refine AW.skip ?_
   refine AW.reg ?_
   refine SeqK.q (q_add _ rfl rfl rfl (w64 (by omega) (by omega))) rfl rfl rfl ?_
   refine sM ?_
   refine SeqK.nil ?_
   first | with_reducible refine LoopW.again ?_ | with_reducible refine eth_n (LoopW.again ?_) | with_reducible refine eb_n (eth_n (LoopW.again ?_)) | with_reducible refine eth_n (eb_n (eth_n (LoopW.again ?_)))
   refine sR ?_
   refine SeqK.q (q_lss rfl rfl rfl) rfl rfl rfl ?_
   refine SeqK.nil ?_
   refine AW.seq ?_
   refine AW.condF rfl ?_
   refine AW.exit ?_
   refine eth_e ?_
   refine eth_e ?_
   refine exit_here ?_
   refine sR ?_
   refine sM ?_
   refine SeqK.q (q_call _ rfl Fx.fn76 rfl (growI_0) rfl) rfl rfl rfl ?_
   refine sA ?_
   refine SeqK.nil ?_
   refine AW.seq ?_
   refine sR ?_
   refine sM ?_
   refine SeqK.q (q_len rfl Fx.un127 rfl) rfl rfl rfl ?_
   refine sM ?_
   refine SeqK.nil ?_
   refine AW.block ?_
   refine AW.unroll ?_
   refine sR ?_
   refine SeqK.q (q_lss rfl rfl rfl) rfl rfl rfl ?_
   refine SeqK.nil ?_
   refine AW.seq ?_
   refine AW.condT rfl ?_
   refine AW.skip ?_
   refine AW.seq ?_
   refine AW.block ?_
   refine sR ?_
   refine SeqK.q (q_index _ rfl Fx.sl127 rfl rfl (by omega) (rfl)) rfl rfl rfl ?_
   refine SeqK.q (q_load (.a _) rfl Fx.ty22 rfl rfl rfl) rfl rfl rfl ?_
   refine sA ?_
   refine SeqK.nil ?_
   refine AW.reg ?_
   refine sM ?_
   refine sM ?_
   refine SeqK.q (q_appNil rfl Fx.el22 rfl rfl (by simp)) rfl rfl rfl ?_
   refine SeqK.xw 33 rfl XW.toNil ?_
   refine sA ?_
   refine SeqK.nil ?_
   refine AW.reg ?_
   refine SeqK.q (q_add _ rfl rfl rfl (w64 (by omega) (by omega))) rfl rfl rfl ?_
   refine sM ?_
   refine SeqK.nil ?_
   first | with_reducible refine LoopW.again ?_ | with_reducible refine eth_n (LoopW.again ?_) | with_reducible refine eb_n (eth_n (LoopW.again ?_)) | with_reducible refine eth_n (eb_n (eth_n (LoopW.again ?_)))
   refine sR ?_
   refine SeqK.q (q_lss rfl rfl rfl) rfl rfl rfl ?_
   refine SeqK.nil ?_
   refine AW.seq ?_
   refine AW.condT rfl ?_
   refine AW.skip ?_
   refine AW.seq ?_
   refine AW.block ?_
   refine sR ?_
   refine SeqK.q (q_index _ rfl Fx.sl127 rfl rfl (by omega) (rfl)) rfl rfl rfl ?_
   refine SeqK.q (q_load (.a _) rfl Fx.ty22 rfl rfl rfl) rfl rfl rfl ?_
   refine sA ?_
   refine SeqK.nil ?_
   refine AW.reg ?_
   refine sM ?_
   refine sM ?_
   refine SeqK.q (q_appNil rfl Fx.el22 rfl rfl (by simp)) rfl rfl rfl ?_
   refine SeqK.xw 33 rfl XW.toNil ?_
   refine sA ?_
   refine SeqK.nil ?_
   refine AW.reg ?_
   refine SeqK.q (q_add _ rfl rfl rfl (w64 (by omega) (by omega))) rfl rfl rfl ?_
   refine sM ?_
   refine SeqK.nil ?_
   first | with_reducible refine LoopW.again ?_ | with_reducible refine eth_n (LoopW.again ?_) | with_reducible refine eb_n (eth_n (LoopW.again ?_)) | with_reducible refine eth_n (eb_n (eth_n (LoopW.again ?_)))
   refine sR ?_
   refine SeqK.q (q_lss rfl rfl rfl) rfl rfl rfl ?_
   refine SeqK.nil ?_
   refine AW.seq ?_
   refine AW.condF rfl ?_
   refine AW.exit ?_
   refine eth_e ?_
   refine eth_e ?_
   refine exit_here ?_
   refine sR ?_
   refine sM ?_
   refine sA ?_
   refine SeqK.nil ?_
   refine AW.row 2 3 1 rfl (fun k0 hk0 => ?_)
   refine AW.ret ?_
   exact fin_x (x := .c _) (_) (.tmp rfl .nil) rfl (fun _ _ h => h) (⟨k0, hk0, rfl, rfl⟩)

set_option maxHeartbeats 4000000 in
set_option maxRecDepth 20000 in
theorem catI_a (H : Heap) (a b : List Int) (hl : a.length + b.length ≤ 1000000) (ha : a ≠ []) : E.Spec Try.prog 43 [.a (.t (.sl .nn 1 [[.sl .un 1 (a.map i64T)], [.sl .un 1 (b.map i64T)]]))] H fun x H' => ∃ k, H k = none ∧ x = .c (.a (.os k 0 (a ++ b).length 1)) ∧ H' = upd H k (some (.row 3 1 (((a ++ b).map i64T).flatten.map .t))) := by
 have ha0 := List.length_pos_iff.2 ha
 refine Spec.enter Try.func43 rfl ?_
 refine AW.wk (Wk.keep 36 [(0, .c (.a (.t (.sl .nn 1 [[.sl .un 1 (a.map i64T)], [.sl .un 1 (b.map i64T)]]))))] [] (H) rfl ⟨rfl, trivial⟩ trivial (fun _ _ h => h) rfl) ?_
 refine sR ?_
 refine sA ?_
 refine SeqK.nil ?_
 refine sR ?_
 refine sA ?_
 refine SeqK.nil ?_
 refine AW.seq ?_
 refine sR ?_
 refine sM ?_
 refine SeqK.q (q_len rfl Fx.un127 rfl) rfl rfl rfl ?_
 refine sM ?_
 refine SeqK.nil ?_
 refine AW.block ?_
 refine AW.unroll ?_
 refine sR ?_
 refine SeqK.q (q_lss rfl rfl rfl) rfl rfl rfl ?_
 refine SeqK.nil ?_
 refine AW.seq ?_
 refine AW.condT rfl ?_
 refine AW.skip ?_
 refine AW.seq ?_
 refine AW.block ?_
 refine sR ?_
 refine SeqK.q (q_index _ rfl Fx.sl127 rfl rfl (by omega) (rfl)) rfl rfl rfl ?_
 refine SeqK.q (q_load (.a _) rfl Fx.ty22 rfl rfl rfl) rfl rfl rfl ?_
 refine sA ?_
 refine SeqK.nil ?_
 refine sR ?_
 refine sM ?_
 refine sM ?_
 refine SeqK.q (q_len rfl Fx.un22 rfl) rfl rfl rfl ?_
 refine SeqK.q (q_add _ rfl rfl rfl ((by rw [List.length_map, w64 (by omega) (by omega)]; omega : IntKind.i64.wrap _ = ((a.length : Nat) : Int)))) rfl rfl rfl ?_
 refine sA ?_
 refine SeqK.nil ?_
 refine sR ?_
 refine sM ?_
 refine SeqK.q (q_lss rfl rfl rfl) rfl rfl rfl ?_
 refine SeqK.nil ?_
 refine AW.condD rfl (fun h20 => ?_) (fun h20 => ?_)
 ·
  exfalso; omega
 ·
  refine AW.skip ?_
  refine AW.reg ?_
  refine SeqK.q (q_add _ rfl rfl rfl (w64 (by omega) (by omega))) rfl rfl rfl ?_
  refine sM ?_
  refine SeqK.nil ?_
  first | with_reducible refine LoopW.again ?_ | with_reducible refine eth_n (LoopW.again ?_) | with_reducible refine eb_n (eth_n (LoopW.again ?_)) | with_reducible refine eth_n (eb_n (eth_n (LoopW.again ?_)))
  refine sR ?_
  refine SeqK.q (q_lss rfl rfl rfl) rfl rfl rfl ?_
  refine SeqK.nil ?_
  refine AW.seq ?_
  refine AW.condT rfl ?_
  refine AW.skip ?_
  refine AW.seq ?_
  refine AW.block ?_
  refine sR ?_
  refine SeqK.q (q_index _ rfl Fx.sl127 rfl rfl (by omega) (rfl)) rfl rfl rfl ?_
  refine SeqK.q (q_load (.a _) rfl Fx.ty22 rfl rfl rfl) rfl rfl rfl ?_
  refine sA ?_
  refine SeqK.nil ?_
  refine sR ?_
  refine sM ?_
  refine sM ?_
  refine SeqK.q (q_len rfl Fx.un22 rfl) rfl rfl rfl ?_
  refine SeqK.q (q_add _ rfl rfl rfl ((by rw [List.length_map, w64 (by omega) (by omega)]; omega : IntKind.i64.wrap _ = ((a.length + b.length : Nat) : Int)))) rfl rfl rfl ?_
  refine sA ?_
  refine SeqK.nil ?_
  refine sR ?_
  refine sM ?_
  refine SeqK.q (q_lss rfl rfl rfl) rfl rfl rfl ?_
  refine SeqK.nil ?_
  refine AW.condD rfl (fun h20 => ?_) (fun h20 => ?_)
  ·
   exfalso; omega
  ·
   refine AW.skip ?_
   refine AW.reg ?_
   refine SeqK.q (q_add _ rfl rfl rfl (w64 (by omega) (by omega))) rfl rfl rfl ?_
   refine sM ?_
   refine SeqK.nil ?_
   first | with_reducible refine LoopW.again ?_ | with_reducible refine eth_n (LoopW.again ?_) | with_reducible refine eb_n (eth_n (LoopW.again ?_)) | with_reducible refine eth_n (eb_n (eth_n (LoopW.again ?_)))
   refine sR ?_
   refine SeqK.q (q_lss rfl rfl rfl) rfl rfl rfl ?_
   refine SeqK.nil ?_
   refine AW.seq ?_
   refine AW.condF rfl ?_
   refine AW.exit ?_
   refine eth_e ?_
   refine eth_e ?_
   refine exit_here ?_
   refine sR ?_
   refine sM ?_
   refine SeqK.callE rfl rfl rfl rfl Fx.fn76 rfl (growI_any _ _ (by omega) (by omega)) (fun _ _ ⟨k, _, h, _⟩ => by rw [h]; rfl) (fun x24 H24 q24 => ?_)
   obtain ⟨kg, hkg, rfl, rfl⟩ := q24
   refine sA ?_
   refine SeqK.nil ?_
   refine AW.seq ?_
   refine sR ?_
   refine sM ?_
   refine SeqK.q (q_len rfl Fx.un127 rfl) rfl rfl rfl ?_
   refine sM ?_
   refine SeqK.nil ?_
   refine AW.block ?_
   refine AW.unroll ?_
   refine sR ?_
   refine SeqK.q (q_lss rfl rfl rfl) rfl rfl rfl ?_
   refine SeqK.nil ?_
   refine AW.seq ?_
   refine AW.condT rfl ?_
   refine AW.skip ?_
   refine AW.seq ?_
   refine AW.block ?_
   refine sR ?_
   refine SeqK.q (q_index _ rfl Fx.sl127 rfl rfl (by omega) (rfl)) rfl rfl rfl ?_
   refine SeqK.q (q_load (.a _) rfl Fx.ty22 rfl rfl rfl) rfl rfl rfl ?_
   refine sA ?_
   refine SeqK.nil ?_
   refine AW.reg ?_
   refine sM ?_
   refine sM ?_
   refine SeqK.any (e_appGS (k := kg) rfl rfl Fx.el22 rfl (upd_same _ _ _) rfl (by rw [List.length_map]; omega) rfl rfl (fun he => absurd he (by simpa using ha)) (fun _ k1 hk1 => ?_))
   obtain ⟨_, hk1⟩ := upd_lt hk1
   rw [upd_back hkg]
   refine sA ?_
   refine SeqK.nil ?_
   refine AW.reg ?_
   refine SeqK.q (q_add _ rfl rfl rfl (w64 (by omega) (by omega))) rfl rfl rfl ?_
   refine sM ?_
   refine SeqK.nil ?_
   first | with_reducible refine LoopW.again ?_ | with_reducible refine eth_n (LoopW.again ?_) | with_reducible refine eb_n (eth_n (LoopW.again ?_)) | with_reducible refine eth_n (eb_n (eth_n (LoopW.again ?_)))
   refine sR ?_
   refine SeqK.q (q_lss rfl rfl rfl) rfl rfl rfl ?_
   refine SeqK.nil ?_
   refine AW.seq ?_
   refine AW.condT rfl ?_
   refine AW.skip ?_
   refine AW.seq ?_
   refine AW.block ?_
   refine sR ?_
   refine SeqK.q (q_index _ rfl Fx.sl127 rfl rfl (by omega) (rfl)) rfl rfl rfl ?_
   refine SeqK.q (q_load (.a _) rfl Fx.ty22 rfl rfl rfl) rfl rfl rfl ?_
   refine sA ?_
   refine SeqK.nil ?_
   refine AW.reg ?_
   refine sM ?_
   refine sM ?_
   refine SeqK.appR1 rfl hk1 rfl Fx.el22 rfl (by rw [List.length_map, pIT, List.length_map]) rfl (by rw [List.length_map, List.length_map]; omega) rfl rfl (fun k2 hk2 => ?_)
   refine sA ?_
   refine SeqK.nil ?_
   refine AW.reg ?_
   refine SeqK.q (q_add _ rfl rfl rfl (w64 (by omega) (by omega))) rfl rfl rfl ?_
   refine sM ?_
   refine SeqK.nil ?_
   first | with_reducible refine LoopW.again ?_ | with_reducible refine eth_n (LoopW.again ?_) | with_reducible refine eb_n (eth_n (LoopW.again ?_)) | with_reducible refine eth_n (eb_n (eth_n (LoopW.again ?_)))
   refine sR ?_
   refine SeqK.q (q_lss rfl rfl rfl) rfl rfl rfl ?_
   refine SeqK.nil ?_
   refine AW.seq ?_
   refine AW.condF rfl ?_
   refine AW.exit ?_
   refine eth_e ?_
   refine eth_e ?_
   refine exit_here ?_
   refine sR ?_
   refine sM ?_
   refine sA ?_
   refine SeqK.nil ?_
   refine AW.ret ?_
   exact fin_x (x := .c _) (_) (.tmp rfl .nil) rfl (fun _ _ h => h) (⟨k2, hk2, by rw [show (a ++ b).length = (a.map i64T).length + (b.map i64T).length by simp], by rw [show ((a ++ b).map i64T).flatten.map A.t = (a.map i64T).flatten.map A.t ++ (b.map i64T).flatten.map A.t by simp]⟩)

set_option maxHeartbeats 4000000 in
set_option maxRecDepth 20000 in
theorem catI_b (H : Heap) (b : List Int) (hl : b.length ≤ 1000000) (hb : b ≠ []) : E.Spec Try.prog 43 [.a (.t (.sl .nn 1 [[.sl .un 1 (([] : List Int).map i64T)], [.sl .un 1 (b.map i64T)]]))] H fun x H' => ∃ k, H k = none ∧ x = .c (.a (.os k 0 b.length 1)) ∧ H' = upd H k (some (.row 3 1 ((b.map i64T).flatten.map .t))) := by
 have hb0 := List.length_pos_iff.2 hb
 refine Spec.enter Try.func43 rfl ?_
 refine AW.wk (Wk.keep 36 [(0, .c (.a (.t (.sl .nn 1 [[.sl .un 1 (([] : List Int).map i64T)], [.sl .un 1 (b.map i64T)]]))))] [] (H) rfl ⟨rfl, trivial⟩ trivial (fun _ _ h => h) rfl) ?_
 refine sR ?_
 refine sA ?_
 refine SeqK.nil ?_
 refine sR ?_
 refine sA ?_
 refine SeqK.nil ?_
 refine AW.seq ?_
 refine sR ?_
 refine sM ?_
 refine SeqK.q (q_len rfl Fx.un127 rfl) rfl rfl rfl ?_
 refine sM ?_
 refine SeqK.nil ?_
 refine AW.block ?_
 refine AW.unroll ?_
 refine sR ?_
 refine SeqK.q (q_lss rfl rfl rfl) rfl rfl rfl ?_
 refine SeqK.nil ?_
 refine AW.seq ?_
 refine AW.condT rfl ?_
 refine AW.skip ?_
 refine AW.seq ?_
 refine AW.block ?_
 refine sR ?_
 refine SeqK.q (q_index _ rfl Fx.sl127 rfl rfl (by omega) (rfl)) rfl rfl rfl ?_
 refine SeqK.q (q_load (.a _) rfl Fx.ty22 rfl rfl rfl) rfl rfl rfl ?_
 refine sA ?_
 refine SeqK.nil ?_
 refine sR ?_
 refine sM ?_
 refine sM ?_
 refine SeqK.q (q_len rfl Fx.un22 rfl) rfl rfl rfl ?_
 refine SeqK.q (q_add _ rfl rfl rfl ((by rw [w64 (by simp) (by simp)]; simp : IntKind.i64.wrap _ = 0))) rfl rfl rfl ?_
 refine sA ?_
 refine SeqK.nil ?_
 refine sR ?_
 refine sM ?_
 refine SeqK.q (q_lss rfl rfl rfl) rfl rfl rfl ?_
 refine SeqK.nil ?_
 refine AW.condD rfl (fun h20 => ?_) (fun h20 => ?_)
 ·
  simp at h20
 ·
  refine AW.skip ?_
  refine AW.reg ?_
  refine SeqK.q (q_add _ rfl rfl rfl (w64 (by omega) (by omega))) rfl rfl rfl ?_
  refine sM ?_
  refine SeqK.nil ?_
  first | with_reducible refine LoopW.again ?_ | with_reducible refine eth_n (LoopW.again ?_) | with_reducible refine eb_n (eth_n (LoopW.again ?_)) | with_reducible refine eth_n (eb_n (eth_n (LoopW.again ?_)))
  refine sR ?_
  refine SeqK.q (q_lss rfl rfl rfl) rfl rfl rfl ?_
  refine SeqK.nil ?_
  refine AW.seq ?_
  refine AW.condT rfl ?_
  refine AW.skip ?_
  refine AW.seq ?_
  refine AW.block ?_
  refine sR ?_
  refine SeqK.q (q_index _ rfl Fx.sl127 rfl rfl (by omega) (rfl)) rfl rfl rfl ?_
  refine SeqK.q (q_load (.a _) rfl Fx.ty22 rfl rfl rfl) rfl rfl rfl ?_
  refine sA ?_
  refine SeqK.nil ?_
  refine sR ?_
  refine sM ?_
  refine sM ?_
  refine SeqK.q (q_len rfl Fx.un22 rfl) rfl rfl rfl ?_
  refine SeqK.q (q_add _ rfl rfl rfl ((by rw [List.length_map, w64 (by omega) (by omega)]; omega : IntKind.i64.wrap _ = ((b.length : Nat) : Int)))) rfl rfl rfl ?_
  refine sA ?_
  refine SeqK.nil ?_
  refine sR ?_
  refine sM ?_
  refine SeqK.q (q_lss rfl rfl rfl) rfl rfl rfl ?_
  refine SeqK.nil ?_
  refine AW.condD rfl (fun h20 => ?_) (fun h20 => ?_)
  ·
   exfalso; omega
  ·
   refine AW.skip ?_
   refine AW.reg ?_
   refine SeqK.q (q_add _ rfl rfl rfl (w64 (by omega) (by omega))) rfl rfl rfl ?_
   refine sM ?_
   refine SeqK.nil ?_
   first | with_reducible refine LoopW.again ?_ | with_reducible refine eth_n (LoopW.again ?_) | with_reducible refine eb_n (eth_n (LoopW.again ?_)) | with_reducible refine eth_n (eb_n (eth_n (LoopW.again ?_)))
   refine sR ?_
   refine SeqK.q (q_lss rfl rfl rfl) rfl rfl rfl ?_
   refine SeqK.nil ?_
   refine AW.seq ?_
   refine AW.condF rfl ?_
   refine AW.exit ?_
   refine eth_e ?_
   refine eth_e ?_
   refine exit_here ?_
   refine sR ?_
   refine sM ?_
   refine SeqK.callE rfl rfl rfl rfl Fx.fn76 rfl (growI_any _ _ (by omega) (by omega)) (fun _ _ ⟨k, _, h, _⟩ => by rw [h]; rfl) (fun x24 H24 q24 => ?_)
   obtain ⟨kg, hkg, rfl, rfl⟩ := q24
   refine sA ?_
   refine SeqK.nil ?_
   refine AW.seq ?_
   refine sR ?_
   refine sM ?_
   refine SeqK.q (q_len rfl Fx.un127 rfl) rfl rfl rfl ?_
   refine sM ?_
   refine SeqK.nil ?_
   refine AW.block ?_
   refine AW.unroll ?_
   refine sR ?_
   refine SeqK.q (q_lss rfl rfl rfl) rfl rfl rfl ?_
   refine SeqK.nil ?_
   refine AW.seq ?_
   refine AW.condT rfl ?_
   refine AW.skip ?_
   refine AW.seq ?_
   refine AW.block ?_
   refine sR ?_
   refine SeqK.q (q_index _ rfl Fx.sl127 rfl rfl (by omega) (rfl)) rfl rfl rfl ?_
   refine SeqK.q (q_load (.a _) rfl Fx.ty22 rfl rfl rfl) rfl rfl rfl ?_
   refine sA ?_
   refine SeqK.nil ?_
   refine AW.reg ?_
   refine sM ?_
   refine sM ?_
   refine SeqK.any (e_appGS (k := kg) rfl rfl Fx.el22 rfl (upd_same _ _ _) rfl (by simp) rfl rfl (fun _ k1 hk1 => ?_) (fun he => absurd rfl he))
   obtain ⟨_, hk1⟩ := upd_lt hk1
   rw [upd_back hkg]
   refine sA ?_
   refine SeqK.nil ?_
   refine AW.reg ?_
   refine SeqK.q (q_add _ rfl rfl rfl (w64 (by omega) (by omega))) rfl rfl rfl ?_
   refine sM ?_
   refine SeqK.nil ?_
   first | with_reducible refine LoopW.again ?_ | with_reducible refine eth_n (LoopW.again ?_) | with_reducible refine eb_n (eth_n (LoopW.again ?_)) | with_reducible refine eth_n (eb_n (eth_n (LoopW.again ?_)))
   refine sR ?_
   refine SeqK.q (q_lss rfl rfl rfl) rfl rfl rfl ?_
   refine SeqK.nil ?_
   refine AW.seq ?_
   refine AW.condT rfl ?_
   refine AW.skip ?_
   refine AW.seq ?_
   refine AW.block ?_
   refine sR ?_
   refine SeqK.q (q_index _ rfl Fx.sl127 rfl rfl (by omega) (rfl)) rfl rfl rfl ?_
   refine SeqK.q (q_load (.a _) rfl Fx.ty22 rfl rfl rfl) rfl rfl rfl ?_
   refine sA ?_
   refine SeqK.nil ?_
   refine AW.reg ?_
   refine sM ?_
   refine sM ?_
   refine SeqK.any (e_appGS (k := k1) rfl rfl Fx.el22 rfl (upd_same _ _ _) rfl (by rw [List.length_map]; omega) rfl rfl (fun he => absurd he (by simpa using hb)) (fun _ k2 hk2 => ?_))
   obtain ⟨_, hk2⟩ := upd_lt hk2
   rw [upd_back hk1]
   refine sA ?_
   refine SeqK.nil ?_
   refine AW.reg ?_
   refine SeqK.q (q_add _ rfl rfl rfl (w64 (by omega) (by omega))) rfl rfl rfl ?_
   refine sM ?_
   refine SeqK.nil ?_
   first | with_reducible refine LoopW.again ?_ | with_reducible refine eth_n (LoopW.again ?_) | with_reducible refine eb_n (eth_n (LoopW.again ?_)) | with_reducible refine eth_n (eb_n (eth_n (LoopW.again ?_)))
   refine sR ?_
   refine SeqK.q (q_lss rfl rfl rfl) rfl rfl rfl ?_
   refine SeqK.nil ?_
   refine AW.seq ?_
   refine AW.condF rfl ?_
   refine AW.exit ?_
   refine eth_e ?_
   refine eth_e ?_
   refine exit_here ?_
   refine sR ?_
   refine sM ?_
   refine sA ?_
   refine SeqK.nil ?_
   refine AW.ret ?_
   exact fin_x (x := .c _) (_) (.tmp rfl .nil) rfl (fun _ _ h => h) (⟨k2, hk2, by rw [show b.length = (b.map i64T).length by simp], rfl⟩)

theorem catI_row (H : Heap) (a b : List Int) (hl : a.length + b.length ≤ 1000000) : E.Spec Try.prog 43 [.a (.t (.sl .nn 1 [[.sl .un 1 (a.map i64T)], [.sl .un 1 (b.map i64T)]]))] H fun x H' => ∃ k, H k = none ∧ x = .c (.a (.os k 0 (a ++ b).length 1)) ∧ H' = upd H k (some (.row 3 1 (((a ++ b).map i64T).flatten.map .t))) := by
  by_cases ha : a = []
  · subst ha
    by_cases hb : b = []
    · subst hb; exact catI_00 H
    · exact catI_b H b (by simpa using hl) hb
  · exact catI_a H a b hl ha
def layA_ren : Go.Shelf.Ren := ⟨fun | 4 => 77 | n => n, fun | 22 => 23 | 25 => 82 | n => n, fun | n => n⟩
theorem layA : Go.Proofs.Lays8.n4 Try.prog layA_ren := {
  mixed := by kernel_rfl
  f4 := ⟨"slices.Grow[[]disjoint/api.Auxiliary,disjoint/api.Auxiliary]", by decide, Try.func77.trans (congrArg some (by kernel_rfl))⟩
  t0 := Try.underlying0
  a0 := Try.isAgg0
  z0 := Try.sizeOf0
  v0 := Try.zeroValue0
  t3 := Try.underlying3
  a3 := Try.isAgg3
  z3 := Try.sizeOf3
  v3 := Try.zeroValue3
  t4 := Try.underlying4
  a4 := Try.isAgg4
  z4 := Try.sizeOf4
  v4 := Try.zeroValue4
  t9 := Try.underlying9
  a9 := Try.isAgg9
  z9 := Try.sizeOf9
  v9 := Try.zeroValue9
  t20 := Try.underlying20
  a20 := Try.isAgg20
  z20 := Try.sizeOf20
  v20 := Try.zeroValue20
  t22 := Try.underlying23
  a22 := Try.isAgg23
  z22 := Try.sizeOf23
  v22 := Try.zeroValue23 }
theorem growA_any (H : Heap) (N : Nat) (h0 : 0 < N) (hb : N * 48 ≤ 140737488355328) : E.Spec Try.prog 77 [.a (.t (.v (.slice none 0 0))), iC (N : Int)] H fun x H' => ∃ k, H k = none ∧ x = .c (.a (.gs k 4)) ∧ H' = upd H k (some (.new 82 4)) := by
  obtain ⟨i, z, g1, g2, g3, g4, g5, g6, g7⟩ := elB_get Fx.el23
  refine E.Spec.fresh [.slice none 0 0, .int .i64 (N : Int)] (y := .new 82 4) (x := fun k => .c (.a (.gs k 4))) (fun _ => rfl) (fun w => ?_) H
  refine (Any8.slices_Grow_grow layA i z g2 g6 (by omega) none 0 0 N [] w (Nat.le_refl _) (by omega) (by rw [g5]; omega) (by omega) (by simp) (fun _ => rfl) (fun a h => by cases h)).mono ?_
  rintro e w' ⟨rfl, rfl⟩
  refine ⟨_, w.heap.size, grownCap w (0 + N) 0 (layA_ren.t 25), rfl, rfl, rfl, rfl, ?_, fun b' hb' => ?_, Nat.le_refl _, fun c hu => ?_, fun c k hk => ?_⟩
  · show w.drew.heap.size ≤ _
    show w.heap.size ≤ (w.heap.push _).size
    rw [Array.size_push]; omega
  · exact Below.heap_alloc w.drew _ b' hb'
  · refine ⟨_, heap_new w.drew _, ?_, grownCap_le_maxLen w _ _ _ (by unfold maxLen; omega), hu⟩
    have h9 := grownCap_ge w (0 + N) 0 (layA_ren.t 25)
    rw [Array.size_append, Array.size_append, size_zeroCells, size_zeroCells, g7]
    show 0 + (0 + N - 0) * 4 + (grownCap w (0 + N) 0 (layA_ren.t 25) - (0 + N)) * 4 = grownCap w (0 + N) 0 (layA_ren.t 25) * 4
    omega
  · exact .gs hk
theorem pAT : ∀ p : List Ax, (p.map axT).flatten.length = p.length * 4
  | [] => rfl
  | a :: r => by
    have := pAT r
    simp only [List.map_cons, List.flatten_cons, List.length_append, this, List.length_cons, List.length_nil]; omega
theorem growA_0 : Pure Try.prog 77 [.a (.t (.v (.slice none 0 0))), iC 0] (.c (.a (.t (.v (.slice none 0 0))))) :=
  Pure.of_calls [.slice none 0 0, .int .i64 0] (fun w => Any8.slices_Grow_room layA none 0 0 0 w (by omega) (by omega) (by omega) (by omega)) fun c => .t (.v rfl)

set_option maxHeartbeats 4000000 in
set_option maxRecDepth 20000 in
theorem catA_00 (H : Heap) : E.Spec Try.prog 44 [.a (.t (.sl .nn 1 [[.sl .un 4 (([] : List Ax).map axT)], [.sl .un 4 (([] : List Ax).map axT)]]))] H fun x H' => ∃ k, H k = none ∧ x = .c (.a (.os k 0 ([] : List Ax).length 4)) ∧ H' = upd H k (some (.row 82 4 ((([] : List Ax).map axT).flatten.map .t))) := by
 refine Spec.enter Try.func44 rfl ?_
 refine AW.wk (Wk.keep 36 [(0, .c (.a (.t (.sl .nn 1 [[.sl .un 4 (([] : List Ax).map axT)], [.sl .un 4 (([] : List Ax).map axT)]]))))] [] (H) rfl ⟨rfl, trivial⟩ trivial (fun _ _ h => h) rfl) ?_
 refine sR ?_
 refine sA ?_
 refine SeqK.nil ?_
 refine sR ?_
 refine sA ?_
 refine SeqK.nil ?_
 refine AW.seq ?_
 refine sR ?_
 refine sM ?_
 refine SeqK.q (q_len rfl Fx.un129 rfl) rfl rfl rfl ?_
 refine sM ?_
 refine SeqK.nil ?_
 refine AW.block ?_
 refine AW.unroll ?_
 refine sR ?_
 refine SeqK.q (q_lss rfl rfl rfl) rfl rfl rfl ?_
 refine SeqK.nil ?_
 refine AW.seq ?_
 refine AW.condT rfl ?_
 refine AW.skip ?_
 refine AW.seq ?_
 refine AW.block ?_
 refine sR ?_
 refine SeqK.q (q_index _ rfl Fx.sl129 rfl rfl (by omega) (rfl)) rfl rfl rfl ?_
 refine SeqK.q (q_load (.a _) rfl Fx.ty23 rfl rfl rfl) rfl rfl rfl ?_
 refine sA ?_
 refine SeqK.nil ?_
 refine sR ?_
 refine sM ?_
 refine sM ?_
 refine SeqK.q (q_len rfl Fx.un23 rfl) rfl rfl rfl ?_
 refine SeqK.q (q_add _ rfl rfl rfl ((rfl : IntKind.i64.wrap _ = 0))) rfl rfl rfl ?_
 refine sA ?_
 refine SeqK.nil ?_
 refine sR ?_
 refine sM ?_
 refine SeqK.q (q_lss rfl rfl rfl) rfl rfl rfl ?_
 refine SeqK.nil ?_
 refine AW.condD rfl (fun h20 => ?_) (fun h20 => ?_)
 ·
  exfalso; simp at h20
 ·
  refine AW.skip ?_
  refine AW.reg ?_
  refine SeqK.q (q_add _ rfl rfl rfl (w64 (by omega) (by omega))) rfl rfl rfl ?_
  refine sM ?_
  refine SeqK.nil ?_
  first | with_reducible refine LoopW.again ?_ | with_reducible refine eth_n (LoopW.again ?_) | with_reducible refine eb_n (eth_n (LoopW.again ?_)) | with_reducible refine eth_n (eb_n (eth_n (LoopW.again ?_)))
  refine sR ?_
  refine SeqK.q (q_lss rfl rfl rfl) rfl rfl rfl ?_
  refine SeqK.nil ?_
  refine AW.seq ?_
  refine AW.condT rfl ?_
  refine AW.skip ?_
  refine AW.seq ?_
  refine AW.block ?_
  refine sR ?_
  refine SeqK.q (q_index _ rfl Fx.sl129 rfl rfl (by omega) (rfl)) rfl rfl rfl ?_
  refine SeqK.q (q_load (.a _) rfl Fx.ty23 rfl rfl rfl) rfl rfl rfl ?_
  refine sA ?_
  refine SeqK.nil ?_
  refine sR ?_
  refine sM ?_
  refine sM ?_
  refine SeqK.q (q_len rfl Fx.un23 rfl) rfl rfl rfl ?_
  refine SeqK.q (q_add _ rfl rfl rfl ((rfl : IntKind.i64.wrap _ = 0))) rfl rfl rfl ?_
  refine sA ?_
  refine SeqK.nil ?_
  refine sR ?_
  refine sM ?_
  refine SeqK.q (q_lss rfl rfl rfl) rfl rfl rfl ?_
  refine SeqK.nil ?_
  refine AW.condD rfl (fun h20 => ?_) (fun h20 => ?_)
  ·
   exfalso; simp at h20
  ·
   refine AW.skip ?_
   refine AW.reg ?_
   refine SeqK.q (q_add _ rfl rfl rfl (w64 (by omega) (by omega))) rfl rfl rfl ?_
   refine sM ?_
   refine SeqK.nil ?_
   first | with_reducible refine LoopW.again ?_ | with_reducible refine eth_n (LoopW.again ?_) | with_reducible refine eb_n (eth_n (LoopW.again ?_)) | with_reducible refine eth_n (eb_n (eth_n (LoopW.again ?_)))
   refine sR ?_
   refine SeqK.q (q_lss rfl rfl rfl) rfl rfl rfl ?_
   refine SeqK.nil ?_
   refine AW.seq ?_
   refine AW.condF rfl ?_
   refine AW.exit ?_
   refine eth_e ?_
   refine eth_e ?_
   refine exit_here ?_
   refine sR ?_
   refine sM ?_
   refine SeqK.q (q_call _ rfl Fx.fn77 rfl (growA_0) rfl) rfl rfl rfl ?_
   refine sA ?_
   refine SeqK.nil ?_
   refine AW.seq ?_
   refine sR ?_
   refine sM ?_
   refine SeqK.q (q_len rfl Fx.un129 rfl) rfl rfl rfl ?_
   refine sM ?_
   refine SeqK.nil ?_
   refine AW.block ?_
   refine AW.unroll ?_
   refine sR ?_
   refine SeqK.q (q_lss rfl rfl rfl) rfl rfl rfl ?_
   refine SeqK.nil ?_
   refine AW.seq ?_
   refine AW.condT rfl ?_
   refine AW.skip ?_
   refine AW.seq ?_
   refine AW.block ?_
   refine sR ?_
   refine SeqK.q (q_index _ rfl Fx.sl129 rfl rfl (by omega) (rfl)) rfl rfl rfl ?_
   refine SeqK.q (q_load (.a _) rfl Fx.ty23 rfl rfl rfl) rfl rfl rfl ?_
   refine sA ?_
   refine SeqK.nil ?_
   refine AW.reg ?_
   refine sM ?_
   refine sM ?_
   refine SeqK.q (q_appNil rfl Fx.el23 rfl rfl (by simp)) rfl rfl rfl ?_
   refine SeqK.xw 33 rfl XW.toNil ?_
   refine sA ?_
   refine SeqK.nil ?_
   refine AW.reg ?_
   refine SeqK.q (q_add _ rfl rfl rfl (w64 (by omega) (by omega))) rfl rfl rfl ?_
   refine sM ?_
   refine SeqK.nil ?_
   first | with_reducible refine LoopW.again ?_ | with_reducible refine eth_n (LoopW.again ?_) | with_reducible refine eb_n (eth_n (LoopW.again ?_)) | with_reducible refine eth_n (eb_n (eth_n (LoopW.again ?_)))
   refine sR ?_
   refine SeqK.q (q_lss rfl rfl rfl) rfl rfl rfl ?_
   refine SeqK.nil ?_
   refine AW.seq ?_
   refine AW.condT rfl ?_
   refine AW.skip ?_
   refine AW.seq ?_
   refine AW.block ?_
   refine sR ?_
   refine SeqK.q (q_index _ rfl Fx.sl129 rfl rfl (by omega) (rfl)) rfl rfl rfl ?_
   refine SeqK.q (q_load (.a _) rfl Fx.ty23 rfl rfl rfl) rfl rfl rfl ?_
   refine sA ?_
   refine SeqK.nil ?_
   refine AW.reg ?_
   refine sM ?_
   refine sM ?_
   refine SeqK.q (q_appNil rfl Fx.el23 rfl rfl (by simp)) rfl rfl rfl ?_
   refine SeqK.xw 33 rfl XW.toNil ?_
   refine sA ?_
   refine SeqK.nil ?_
   refine AW.reg ?_
   refine SeqK.q (q_add _ rfl rfl rfl (w64 (by omega) (by omega))) rfl rfl rfl ?_
   refine sM ?_
   refine SeqK.nil ?_
   first | with_reducible refine LoopW.again ?_ | with_reducible refine eth_n (LoopW.again ?_) | with_reducible refine eb_n (eth_n (LoopW.again ?_)) | with_reducible refine eth_n (eb_n (eth_n (LoopW.again ?_)))
   refine sR ?_
   refine SeqK.q (q_lss rfl rfl rfl) rfl rfl rfl ?_
   refine SeqK.nil ?_
   refine AW.seq ?_
   refine AW.condF rfl ?_
   refine AW.exit ?_
   refine eth_e ?_
   refine eth_e ?_
   refine exit_here ?_
   refine sR ?_
   refine sM ?_
   refine sA ?_
   refine SeqK.nil ?_
   refine AW.row 2 82 4 rfl (fun k0 hk0 => ?_)
   refine AW.ret ?_
   exact fin_x (x := .c _) (_) (.tmp rfl .nil) rfl (fun _ _ h => h) (⟨k0, hk0, rfl, rfl⟩)

set_option maxHeartbeats 4000000 in
set_option maxRecDepth 20000 in
theorem catA_a (H : Heap) (a b : List Ax) (hl : a.length + b.length ≤ 1000000) (ha : a ≠ []) : E.Spec Try.prog 44 [.a (.t (.sl .nn 1 [[.sl .un 4 (a.map axT)], [.sl .un 4 (b.map axT)]]))] H fun x H' => ∃ k, H k = none ∧ x = .c (.a (.os k 0 (a ++ b).length 4)) ∧ H' = upd H k (some (.row 82 4 (((a ++ b).map axT).flatten.map .t))) := by
 have ha0 := List.length_pos_iff.2 ha
 refine Spec.enter Try.func44 rfl ?_
 refine AW.wk (Wk.keep 36 [(0, .c (.a (.t (.sl .nn 1 [[.sl .un 4 (a.map axT)], [.sl .un 4 (b.map axT)]]))))] [] (H) rfl ⟨rfl, trivial⟩ trivial (fun _ _ h => h) rfl) ?_
 refine sR ?_
 refine sA ?_
 refine SeqK.nil ?_
 refine sR ?_
 refine sA ?_
 refine SeqK.nil ?_
 refine AW.seq ?_
 refine sR ?_
 refine sM ?_
 refine SeqK.q (q_len rfl Fx.un129 rfl) rfl rfl rfl ?_
 refine sM ?_
 refine SeqK.nil ?_
 refine AW.block ?_
 refine AW.unroll ?_
 refine sR ?_
 refine SeqK.q (q_lss rfl rfl rfl) rfl rfl rfl ?_
 refine SeqK.nil ?_
 refine AW.seq ?_
 refine AW.condT rfl ?_
 refine AW.skip ?_
 refine AW.seq ?_
 refine AW.block ?_
 refine sR ?_
 refine SeqK.q (q_index _ rfl Fx.sl129 rfl rfl (by omega) (rfl)) rfl rfl rfl ?_
 refine SeqK.q (q_load (.a _) rfl Fx.ty23 rfl rfl rfl) rfl rfl rfl ?_
 refine sA ?_
 refine SeqK.nil ?_
 refine sR ?_
 refine sM ?_
 refine sM ?_
 refine SeqK.q (q_len rfl Fx.un23 rfl) rfl rfl rfl ?_
 refine SeqK.q (q_add _ rfl rfl rfl ((by rw [List.length_map, w64 (by omega) (by omega)]; omega : IntKind.i64.wrap _ = ((a.length : Nat) : Int)))) rfl rfl rfl ?_
 refine sA ?_
 refine SeqK.nil ?_
 refine sR ?_
 refine sM ?_
 refine SeqK.q (q_lss rfl rfl rfl) rfl rfl rfl ?_
 refine SeqK.nil ?_
 refine AW.condD rfl (fun h20 => ?_) (fun h20 => ?_)
 ·
  exfalso; omega
 ·
  refine AW.skip ?_
  refine AW.reg ?_
  refine SeqK.q (q_add _ rfl rfl rfl (w64 (by omega) (by omega))) rfl rfl rfl ?_
  refine sM ?_
  refine SeqK.nil ?_
  first | with_reducible refine LoopW.again ?_ | with_reducible refine eth_n (LoopW.again ?_) | with_reducible refine eb_n (eth_n (LoopW.again ?_)) | with_reducible refine eth_n (eb_n (eth_n (LoopW.again ?_)))
  refine sR ?_
  refine SeqK.q (q_lss rfl rfl rfl) rfl rfl rfl ?_
  refine SeqK.nil ?_
  refine AW.seq ?_
  refine AW.condT rfl ?_
  refine AW.skip ?_
  refine AW.seq ?_
  refine AW.block ?_
  refine sR ?_
  refine SeqK.q (q_index _ rfl Fx.sl129 rfl rfl (by omega) (rfl)) rfl rfl rfl ?_
  refine SeqK.q (q_load (.a _) rfl Fx.ty23 rfl rfl rfl) rfl rfl rfl ?_
  refine sA ?_
  refine SeqK.nil ?_
  refine sR ?_
  refine sM ?_
  refine sM ?_
  refine SeqK.q (q_len rfl Fx.un23 rfl) rfl rfl rfl ?_
  refine SeqK.q (q_add _ rfl rfl rfl ((by rw [List.length_map, w64 (by omega) (by omega)]; omega : IntKind.i64.wrap _ = ((a.length + b.length : Nat) : Int)))) rfl rfl rfl ?_
  refine sA ?_
  refine SeqK.nil ?_
  refine sR ?_
  refine sM ?_
  refine SeqK.q (q_lss rfl rfl rfl) rfl rfl rfl ?_
  refine SeqK.nil ?_
  refine AW.condD rfl (fun h20 => ?_) (fun h20 => ?_)
  ·
   exfalso; omega
  ·
   refine AW.skip ?_
   refine AW.reg ?_
   refine SeqK.q (q_add _ rfl rfl rfl (w64 (by omega) (by omega))) rfl rfl rfl ?_
   refine sM ?_
   refine SeqK.nil ?_
   first | with_reducible refine LoopW.again ?_ | with_reducible refine eth_n (LoopW.again ?_) | with_reducible refine eb_n (eth_n (LoopW.again ?_)) | with_reducible refine eth_n (eb_n (eth_n (LoopW.again ?_)))
   refine sR ?_
   refine SeqK.q (q_lss rfl rfl rfl) rfl rfl rfl ?_
   refine SeqK.nil ?_
   refine AW.seq ?_
   refine AW.condF rfl ?_
   refine AW.exit ?_
   refine eth_e ?_
   refine eth_e ?_
   refine exit_here ?_
   refine sR ?_
   refine sM ?_
   refine SeqK.callE rfl rfl rfl rfl Fx.fn77 rfl (growA_any _ _ (by omega) (by omega)) (fun _ _ ⟨k, _, h, _⟩ => by rw [h]; rfl) (fun x24 H24 q24 => ?_)
   obtain ⟨kg, hkg, rfl, rfl⟩ := q24
   refine sA ?_
   refine SeqK.nil ?_
   refine AW.seq ?_
   refine sR ?_
   refine sM ?_
   refine SeqK.q (q_len rfl Fx.un129 rfl) rfl rfl rfl ?_
   refine sM ?_
   refine SeqK.nil ?_
   refine AW.block ?_
   refine AW.unroll ?_
   refine sR ?_
   refine SeqK.q (q_lss rfl rfl rfl) rfl rfl rfl ?_
   refine SeqK.nil ?_
   refine AW.seq ?_
   refine AW.condT rfl ?_
   refine AW.skip ?_
   refine AW.seq ?_
   refine AW.block ?_
   refine sR ?_
   refine SeqK.q (q_index _ rfl Fx.sl129 rfl rfl (by omega) (rfl)) rfl rfl rfl ?_
   refine SeqK.q (q_load (.a _) rfl Fx.ty23 rfl rfl rfl) rfl rfl rfl ?_
   refine sA ?_
   refine SeqK.nil ?_
   refine AW.reg ?_
   refine sM ?_
   refine sM ?_
   refine SeqK.any (e_appGS (k := kg) rfl rfl Fx.el23 rfl (upd_same _ _ _) rfl (by rw [List.length_map]; omega) rfl rfl (fun he => absurd he (by simpa using ha)) (fun _ k1 hk1 => ?_))
   obtain ⟨_, hk1⟩ := upd_lt hk1
   rw [upd_back hkg]
   refine sA ?_
   refine SeqK.nil ?_
   refine AW.reg ?_
   refine SeqK.q (q_add _ rfl rfl rfl (w64 (by omega) (by omega))) rfl rfl rfl ?_
   refine sM ?_
   refine SeqK.nil ?_
   first | with_reducible refine LoopW.again ?_ | with_reducible refine eth_n (LoopW.again ?_) | with_reducible refine eb_n (eth_n (LoopW.again ?_)) | with_reducible refine eth_n (eb_n (eth_n (LoopW.again ?_)))
   refine sR ?_
   refine SeqK.q (q_lss rfl rfl rfl) rfl rfl rfl ?_
   refine SeqK.nil ?_
   refine AW.seq ?_
   refine AW.condT rfl ?_
   refine AW.skip ?_
   refine AW.seq ?_
   refine AW.block ?_
   refine sR ?_
   refine SeqK.q (q_index _ rfl Fx.sl129 rfl rfl (by omega) (rfl)) rfl rfl rfl ?_
   refine SeqK.q (q_load (.a _) rfl Fx.ty23 rfl rfl rfl) rfl rfl rfl ?_
   refine sA ?_
   refine SeqK.nil ?_
   refine AW.reg ?_
   refine sM ?_
   refine sM ?_
   refine SeqK.appR1 rfl hk1 rfl Fx.el23 rfl (by rw [List.length_map, pAT, List.length_map]) rfl (by rw [List.length_map, List.length_map]; omega) rfl rfl (fun k2 hk2 => ?_)
   refine sA ?_
   refine SeqK.nil ?_
   refine AW.reg ?_
   refine SeqK.q (q_add _ rfl rfl rfl (w64 (by omega) (by omega))) rfl rfl rfl ?_
   refine sM ?_
   refine SeqK.nil ?_
   first | with_reducible refine LoopW.again ?_ | with_reducible refine eth_n (LoopW.again ?_) | with_reducible refine eb_n (eth_n (LoopW.again ?_)) | with_reducible refine eth_n (eb_n (eth_n (LoopW.again ?_)))
   refine sR ?_
   refine SeqK.q (q_lss rfl rfl rfl) rfl rfl rfl ?_
   refine SeqK.nil ?_
   refine AW.seq ?_
   refine AW.condF rfl ?_
   refine AW.exit ?_
   refine eth_e ?_
   refine eth_e ?_
   refine exit_here ?_
   refine sR ?_
   refine sM ?_
   refine sA ?_
   refine SeqK.nil ?_
   refine AW.ret ?_
   exact fin_x (x := .c _) (_) (.tmp rfl .nil) rfl (fun _ _ h => h) (⟨k2, hk2, by rw [show (a ++ b).length = (a.map axT).length + (b.map axT).length by simp], by rw [show ((a ++ b).map axT).flatten.map A.t = (a.map axT).flatten.map A.t ++ (b.map axT).flatten.map A.t by simp]⟩)

set_option maxHeartbeats 4000000 in
set_option maxRecDepth 20000 in
theorem catA_b (H : Heap) (b : List Ax) (hl : b.length ≤ 1000000) (hb : b ≠ []) : E.Spec Try.prog 44 [.a (.t (.sl .nn 1 [[.sl .un 4 (([] : List Ax).map axT)], [.sl .un 4 (b.map axT)]]))] H fun x H' => ∃ k, H k = none ∧ x = .c (.a (.os k 0 b.length 4)) ∧ H' = upd H k (some (.row 82 4 ((b.map axT).flatten.map .t))) := by
 have hb0 := List.length_pos_iff.2 hb
 refine Spec.enter Try.func44 rfl ?_
 refine AW.wk (Wk.keep 36 [(0, .c (.a (.t (.sl .nn 1 [[.sl .un 4 (([] : List Ax).map axT)], [.sl .un 4 (b.map axT)]]))))] [] (H) rfl ⟨rfl, trivial⟩ trivial (fun _ _ h => h) rfl) ?_
 refine sR ?_
 refine sA ?_
 refine SeqK.nil ?_
 refine sR ?_
 refine sA ?_
 refine SeqK.nil ?_
 refine AW.seq ?_
 refine sR ?_
 refine sM ?_
 refine SeqK.q (q_len rfl Fx.un129 rfl) rfl rfl rfl ?_
 refine sM ?_
 refine SeqK.nil ?_
 refine AW.block ?_
 refine AW.unroll ?_
 refine sR ?_
 refine SeqK.q (q_lss rfl rfl rfl) rfl rfl rfl ?_
 refine SeqK.nil ?_
 refine AW.seq ?_
 refine AW.condT rfl ?_
 refine AW.skip ?_
 refine AW.seq ?_
 refine AW.block ?_
 refine sR ?_
 refine SeqK.q (q_index _ rfl Fx.sl129 rfl rfl (by omega) (rfl)) rfl rfl rfl ?_
 refine SeqK.q (q_load (.a _) rfl Fx.ty23 rfl rfl rfl) rfl rfl rfl ?_
 refine sA ?_
 refine SeqK.nil ?_
 refine sR ?_
 refine sM ?_
 refine sM ?_
 refine SeqK.q (q_len rfl Fx.un23 rfl) rfl rfl rfl ?_
 refine SeqK.q (q_add _ rfl rfl rfl ((by rw [w64 (by simp) (by simp)]; simp : IntKind.i64.wrap _ = 0))) rfl rfl rfl ?_
 refine sA ?_
 refine SeqK.nil ?_
 refine sR ?_
 refine sM ?_
 refine SeqK.q (q_lss rfl rfl rfl) rfl rfl rfl ?_
 refine SeqK.nil ?_
 refine AW.condD rfl (fun h20 => ?_) (fun h20 => ?_)
 ·
  simp at h20
 ·
  refine AW.skip ?_
  refine AW.reg ?_
  refine SeqK.q (q_add _ rfl rfl rfl (w64 (by omega) (by omega))) rfl rfl rfl ?_
  refine sM ?_
  refine SeqK.nil ?_
  first | with_reducible refine LoopW.again ?_ | with_reducible refine eth_n (LoopW.again ?_) | with_reducible refine eb_n (eth_n (LoopW.again ?_)) | with_reducible refine eth_n (eb_n (eth_n (LoopW.again ?_)))
  refine sR ?_
  refine SeqK.q (q_lss rfl rfl rfl) rfl rfl rfl ?_
  refine SeqK.nil ?_
  refine AW.seq ?_
  refine AW.condT rfl ?_
  refine AW.skip ?_
  refine AW.seq ?_
  refine AW.block ?_
  refine sR ?_
  refine SeqK.q (q_index _ rfl Fx.sl129 rfl rfl (by omega) (rfl)) rfl rfl rfl ?_
  refine SeqK.q (q_load (.a _) rfl Fx.ty23 rfl rfl rfl) rfl rfl rfl ?_
  refine sA ?_
  refine SeqK.nil ?_
  refine sR ?_
  refine sM ?_
  refine sM ?_
  refine SeqK.q (q_len rfl Fx.un23 rfl) rfl rfl rfl ?_
  refine SeqK.q (q_add _ rfl rfl rfl ((by rw [List.length_map, w64 (by omega) (by omega)]; omega : IntKind.i64.wrap _ = ((b.length : Nat) : Int)))) rfl rfl rfl ?_
  refine sA ?_
  refine SeqK.nil ?_
  refine sR ?_
  refine sM ?_
  refine SeqK.q (q_lss rfl rfl rfl) rfl rfl rfl ?_
  refine SeqK.nil ?_
  refine AW.condD rfl (fun h20 => ?_) (fun h20 => ?_)
  ·
   exfalso; omega
  ·
   refine AW.skip ?_
   refine AW.reg ?_
   refine SeqK.q (q_add _ rfl rfl rfl (w64 (by omega) (by omega))) rfl rfl rfl ?_
   refine sM ?_
   refine SeqK.nil ?_
   first | with_reducible refine LoopW.again ?_ | with_reducible refine eth_n (LoopW.again ?_) | with_reducible refine eb_n (eth_n (LoopW.again ?_)) | with_reducible refine eth_n (eb_n (eth_n (LoopW.again ?_)))
   refine sR ?_
   refine SeqK.q (q_lss rfl rfl rfl) rfl rfl rfl ?_
   refine SeqK.nil ?_
   refine AW.seq ?_
   refine AW.condF rfl ?_
   refine AW.exit ?_
   refine eth_e ?_
   refine eth_e ?_
   refine exit_here ?_
   refine sR ?_
   refine sM ?_
   refine SeqK.callE rfl rfl rfl rfl Fx.fn77 rfl (growA_any _ _ (by omega) (by omega)) (fun _ _ ⟨k, _, h, _⟩ => by rw [h]; rfl) (fun x24 H24 q24 => ?_)
   obtain ⟨kg, hkg, rfl, rfl⟩ := q24
   refine sA ?_
   refine SeqK.nil ?_
   refine AW.seq ?_
   refine sR ?_
   refine sM ?_
   refine SeqK.q (q_len rfl Fx.un129 rfl) rfl rfl rfl ?_
   refine sM ?_
   refine SeqK.nil ?_
   refine AW.block ?_
   refine AW.unroll ?_
   refine sR ?_
   refine SeqK.q (q_lss rfl rfl rfl) rfl rfl rfl ?_
   refine SeqK.nil ?_
   refine AW.seq ?_
   refine AW.condT rfl ?_
   refine AW.skip ?_
   refine AW.seq ?_
   refine AW.block ?_
   refine sR ?_
   refine SeqK.q (q_index _ rfl Fx.sl129 rfl rfl (by omega) (rfl)) rfl rfl rfl ?_
   refine SeqK.q (q_load (.a _) rfl Fx.ty23 rfl rfl rfl) rfl rfl rfl ?_
   refine sA ?_
   refine SeqK.nil ?_
   refine AW.reg ?_
   refine sM ?_
   refine sM ?_
   refine SeqK.any (e_appGS (k := kg) rfl rfl Fx.el23 rfl (upd_same _ _ _) rfl (by simp) rfl rfl (fun _ k1 hk1 => ?_) (fun he => absurd rfl he))
   obtain ⟨_, hk1⟩ := upd_lt hk1
   rw [upd_back hkg]
   refine sA ?_
   refine SeqK.nil ?_
   refine AW.reg ?_
   refine SeqK.q (q_add _ rfl rfl rfl (w64 (by omega) (by omega))) rfl rfl rfl ?_
   refine sM ?_
   refine SeqK.nil ?_
   first | with_reducible refine LoopW.again ?_ | with_reducible refine eth_n (LoopW.again ?_) | with_reducible refine eb_n (eth_n (LoopW.again ?_)) | with_reducible refine eth_n (eb_n (eth_n (LoopW.again ?_)))
   refine sR ?_
   refine SeqK.q (q_lss rfl rfl rfl) rfl rfl rfl ?_
   refine SeqK.nil ?_
   refine AW.seq ?_
   refine AW.condT rfl ?_
   refine AW.skip ?_
   refine AW.seq ?_
   refine AW.block ?_
   refine sR ?_
   refine SeqK.q (q_index _ rfl Fx.sl129 rfl rfl (by omega) (rfl)) rfl rfl rfl ?_
   refine SeqK.q (q_load (.a _) rfl Fx.ty23 rfl rfl rfl) rfl rfl rfl ?_
   refine sA ?_
   refine SeqK.nil ?_
   refine AW.reg ?_
   refine sM ?_
   refine sM ?_
   refine SeqK.any (e_appGS (k := k1) rfl rfl Fx.el23 rfl (upd_same _ _ _) rfl (by rw [List.length_map]; omega) rfl rfl (fun he => absurd he (by simpa using hb)) (fun _ k2 hk2 => ?_))
   obtain ⟨_, hk2⟩ := upd_lt hk2
   rw [upd_back hk1]
   refine sA ?_
   refine SeqK.nil ?_
   refine AW.reg ?_
   refine SeqK.q (q_add _ rfl rfl rfl (w64 (by omega) (by omega))) rfl rfl rfl ?_
   refine sM ?_
   refine SeqK.nil ?_
   first | with_reducible refine LoopW.again ?_ | with_reducible refine eth_n (LoopW.again ?_) | with_reducible refine eb_n (eth_n (LoopW.again ?_)) | with_reducible refine eth_n (eb_n (eth_n (LoopW.again ?_)))
   refine sR ?_
   refine SeqK.q (q_lss rfl rfl rfl) rfl rfl rfl ?_
   refine SeqK.nil ?_
   refine AW.seq ?_
   refine AW.condF rfl ?_
   refine AW.exit ?_
   refine eth_e ?_
   refine eth_e ?_
   refine exit_here ?_
   refine sR ?_
   refine sM ?_
   refine sA ?_
   refine SeqK.nil ?_
   refine AW.ret ?_
   exact fin_x (x := .c _) (_) (.tmp rfl .nil) rfl (fun _ _ h => h) (⟨k2, hk2, by rw [show b.length = (b.map axT).length by simp], rfl⟩)

theorem catA_row (H : Heap) (a b : List Ax) (hl : a.length + b.length ≤ 1000000) : E.Spec Try.prog 44 [.a (.t (.sl .nn 1 [[.sl .un 4 (a.map axT)], [.sl .un 4 (b.map axT)]]))] H fun x H' => ∃ k, H k = none ∧ x = .c (.a (.os k 0 (a ++ b).length 4)) ∧ H' = upd H k (some (.row 82 4 (((a ++ b).map axT).flatten.map .t))) := by
  by_cases ha : a = []
  · subst ha
    by_cases hb : b = []
    · subst hb; exact catA_00 H
    · exact catA_b H b (by simpa using hl) hb
  · exact catA_a H a b hl ha
theorem catA_any (a b : List Ax) (hl : a.length + b.length ≤ 1000000) : Pure Try.prog 44 [.a (.t (.sl .nn 1 [[.sl .un 4 (a.map axT)], [.sl .un 4 (b.map axT)]]))] (.c (.a (.t (.sl .un 4 ((a ++ b).map axT))))) := by
  intro H
  refine E.Spec.freeze (catA_row H a b hl) fun x H' h => ?_
  obtain ⟨k, hk, rfl, rfl⟩ := h
  refine ⟨k, 4, 82, (a ++ b).map axT, upd_same _ _ _, fun z hz => by obtain ⟨q, _, rfl⟩ := List.mem_map.1 hz; rfl, by decide, ?_, upd_back hk⟩
  simp [fzX, fzC, fzA]

def layC_ren : Go.Shelf.Ren := ⟨fun | 4 => 78 | n => n, fun | 22 => 24 | 25 => 76 | n => n, fun | n => n⟩
theorem layC : Go.Proofs.Lays8.n4 Try.prog layC_ren := {
  mixed := by kernel_rfl
  f4 := ⟨"slices.Grow[[]disjoint/api.Constraint,disjoint/api.Constraint]", by decide, Try.func78.trans (congrArg some (by kernel_rfl))⟩
  t0 := Try.underlying0
  a0 := Try.isAgg0
  z0 := Try.sizeOf0
  v0 := Try.zeroValue0
  t3 := Try.underlying3
  a3 := Try.isAgg3
  z3 := Try.sizeOf3
  v3 := Try.zeroValue3
  t4 := Try.underlying4
  a4 := Try.isAgg4
  z4 := Try.sizeOf4
  v4 := Try.zeroValue4
  t9 := Try.underlying9
  a9 := Try.isAgg9
  z9 := Try.sizeOf9
  v9 := Try.zeroValue9
  t20 := Try.underlying20
  a20 := Try.isAgg20
  z20 := Try.sizeOf20
  v20 := Try.zeroValue20
  t22 := Try.underlying24
  a22 := Try.isAgg24
  z22 := Try.sizeOf24
  v22 := Try.zeroValue24 }
theorem growC_any (H : Heap) (N : Nat) (h0 : 0 < N) (hb : N * 40 ≤ 140737488355328) : E.Spec Try.prog 78 [.a (.t (.v (.slice none 0 0))), iC (N : Int)] H fun x H' => ∃ k, H k = none ∧ x = .c (.a (.gs k 3)) ∧ H' = upd H k (some (.new 76 3)) := by
  obtain ⟨i, z, g1, g2, g3, g4, g5, g6, g7⟩ := elB_get Fx.el24
  refine E.Spec.fresh [.slice none 0 0, .int .i64 (N : Int)] (y := .new 76 3) (x := fun k => .c (.a (.gs k 3))) (fun _ => rfl) (fun w => ?_) H
  refine (Any8.slices_Grow_grow layC i z g2 g6 (by omega) none 0 0 N [] w (Nat.le_refl _) (by omega) (by rw [g5]; omega) (by omega) (by simp) (fun _ => rfl) (fun a h => by cases h)).mono ?_
  rintro e w' ⟨rfl, rfl⟩
  refine ⟨_, w.heap.size, grownCap w (0 + N) 0 (layC_ren.t 25), rfl, rfl, rfl, rfl, ?_, fun b' hb' => ?_, Nat.le_refl _, fun c hu => ?_, fun c k hk => ?_⟩
  · show w.drew.heap.size ≤ _
    show w.heap.size ≤ (w.heap.push _).size
    rw [Array.size_push]; omega
  · exact Below.heap_alloc w.drew _ b' hb'
  · refine ⟨_, heap_new w.drew _, ?_, grownCap_le_maxLen w _ _ _ (by unfold maxLen; omega), hu⟩
    have h9 := grownCap_ge w (0 + N) 0 (layC_ren.t 25)
    rw [Array.size_append, Array.size_append, size_zeroCells, size_zeroCells, g7]
    show 0 + (0 + N - 0) * 3 + (grownCap w (0 + N) 0 (layC_ren.t 25) - (0 + N)) * 3 = grownCap w (0 + N) 0 (layC_ren.t 25) * 3
    omega
  · exact .gs hk
theorem pCT : ∀ p : List Ct, (p.map ctT).flatten.length = p.length * 3
  | [] => rfl
  | a :: r => by
    have := pCT r
    simp only [List.map_cons, List.flatten_cons, List.length_append, this, List.length_cons, List.length_nil]; omega
theorem growC_0 : Pure Try.prog 78 [.a (.t (.v (.slice none 0 0))), iC 0] (.c (.a (.t (.v (.slice none 0 0))))) :=
  Pure.of_calls [.slice none 0 0, .int .i64 0] (fun w => Any8.slices_Grow_room layC none 0 0 0 w (by omega) (by omega) (by omega) (by omega)) fun c => .t (.v rfl)

set_option maxHeartbeats 4000000 in
set_option maxRecDepth 20000 in
theorem catC_00 (H : Heap) : E.Spec Try.prog 45 [.a (.t (.sl .nn 1 [[.sl .un 3 (([] : List Ct).map ctT)], [.sl .un 3 (([] : List Ct).map ctT)]]))] H fun x H' => ∃ k, H k = none ∧ x = .c (.a (.os k 0 ([] : List Ct).length 3)) ∧ H' = upd H k (some (.row 76 3 ((([] : List Ct).map ctT).flatten.map .t))) := by
 refine Spec.enter Try.func45 rfl ?_
 refine AW.wk (Wk.keep 36 [(0, .c (.a (.t (.sl .nn 1 [[.sl .un 3 (([] : List Ct).map ctT)], [.sl .un 3 (([] : List Ct).map ctT)]]))))] [] (H) rfl ⟨rfl, trivial⟩ trivial (fun _ _ h => h) rfl) ?_
 refine sR ?_
 refine sA ?_
 refine SeqK.nil ?_
 refine sR ?_
 refine sA ?_
 refine SeqK.nil ?_
 refine AW.seq ?_
 refine sR ?_
 refine sM ?_
 refine SeqK.q (q_len rfl Fx.un131 rfl) rfl rfl rfl ?_
 refine sM ?_
 refine SeqK.nil ?_
 refine AW.block ?_
 refine AW.unroll ?_
 refine sR ?_
 refine SeqK.q (q_lss rfl rfl rfl) rfl rfl rfl ?_
 refine SeqK.nil ?_
 refine AW.seq ?_
 refine AW.condT rfl ?_
 refine AW.skip ?_
 refine AW.seq ?_
 refine AW.block ?_
 refine sR ?_
 refine SeqK.q (q_index _ rfl Fx.sl131 rfl rfl (by omega) (rfl)) rfl rfl rfl ?_
 refine SeqK.q (q_load (.a _) rfl Fx.ty24 rfl rfl rfl) rfl rfl rfl ?_
 refine sA ?_
 refine SeqK.nil ?_
 refine sR ?_
 refine sM ?_
 refine sM ?_
 refine SeqK.q (q_len rfl Fx.un24 rfl) rfl rfl rfl ?_
 refine SeqK.q (q_add _ rfl rfl rfl ((rfl : IntKind.i64.wrap _ = 0))) rfl rfl rfl ?_
 refine sA ?_
 refine SeqK.nil ?_
 refine sR ?_
 refine sM ?_
 refine SeqK.q (q_lss rfl rfl rfl) rfl rfl rfl ?_
 refine SeqK.nil ?_
 refine AW.condD rfl (fun h20 => ?_) (fun h20 => ?_)
 ·
  exfalso; simp at h20
 ·
  refine AW.skip ?_
  refine AW.reg ?_
  refine SeqK.q (q_add _ rfl rfl rfl (w64 (by omega) (by omega))) rfl rfl rfl ?_
  refine sM ?_
  refine SeqK.nil ?_
  first | with_reducible refine LoopW.again ?_ | with_reducible refine eth_n (LoopW.again ?_) | with_reducible refine eb_n (eth_n (LoopW.again ?_)) | with_reducible refine eth_n (eb_n (eth_n (LoopW.again ?_)))
  refine sR ?_
  refine SeqK.q (q_lss rfl rfl rfl) rfl rfl rfl ?_
  refine SeqK.nil ?_
  refine AW.seq ?_
  refine AW.condT rfl ?_
  refine AW.skip ?_
  refine AW.seq ?_
  refine AW.block ?_
  refine sR ?_
  refine SeqK.q (q_index _ rfl Fx.sl131 rfl rfl (by omega) (rfl)) rfl rfl rfl ?_
  refine SeqK.q (q_load (.a _) rfl Fx.ty24 rfl rfl rfl) rfl rfl rfl ?_
  refine sA ?_
  refine SeqK.nil ?_
  refine sR ?_
  refine sM ?_
  refine sM ?_
  refine SeqK.q (q_len rfl Fx.un24 rfl) rfl rfl rfl ?_
  refine SeqK.q (q_add _ rfl rfl rfl ((rfl : IntKind.i64.wrap _ = 0))) rfl rfl rfl ?_
  refine sA ?_
  refine SeqK.nil ?_
  refine sR ?_
  refine sM ?_
  refine SeqK.q (q_lss rfl rfl rfl) rfl rfl rfl ?_
  refine SeqK.nil ?_
  refine AW.condD rfl (fun h20 => ?_) (fun h20 => ?_)
  ·
   exfalso; simp at h20
  ·
   refine AW.skip ?_
   refine AW.reg ?_
   refine SeqK.q (q_add _ rfl rfl rfl (w64 (by omega) (by omega))) rfl rfl rfl ?_
   refine sM ?_
   refine SeqK.nil ?_
   first | with_reducible refine LoopW.again ?_ | with_reducible refine eth_n (LoopW.again ?_) | with_reducible refine eb_n (eth_n (LoopW.again ?_)) | with_reducible refine eth_n (eb_n (eth_n (LoopW.again ?_)))
   refine sR ?_
   refine SeqK.q (q_lss rfl rfl rfl) rfl rfl rfl ?_
   refine SeqK.nil ?_
   refine AW.seq ?_
   refine AW.condF rfl ?_
   refine AW.exit ?_
   refine eth_e ?_
   refine eth_e ?_
   refine exit_here ?_
   refine sR ?_
   refine sM ?_
   refine SeqK.q (q_call _ rfl Fx.fn78 rfl (growC_0) rfl) rfl rfl rfl ?_
   refine sA ?_
   refine SeqK.nil ?_
   refine AW.seq ?_
   refine sR ?_
   refine sM ?_
   refine SeqK.q (q_len rfl Fx.un131 rfl) rfl rfl rfl ?_
   refine sM ?_
   refine SeqK.nil ?_
   refine AW.block ?_
   refine AW.unroll ?_
   refine sR ?_
   refine SeqK.q (q_lss rfl rfl rfl) rfl rfl rfl ?_
   refine SeqK.nil ?_
   refine AW.seq ?_
   refine AW.condT rfl ?_
   refine AW.skip ?_
   refine AW.seq ?_
   refine AW.block ?_
   refine sR ?_
   refine SeqK.q (q_index _ rfl Fx.sl131 rfl rfl (by omega) (rfl)) rfl rfl rfl ?_
   refine SeqK.q (q_load (.a _) rfl Fx.ty24 rfl rfl rfl) rfl rfl rfl ?_
   refine sA ?_
   refine SeqK.nil ?_
   refine AW.reg ?_
   refine sM ?_
   refine sM ?_
   refine SeqK.q (q_appNil rfl Fx.el24 rfl rfl (by simp)) rfl rfl rfl ?_
   refine SeqK.xw 33 rfl XW.toNil ?_
   refine sA ?_
   refine SeqK.nil ?_
   refine AW.reg ?_
   refine SeqK.q (q_add _ rfl rfl rfl (w64 (by omega) (by omega))) rfl rfl rfl ?_
   refine sM ?_
   refine SeqK.nil ?_
   first | with_reducible refine LoopW.again ?_ | with_reducible refine eth_n (LoopW.again ?_) | with_reducible refine eb_n (eth_n (LoopW.again ?_)) | with_reducible refine eth_n (eb_n (eth_n (LoopW.again ?_)))
   refine sR ?_
   refine SeqK.q (q_lss rfl rfl rfl) rfl rfl rfl ?_
   refine SeqK.nil ?_
   refine AW.seq ?_
   refine AW.condT rfl ?_
   refine AW.skip ?_
   refine AW.seq ?_
   refine AW.block ?_
   refine sR ?_
   refine SeqK.q (q_index _ rfl Fx.sl131 rfl rfl (by omega) (rfl)) rfl rfl rfl ?_
   refine SeqK.q (q_load (.a _) rfl Fx.ty24 rfl rfl rfl) rfl rfl rfl ?_
   refine sA ?_
   refine SeqK.nil ?_
   refine AW.reg ?_
   refine sM ?_
   refine sM ?_
   refine SeqK.q (q_appNil rfl Fx.el24 rfl rfl (by simp)) rfl rfl rfl ?_
   refine SeqK.xw 33 rfl XW.toNil ?_
   refine sA ?_
   refine SeqK.nil ?_
   refine AW.reg ?_
   refine SeqK.q (q_add _ rfl rfl rfl (w64 (by omega) (by omega))) rfl rfl rfl ?_
   refine sM ?_
   refine SeqK.nil ?_
   first | with_reducible refine LoopW.again ?_ | with_reducible refine eth_n (LoopW.again ?_) | with_reducible refine eb_n (eth_n (LoopW.again ?_)) | with_reducible refine eth_n (eb_n (eth_n (LoopW.again ?_)))
   refine sR ?_
   refine SeqK.q (q_lss rfl rfl rfl) rfl rfl rfl ?_
   refine SeqK.nil ?_
   refine AW.seq ?_
   refine AW.condF rfl ?_
   refine AW.exit ?_
   refine eth_e ?_
   refine eth_e ?_
   refine exit_here ?_
   refine sR ?_
   refine sM ?_
   refine sA ?_
   refine SeqK.nil ?_
   refine AW.row 2 76 3 rfl (fun k0 hk0 => ?_)
   refine AW.ret ?_
   exact fin_x (x := .c _) (_) (.tmp rfl .nil) rfl (fun _ _ h => h) (⟨k0, hk0, rfl, rfl⟩)

set_option maxHeartbeats 4000000 in
set_option maxRecDepth 20000 in
theorem catC_a (H : Heap) (a b : List Ct) (hl : a.length + b.length ≤ 1000000) (ha : a ≠ []) : E.Spec Try.prog 45 [.a (.t (.sl .nn 1 [[.sl .un 3 (a.map ctT)], [.sl .un 3 (b.map ctT)]]))] H fun x H' => ∃ k, H k = none ∧ x = .c (.a (.os k 0 (a ++ b).length 3)) ∧ H' = upd H k (some (.row 76 3 (((a ++ b).map ctT).flatten.map .t))) := by
 have ha0 := List.length_pos_iff.2 ha
 refine Spec.enter Try.func45 rfl ?_
 refine AW.wk (Wk.keep 36 [(0, .c (.a (.t (.sl .nn 1 [[.sl .un 3 (a.map ctT)], [.sl .un 3 (b.map ctT)]]))))] [] (H) rfl ⟨rfl, trivial⟩ trivial (fun _ _ h => h) rfl) ?_
 refine sR ?_
 refine sA ?_
 refine SeqK.nil ?_
 refine sR ?_
 refine sA ?_
 refine SeqK.nil ?_
 refine AW.seq ?_
 refine sR ?_
 refine sM ?_
 refine SeqK.q (q_len rfl Fx.un131 rfl) rfl rfl rfl ?_
 refine sM ?_
 refine SeqK.nil ?_
 refine AW.block ?_
 refine AW.unroll ?_
 refine sR ?_
 refine SeqK.q (q_lss rfl rfl rfl) rfl rfl rfl ?_
 refine SeqK.nil ?_
 refine AW.seq ?_
 refine AW.condT rfl ?_
 refine AW.skip ?_
 refine AW.seq ?_
 refine AW.block ?_
 refine sR ?_
 refine SeqK.q (q_index _ rfl Fx.sl131 rfl rfl (by omega) (rfl)) rfl rfl rfl ?_
 refine SeqK.q (q_load (.a _) rfl Fx.ty24 rfl rfl rfl) rfl rfl rfl ?_
 refine sA ?_
 refine SeqK.nil ?_
 refine sR ?_
 refine sM ?_
 refine sM ?_
 refine SeqK.q (q_len rfl Fx.un24 rfl) rfl rfl rfl ?_
 refine SeqK.q (q_add _ rfl rfl rfl ((by rw [List.length_map, w64 (by omega) (by omega)]; omega : IntKind.i64.wrap _ = ((a.length : Nat) : Int)))) rfl rfl rfl ?_
 refine sA ?_
 refine SeqK.nil ?_
 refine sR ?_
 refine sM ?_
 refine SeqK.q (q_lss rfl rfl rfl) rfl rfl rfl ?_
 refine SeqK.nil ?_
 refine AW.condD rfl (fun h20 => ?_) (fun h20 => ?_)
 ·
  exfalso; omega
 ·
  refine AW.skip ?_
  refine AW.reg ?_
  refine SeqK.q (q_add _ rfl rfl rfl (w64 (by omega) (by omega))) rfl rfl rfl ?_
  refine sM ?_
  refine SeqK.nil ?_
  first | with_reducible refine LoopW.again ?_ | with_reducible refine eth_n (LoopW.again ?_) | with_reducible refine eb_n (eth_n (LoopW.again ?_)) | with_reducible refine eth_n (eb_n (eth_n (LoopW.again ?_)))
  refine sR ?_
  refine SeqK.q (q_lss rfl rfl rfl) rfl rfl rfl ?_
  refine SeqK.nil ?_
  refine AW.seq ?_
  refine AW.condT rfl ?_
  refine AW.skip ?_
  refine AW.seq ?_
  refine AW.block ?_
  refine sR ?_
  refine SeqK.q (q_index _ rfl Fx.sl131 rfl rfl (by omega) (rfl)) rfl rfl rfl ?_
  refine SeqK.q (q_load (.a _) rfl Fx.ty24 rfl rfl rfl) rfl rfl rfl ?_
  refine sA ?_
  refine SeqK.nil ?_
  refine sR ?_
  refine sM ?_
  refine sM ?_
  refine SeqK.q (q_len rfl Fx.un24 rfl) rfl rfl rfl ?_
  refine SeqK.q (q_add _ rfl rfl rfl ((by rw [List.length_map, w64 (by omega) (by omega)]; omega : IntKind.i64.wrap _ = ((a.length + b.length : Nat) : Int)))) rfl rfl rfl ?_
  refine sA ?_
  refine SeqK.nil ?_
  refine sR ?_
  refine sM ?_
  refine SeqK.q (q_lss rfl rfl rfl) rfl rfl rfl ?_
  refine SeqK.nil ?_
  refine AW.condD rfl (fun h20 => ?_) (fun h20 => ?_)
  ·
   exfalso; omega
  ·
   refine AW.skip ?_
   refine AW.reg ?_
   refine SeqK.q (q_add _ rfl rfl rfl (w64 (by omega) (by omega))) rfl rfl rfl ?_
   refine sM ?_
   refine SeqK.nil ?_
   first | with_reducible refine LoopW.again ?_ | with_reducible refine eth_n (LoopW.again ?_) | with_reducible refine eb_n (eth_n (LoopW.again ?_)) | with_reducible refine eth_n (eb_n (eth_n (LoopW.again ?_)))
   refine sR ?_
   refine SeqK.q (q_lss rfl rfl rfl) rfl rfl rfl ?_
   refine SeqK.nil ?_
   refine AW.seq ?_
   refine AW.condF rfl ?_
   refine AW.exit ?_
   refine eth_e ?_
   refine eth_e ?_
   refine exit_here ?_
   refine sR ?_
   refine sM ?_
   refine SeqK.callE rfl rfl rfl rfl Fx.fn78 rfl (growC_any _ _ (by omega) (by omega)) (fun _ _ ⟨k, _, h, _⟩ => by rw [h]; rfl) (fun x24 H24 q24 => ?_)
   obtain ⟨kg, hkg, rfl, rfl⟩ := q24
   refine sA ?_
   refine SeqK.nil ?_
   refine AW.seq ?_
   refine sR ?_
   refine sM ?_
   refine SeqK.q (q_len rfl Fx.un131 rfl) rfl rfl rfl ?_
   refine sM ?_
   refine SeqK.nil ?_
   refine AW.block ?_
   refine AW.unroll ?_
   refine sR ?_
   refine SeqK.q (q_lss rfl rfl rfl) rfl rfl rfl ?_
   refine SeqK.nil ?_
   refine AW.seq ?_
   refine AW.condT rfl ?_
   refine AW.skip ?_
   refine AW.seq ?_
   refine AW.block ?_
   refine sR ?_
   refine SeqK.q (q_index _ rfl Fx.sl131 rfl rfl (by omega) (rfl)) rfl rfl rfl ?_
   refine SeqK.q (q_load (.a _) rfl Fx.ty24 rfl rfl rfl) rfl rfl rfl ?_
   refine sA ?_
   refine SeqK.nil ?_
   refine AW.reg ?_
   refine sM ?_
   refine sM ?_
   refine SeqK.any (e_appGS (k := kg) rfl rfl Fx.el24 rfl (upd_same _ _ _) rfl (by rw [List.length_map]; omega) rfl rfl (fun he => absurd he (by simpa using ha)) (fun _ k1 hk1 => ?_))
   obtain ⟨_, hk1⟩ := upd_lt hk1
   rw [upd_back hkg]
   refine sA ?_
   refine SeqK.nil ?_
   refine AW.reg ?_
   refine SeqK.q (q_add _ rfl rfl rfl (w64 (by omega) (by omega))) rfl rfl rfl ?_
   refine sM ?_
   refine SeqK.nil ?_
   first | with_reducible refine LoopW.again ?_ | with_reducible refine eth_n (LoopW.again ?_) | with_reducible refine eb_n (eth_n (LoopW.again ?_)) | with_reducible refine eth_n (eb_n (eth_n (LoopW.again ?_)))
   refine sR ?_
   refine SeqK.q (q_lss rfl rfl rfl) rfl rfl rfl ?_
   refine SeqK.nil ?_
   refine AW.seq ?_
   refine AW.condT rfl ?_
   refine AW.skip ?_
   refine AW.seq ?_
   refine AW.block ?_
   refine sR ?_
   refine SeqK.q (q_index _ rfl Fx.sl131 rfl rfl (by omega) (rfl)) rfl rfl rfl ?_
   refine SeqK.q (q_load (.a _) rfl Fx.ty24 rfl rfl rfl) rfl rfl rfl ?_
   refine sA ?_
   refine SeqK.nil ?_
   refine AW.reg ?_
   refine sM ?_
   refine sM ?_
   refine SeqK.appR1 rfl hk1 rfl Fx.el24 rfl (by rw [List.length_map, pCT, List.length_map]) rfl (by rw [List.length_map, List.length_map]; omega) rfl rfl (fun k2 hk2 => ?_)
   refine sA ?_
   refine SeqK.nil ?_
   refine AW.reg ?_
   refine SeqK.q (q_add _ rfl rfl rfl (w64 (by omega) (by omega))) rfl rfl rfl ?_
   refine sM ?_
   refine SeqK.nil ?_
   first | with_reducible refine LoopW.again ?_ | with_reducible refine eth_n (LoopW.again ?_) | with_reducible refine eb_n (eth_n (LoopW.again ?_)) | with_reducible refine eth_n (eb_n (eth_n (LoopW.again ?_)))
   refine sR ?_
   refine SeqK.q (q_lss rfl rfl rfl) rfl rfl rfl ?_
   refine SeqK.nil ?_
   refine AW.seq ?_
   refine AW.condF rfl ?_
   refine AW.exit ?_
   refine eth_e ?_
   refine eth_e ?_
   refine exit_here ?_
   refine sR ?_
   refine sM ?_
   refine sA ?_
   refine SeqK.nil ?_
   refine AW.ret ?_
   exact fin_x (x := .c _) (_) (.tmp rfl .nil) rfl (fun _ _ h => h) (⟨k2, hk2, by rw [show (a ++ b).length = (a.map ctT).length + (b.map ctT).length by simp], by rw [show ((a ++ b).map ctT).flatten.map A.t = (a.map ctT).flatten.map A.t ++ (b.map ctT).flatten.map A.t by simp]⟩)

set_option maxHeartbeats 4000000 in
set_option maxRecDepth 20000 in
theorem catC_b (H : Heap) (b : List Ct) (hl : b.length ≤ 1000000) (hb : b ≠ []) : E.Spec Try.prog 45 [.a (.t (.sl .nn 1 [[.sl .un 3 (([] : List Ct).map ctT)], [.sl .un 3 (b.map ctT)]]))] H fun x H' => ∃ k, H k = none ∧ x = .c (.a (.os k 0 b.length 3)) ∧ H' = upd H k (some (.row 76 3 ((b.map ctT).flatten.map .t))) := by
 have hb0 := List.length_pos_iff.2 hb
 refine Spec.enter Try.func45 rfl ?_
 refine AW.wk (Wk.keep 36 [(0, .c (.a (.t (.sl .nn 1 [[.sl .un 3 (([] : List Ct).map ctT)], [.sl .un 3 (b.map ctT)]]))))] [] (H) rfl ⟨rfl, trivial⟩ trivial (fun _ _ h => h) rfl) ?_
 refine sR ?_
 refine sA ?_
 refine SeqK.nil ?_
 refine sR ?_
 refine sA ?_
 refine SeqK.nil ?_
 refine AW.seq ?_
 refine sR ?_
 refine sM ?_
 refine SeqK.q (q_len rfl Fx.un131 rfl) rfl rfl rfl ?_
 refine sM ?_
 refine SeqK.nil ?_
 refine AW.block ?_
 refine AW.unroll ?_
 refine sR ?_
 refine SeqK.q (q_lss rfl rfl rfl) rfl rfl rfl ?_
 refine SeqK.nil ?_
 refine AW.seq ?_
 refine AW.condT rfl ?_
 refine AW.skip ?_
 refine AW.seq ?_
 refine AW.block ?_
 refine sR ?_
 refine SeqK.q (q_index _ rfl Fx.sl131 rfl rfl (by omega) (rfl)) rfl rfl rfl ?_
 refine SeqK.q (q_load (.a _) rfl Fx.ty24 rfl rfl rfl) rfl rfl rfl ?_
 refine sA ?_
 refine SeqK.nil ?_
 refine sR ?_
 refine sM ?_
 refine sM ?_
 refine SeqK.q (q_len rfl Fx.un24 rfl) rfl rfl rfl ?_
 refine SeqK.q (q_add _ rfl rfl rfl ((by rw [w64 (by simp) (by simp)]; simp : IntKind.i64.wrap _ = 0))) rfl rfl rfl ?_
 refine sA ?_
 refine SeqK.nil ?_
 refine sR ?_
 refine sM ?_
 refine SeqK.q (q_lss rfl rfl rfl) rfl rfl rfl ?_
 refine SeqK.nil ?_
 refine AW.condD rfl (fun h20 => ?_) (fun h20 => ?_)
 ·
  simp at h20
 ·
  refine AW.skip ?_
  refine AW.reg ?_
  refine SeqK.q (q_add _ rfl rfl rfl (w64 (by omega) (by omega))) rfl rfl rfl ?_
  refine sM ?_
  refine SeqK.nil ?_
  first | with_reducible refine LoopW.again ?_ | with_reducible refine eth_n (LoopW.again ?_) | with_reducible refine eb_n (eth_n (LoopW.again ?_)) | with_reducible refine eth_n (eb_n (eth_n (LoopW.again ?_)))
  refine sR ?_
  refine SeqK.q (q_lss rfl rfl rfl) rfl rfl rfl ?_
  refine SeqK.nil ?_
  refine AW.seq ?_
  refine AW.condT rfl ?_
  refine AW.skip ?_
  refine AW.seq ?_
  refine AW.block ?_
  refine sR ?_
  refine SeqK.q (q_index _ rfl Fx.sl131 rfl rfl (by omega) (rfl)) rfl rfl rfl ?_
  refine SeqK.q (q_load (.a _) rfl Fx.ty24 rfl rfl rfl) rfl rfl rfl ?_
  refine sA ?_
  refine SeqK.nil ?_
  refine sR ?_
  refine sM ?_
  refine sM ?_
  refine SeqK.q (q_len rfl Fx.un24 rfl) rfl rfl rfl ?_
  refine SeqK.q (q_add _ rfl rfl rfl ((by rw [List.length_map, w64 (by omega) (by omega)]; omega : IntKind.i64.wrap _ = ((b.length : Nat) : Int)))) rfl rfl rfl ?_
  refine sA ?_
  refine SeqK.nil ?_
  refine sR ?_
  refine sM ?_
  refine SeqK.q (q_lss rfl rfl rfl) rfl rfl rfl ?_
  refine SeqK.nil ?_
  refine AW.condD rfl (fun h20 => ?_) (fun h20 => ?_)
  ·
   exfalso; omega
  ·
   refine AW.skip ?_
   refine AW.reg ?_
   refine SeqK.q (q_add _ rfl rfl rfl (w64 (by omega) (by omega))) rfl rfl rfl ?_
   refine sM ?_
   refine SeqK.nil ?_
   first | with_reducible refine LoopW.again ?_ | with_reducible refine eth_n (LoopW.again ?_) | with_reducible refine eb_n (eth_n (LoopW.again ?_)) | with_reducible refine eth_n (eb_n (eth_n (LoopW.again ?_)))
   refine sR ?_
   refine SeqK.q (q_lss rfl rfl rfl) rfl rfl rfl ?_
   refine SeqK.nil ?_
   refine AW.seq ?_
   refine AW.condF rfl ?_
   refine AW.exit ?_
   refine eth_e ?_
   refine eth_e ?_
   refine exit_here ?_
   refine sR ?_
   refine sM ?_
   refine SeqK.callE rfl rfl rfl rfl Fx.fn78 rfl (growC_any _ _ (by omega) (by omega)) (fun _ _ ⟨k, _, h, _⟩ => by rw [h]; rfl) (fun x24 H24 q24 => ?_)
   obtain ⟨kg, hkg, rfl, rfl⟩ := q24
   refine sA ?_
   refine SeqK.nil ?_
   refine AW.seq ?_
   refine sR ?_
   refine sM ?_
   refine SeqK.q (q_len rfl Fx.un131 rfl) rfl rfl rfl ?_
   refine sM ?_
   refine SeqK.nil ?_
   refine AW.block ?_
   refine AW.unroll ?_
   refine sR ?_
   refine SeqK.q (q_lss rfl rfl rfl) rfl rfl rfl ?_
   refine SeqK.nil ?_
   refine AW.seq ?_
   refine AW.condT rfl ?_
   refine AW.skip ?_
   refine AW.seq ?_
   refine AW.block ?_
   refine sR ?_
   refine SeqK.q (q_index _ rfl Fx.sl131 rfl rfl (by omega) (rfl)) rfl rfl rfl ?_
   refine SeqK.q (q_load (.a _) rfl Fx.ty24 rfl rfl rfl) rfl rfl rfl ?_
   refine sA ?_
   refine SeqK.nil ?_
   refine AW.reg ?_
   refine sM ?_
   refine sM ?_
   refine SeqK.any (e_appGS (k := kg) rfl rfl Fx.el24 rfl (upd_same _ _ _) rfl (by simp) rfl rfl (fun _ k1 hk1 => ?_) (fun he => absurd rfl he))
   obtain ⟨_, hk1⟩ := upd_lt hk1
   rw [upd_back hkg]
   refine sA ?_
   refine SeqK.nil ?_
   refine AW.reg ?_
   refine SeqK.q (q_add _ rfl rfl rfl (w64 (by omega) (by omega))) rfl rfl rfl ?_
   refine sM ?_
   refine SeqK.nil ?_
   first | with_reducible refine LoopW.again ?_ | with_reducible refine eth_n (LoopW.again ?_) | with_reducible refine eb_n (eth_n (LoopW.again ?_)) | with_reducible refine eth_n (eb_n (eth_n (LoopW.again ?_)))
   refine sR ?_
   refine SeqK.q (q_lss rfl rfl rfl) rfl rfl rfl ?_
   refine SeqK.nil ?_
   refine AW.seq ?_
   refine AW.condT rfl ?_
   refine AW.skip ?_
   refine AW.seq ?_
   refine AW.block ?_
   refine sR ?_
   refine SeqK.q (q_index _ rfl Fx.sl131 rfl rfl (by omega) (rfl)) rfl rfl rfl ?_
   refine SeqK.q (q_load (.a _) rfl Fx.ty24 rfl rfl rfl) rfl rfl rfl ?_
   refine sA ?_
   refine SeqK.nil ?_
   refine AW.reg ?_
   refine sM ?_
   refine sM ?_
   refine SeqK.any (e_appGS (k := k1) rfl rfl Fx.el24 rfl (upd_same _ _ _) rfl (by rw [List.length_map]; omega) rfl rfl (fun he => absurd he (by simpa using hb)) (fun _ k2 hk2 => ?_))
   obtain ⟨_, hk2⟩ := upd_lt hk2
   rw [upd_back hk1]
   refine sA ?_
   refine SeqK.nil ?_
   refine AW.reg ?_
   refine SeqK.q (q_add _ rfl rfl rfl (w64 (by omega) (by omega))) rfl rfl rfl ?_
   refine sM ?_
   refine SeqK.nil ?_
   first | with_reducible refine LoopW.again ?_ | with_reducible refine eth_n (LoopW.again ?_) | with_reducible refine eb_n (eth_n (LoopW.again ?_)) | with_reducible refine eth_n (eb_n (eth_n (LoopW.again ?_)))
   refine sR ?_
   refine SeqK.q (q_lss rfl rfl rfl) rfl rfl rfl ?_
   refine SeqK.nil ?_
   refine AW.seq ?_
   refine AW.condF rfl ?_
   refine AW.exit ?_
   refine eth_e ?_
   refine eth_e ?_
   refine exit_here ?_
   refine sR ?_
   refine sM ?_
   refine sA ?_
   refine SeqK.nil ?_
   refine AW.ret ?_
   exact fin_x (x := .c _) (_) (.tmp rfl .nil) rfl (fun _ _ h => h) (⟨k2, hk2, by rw [show b.length = (b.map ctT).length by simp], rfl⟩)

theorem catC_row (H : Heap) (a b : List Ct) (hl : a.length + b.length ≤ 1000000) : E.Spec Try.prog 45 [.a (.t (.sl .nn 1 [[.sl .un 3 (a.map ctT)], [.sl .un 3 (b.map ctT)]]))] H fun x H' => ∃ k, H k = none ∧ x = .c (.a (.os k 0 (a ++ b).length 3)) ∧ H' = upd H k (some (.row 76 3 (((a ++ b).map ctT).flatten.map .t))) := by
  by_cases ha : a = []
  · subst ha
    by_cases hb : b = []
    · subst hb; exact catC_00 H
    · exact catC_b H b (by simpa using hl) hb
  · exact catC_a H a b hl ha
theorem catC_any (a b : List Ct) (hl : a.length + b.length ≤ 1000000) : Pure Try.prog 45 [.a (.t (.sl .nn 1 [[.sl .un 3 (a.map ctT)], [.sl .un 3 (b.map ctT)]]))] (.c (.a (.t (.sl .un 3 ((a ++ b).map ctT))))) := by
  intro H
  refine E.Spec.freeze (catC_row H a b hl) fun x H' h => ?_
  obtain ⟨k, hk, rfl, rfl⟩ := h
  refine ⟨k, 3, 76, (a ++ b).map ctT, upd_same _ _ _, fun z hz => by obtain ⟨q, _, rfl⟩ := List.mem_map.1 hz; rfl, by decide, ?_, upd_back hk⟩
  simp [fzX, fzC, fzA]

def layS_ren : Go.Shelf.Ren := ⟨fun | 4 => 79 | n => n, fun | 22 => 25 | 25 => 61 | n => n, fun | n => n⟩
theorem layS : Go.Proofs.Lays8.n4 Try.prog layS_ren := {
  mixed := by kernel_rfl
  f4 := ⟨"slices.Grow[[]disjoint/api.Test,disjoint/api.Test]", by decide, Try.func79.trans (congrArg some (by kernel_rfl))⟩
  t0 := Try.underlying0
  a0 := Try.isAgg0
  z0 := Try.sizeOf0
  v0 := Try.zeroValue0
  t3 := Try.underlying3
  a3 := Try.isAgg3
  z3 := Try.sizeOf3
  v3 := Try.zeroValue3
  t4 := Try.underlying4
  a4 := Try.isAgg4
  z4 := Try.sizeOf4
  v4 := Try.zeroValue4
  t9 := Try.underlying9
  a9 := Try.isAgg9
  z9 := Try.sizeOf9
  v9 := Try.zeroValue9
  t20 := Try.underlying20
  a20 := Try.isAgg20
  z20 := Try.sizeOf20
  v20 := Try.zeroValue20
  t22 := Try.underlying25
  a22 := Try.isAgg25
  z22 := Try.sizeOf25
  v22 := Try.zeroValue25 }
theorem growS_any (H : Heap) (N : Nat) (h0 : 0 < N) (hb : N * 40 ≤ 140737488355328) : E.Spec Try.prog 79 [.a (.t (.v (.slice none 0 0))), iC (N : Int)] H fun x H' => ∃ k, H k = none ∧ x = .c (.a (.gs k 4)) ∧ H' = upd H k (some (.new 61 4)) := by
  obtain ⟨i, z, g1, g2, g3, g4, g5, g6, g7⟩ := elB_get Fx.el25
  refine E.Spec.fresh [.slice none 0 0, .int .i64 (N : Int)] (y := .new 61 4) (x := fun k => .c (.a (.gs k 4))) (fun _ => rfl) (fun w => ?_) H
  refine (Any8.slices_Grow_grow layS i z g2 g6 (by omega) none 0 0 N [] w (Nat.le_refl _) (by omega) (by rw [g5]; omega) (by omega) (by simp) (fun _ => rfl) (fun a h => by cases h)).mono ?_
  rintro e w' ⟨rfl, rfl⟩
  refine ⟨_, w.heap.size, grownCap w (0 + N) 0 (layS_ren.t 25), rfl, rfl, rfl, rfl, ?_, fun b' hb' => ?_, Nat.le_refl _, fun c hu => ?_, fun c k hk => ?_⟩
  · show w.drew.heap.size ≤ _
    show w.heap.size ≤ (w.heap.push _).size
    rw [Array.size_push]; omega
  · exact Below.heap_alloc w.drew _ b' hb'
  · refine ⟨_, heap_new w.drew _, ?_, grownCap_le_maxLen w _ _ _ (by unfold maxLen; omega), hu⟩
    have h9 := grownCap_ge w (0 + N) 0 (layS_ren.t 25)
    rw [Array.size_append, Array.size_append, size_zeroCells, size_zeroCells, g7]
    show 0 + (0 + N - 0) * 4 + (grownCap w (0 + N) 0 (layS_ren.t 25) - (0 + N)) * 4 = grownCap w (0 + N) 0 (layS_ren.t 25) * 4
    omega
  · exact .gs hk
theorem pST : ∀ p : List Ts, (p.map tsT).flatten.length = p.length * 4
  | [] => rfl
  | a :: r => by
    have := pST r
    simp only [List.map_cons, List.flatten_cons, List.length_append, this, List.length_cons, List.length_nil]; omega
theorem growS_0 : Pure Try.prog 79 [.a (.t (.v (.slice none 0 0))), iC 0] (.c (.a (.t (.v (.slice none 0 0))))) :=
  Pure.of_calls [.slice none 0 0, .int .i64 0] (fun w => Any8.slices_Grow_room layS none 0 0 0 w (by omega) (by omega) (by omega) (by omega)) fun c => .t (.v rfl)

set_option maxHeartbeats 4000000 in
set_option maxRecDepth 20000 in
theorem catS_00 (H : Heap) : E.Spec Try.prog 46 [.a (.t (.sl .nn 1 [[.sl .un 4 (([] : List Ts).map tsT)], [.sl .un 4 (([] : List Ts).map tsT)]]))] H fun x H' => ∃ k, H k = none ∧ x = .c (.a (.os k 0 ([] : List Ts).length 4)) ∧ H' = upd H k (some (.row 61 4 ((([] : List Ts).map tsT).flatten.map .t))) := by
 refine Spec.enter Try.func46 rfl ?_
 refine AW.wk (Wk.keep 36 [(0, .c (.a (.t (.sl .nn 1 [[.sl .un 4 (([] : List Ts).map tsT)], [.sl .un 4 (([] : List Ts).map tsT)]]))))] [] (H) rfl ⟨rfl, trivial⟩ trivial (fun _ _ h => h) rfl) ?_
 refine sR ?_
 refine sA ?_
 refine SeqK.nil ?_
 refine sR ?_
 refine sA ?_
 refine SeqK.nil ?_
 refine AW.seq ?_
 refine sR ?_
 refine sM ?_
 refine SeqK.q (q_len rfl Fx.un133 rfl) rfl rfl rfl ?_
 refine sM ?_
 refine SeqK.nil ?_
 refine AW.block ?_
 refine AW.unroll ?_
 refine sR ?_
 refine SeqK.q (q_lss rfl rfl rfl) rfl rfl rfl ?_
 refine SeqK.nil ?_
 refine AW.seq ?_
 refine AW.condT rfl ?_
 refine AW.skip ?_
 refine AW.seq ?_
 refine AW.block ?_
 refine sR ?_
 refine SeqK.q (q_index _ rfl Fx.sl133 rfl rfl (by omega) (rfl)) rfl rfl rfl ?_
 refine SeqK.q (q_load (.a _) rfl Fx.ty25 rfl rfl rfl) rfl rfl rfl ?_
 refine sA ?_
 refine SeqK.nil ?_
 refine sR ?_
 refine sM ?_
 refine sM ?_
 refine SeqK.q (q_len rfl Fx.un25 rfl) rfl rfl rfl ?_
 refine SeqK.q (q_add _ rfl rfl rfl ((rfl : IntKind.i64.wrap _ = 0))) rfl rfl rfl ?_
 refine sA ?_
 refine SeqK.nil ?_
 refine sR ?_
 refine sM ?_
 refine SeqK.q (q_lss rfl rfl rfl) rfl rfl rfl ?_
 refine SeqK.nil ?_
 refine AW.condD rfl (fun h20 => ?_) (fun h20 => ?_)
 ·
  exfalso; simp at h20
 ·
  refine AW.skip ?_
  refine AW.reg ?_
  refine SeqK.q (q_add _ rfl rfl rfl (w64 (by omega) (by omega))) rfl rfl rfl ?_
  refine sM ?_
  refine SeqK.nil ?_
  first | with_reducible refine LoopW.again ?_ | with_reducible refine eth_n (LoopW.again ?_) | with_reducible refine eb_n (eth_n (LoopW.again ?_)) | with_reducible refine eth_n (eb_n (eth_n (LoopW.again ?_)))
  refine sR ?_
  refine SeqK.q (q_lss rfl rfl rfl) rfl rfl rfl ?_
  refine SeqK.nil ?_
  refine AW.seq ?_
  refine AW.condT rfl ?_
  refine AW.skip ?_
  refine AW.seq ?_
  refine AW.block ?_
  refine sR ?_
  refine SeqK.q (q_index _ rfl Fx.sl133 rfl rfl (by omega) (rfl)) rfl rfl rfl ?_
  refine SeqK.q (q_load (.a _) rfl Fx.ty25 rfl rfl rfl) rfl rfl rfl ?_
  refine sA ?_
  refine SeqK.nil ?_
  refine sR ?_
  refine sM ?_
  refine sM ?_
  refine SeqK.q (q_len rfl Fx.un25 rfl) rfl rfl rfl ?_
  refine SeqK.q (q_add _ rfl rfl rfl ((rfl : IntKind.i64.wrap _ = 0))) rfl rfl rfl ?_
  refine sA ?_
  refine SeqK.nil ?_
  refine sR ?_
  refine sM ?_
  refine SeqK.q (q_lss rfl rfl rfl) rfl rfl rfl ?_
  refine SeqK.nil ?_
  refine AW.condD rfl (fun h20 => ?_) (fun h20 => ?_)
  ·
   exfalso; simp at h20
  ·
   refine AW.skip ?_
   refine AW.reg ?_
   refine SeqK.q (q_add _ rfl rfl rfl (w64 (by omega) (by omega))) rfl rfl rfl ?_
   refine sM ?_
   refine SeqK.nil ?_
   first | with_reducible refine LoopW.again ?_ | with_reducible refine eth_n (LoopW.again ?_) | with_reducible refine eb_n (eth_n (LoopW.again ?_)) | with_reducible refine eth_n (eb_n (eth_n (LoopW.again ?_)))
   refine sR ?_
   refine SeqK.q (q_lss rfl rfl rfl) rfl rfl rfl ?_
   refine SeqK.nil ?_
   refine AW.seq ?_
   refine AW.condF rfl ?_
   refine AW.exit ?_
   refine eth_e ?_
   refine eth_e ?_
   refine exit_here ?_
   refine sR ?_
   refine sM ?_
   refine SeqK.q (q_call _ rfl Fx.fn79 rfl (growS_0) rfl) rfl rfl rfl ?_
   refine sA ?_
   refine SeqK.nil ?_
   refine AW.seq ?_
   refine sR ?_
   refine sM ?_
   refine SeqK.q (q_len rfl Fx.un133 rfl) rfl rfl rfl ?_
   refine sM ?_
   refine SeqK.nil ?_
   refine AW.block ?_
   refine AW.unroll ?_
   refine sR ?_
   refine SeqK.q (q_lss rfl rfl rfl) rfl rfl rfl ?_
   refine SeqK.nil ?_
   refine AW.seq ?_
   refine AW.condT rfl ?_
   refine AW.skip ?_
   refine AW.seq ?_
   refine AW.block ?_
   refine sR ?_
   refine SeqK.q (q_index _ rfl Fx.sl133 rfl rfl (by omega) (rfl)) rfl rfl rfl ?_
   refine SeqK.q (q_load (.a _) rfl Fx.ty25 rfl rfl rfl) rfl rfl rfl ?_
   refine sA ?_
   refine SeqK.nil ?_
   refine AW.reg ?_
   refine sM ?_
   refine sM ?_
   refine SeqK.q (q_appNil rfl Fx.el25 rfl rfl (by simp)) rfl rfl rfl ?_
   refine SeqK.xw 33 rfl XW.toNil ?_
   refine sA ?_
   refine SeqK.nil ?_
   refine AW.reg ?_
   refine SeqK.q (q_add _ rfl rfl rfl (w64 (by omega) (by omega))) rfl rfl rfl ?_
   refine sM ?_
   refine SeqK.nil ?_
   first | with_reducible refine LoopW.again ?_ | with_reducible refine eth_n (LoopW.again ?_) | with_reducible refine eb_n (eth_n (LoopW.again ?_)) | with_reducible refine eth_n (eb_n (eth_n (LoopW.again ?_)))
   refine sR ?_
   refine SeqK.q (q_lss rfl rfl rfl) rfl rfl rfl ?_
   refine SeqK.nil ?_
   refine AW.seq ?_
   refine AW.condT rfl ?_
   refine AW.skip ?_
   refine AW.seq ?_
   refine AW.block ?_
   refine sR ?_
   refine SeqK.q (q_index _ rfl Fx.sl133 rfl rfl (by omega) (rfl)) rfl rfl rfl ?_
   refine SeqK.q (q_load (.a _) rfl Fx.ty25 rfl rfl rfl) rfl rfl rfl ?_
   refine sA ?_
   refine SeqK.nil ?_
   refine AW.reg ?_
   refine sM ?_
   refine sM ?_
   refine SeqK.q (q_appNil rfl Fx.el25 rfl rfl (by simp)) rfl rfl rfl ?_
   refine SeqK.xw 33 rfl XW.toNil ?_
   refine sA ?_
   refine SeqK.nil ?_
   refine AW.reg ?_
   refine SeqK.q (q_add _ rfl rfl rfl (w64 (by omega) (by omega))) rfl rfl rfl ?_
   refine sM ?_
   refine SeqK.nil ?_
   first | with_reducible refine LoopW.again ?_ | with_reducible refine eth_n (LoopW.again ?_) | with_reducible refine eb_n (eth_n (LoopW.again ?_)) | with_reducible refine eth_n (eb_n (eth_n (LoopW.again ?_)))
   refine sR ?_
   refine SeqK.q (q_lss rfl rfl rfl) rfl rfl rfl ?_
   refine SeqK.nil ?_
   refine AW.seq ?_
   refine AW.condF rfl ?_
   refine AW.exit ?_
   refine eth_e ?_
   refine eth_e ?_
   refine exit_here ?_
   refine sR ?_
   refine sM ?_
   refine sA ?_
   refine SeqK.nil ?_
   refine AW.row 2 61 4 rfl (fun k0 hk0 => ?_)
   refine AW.ret ?_
   exact fin_x (x := .c _) (_) (.tmp rfl .nil) rfl (fun _ _ h => h) (⟨k0, hk0, rfl, rfl⟩)

set_option maxHeartbeats 4000000 in
set_option maxRecDepth 20000 in
theorem catS_a (H : Heap) (a b : List Ts) (hl : a.length + b.length ≤ 1000000) (ha : a ≠ []) : E.Spec Try.prog 46 [.a (.t (.sl .nn 1 [[.sl .un 4 (a.map tsT)], [.sl .un 4 (b.map tsT)]]))] H fun x H' => ∃ k, H k = none ∧ x = .c (.a (.os k 0 (a ++ b).length 4)) ∧ H' = upd H k (some (.row 61 4 (((a ++ b).map tsT).flatten.map .t))) := by
 have ha0 := List.length_pos_iff.2 ha
 refine Spec.enter Try.func46 rfl ?_
 refine AW.wk (Wk.keep 36 [(0, .c (.a (.t (.sl .nn 1 [[.sl .un 4 (a.map tsT)], [.sl .un 4 (b.map tsT)]]))))] [] (H) rfl ⟨rfl, trivial⟩ trivial (fun _ _ h => h) rfl) ?_
 refine sR ?_
 refine sA ?_
 refine SeqK.nil ?_
 refine sR ?_
 refine sA ?_
 refine SeqK.nil ?_
 refine AW.seq ?_
 refine sR ?_
 refine sM ?_
 refine SeqK.q (q_len rfl Fx.un133 rfl) rfl rfl rfl ?_
 refine sM ?_
 refine SeqK.nil ?_
 refine AW.block ?_
 refine AW.unroll ?_
 refine sR ?_
 refine SeqK.q (q_lss rfl rfl rfl) rfl rfl rfl ?_
 refine SeqK.nil ?_
 refine AW.seq ?_
 refine AW.condT rfl ?_
 refine AW.skip ?_
 refine AW.seq ?_
 refine AW.block ?_
 refine sR ?_
 refine SeqK.q (q_index _ rfl Fx.sl133 rfl rfl (by omega) (rfl)) rfl rfl rfl ?_
 refine SeqK.q (q_load (.a _) rfl Fx.ty25 rfl rfl rfl) rfl rfl rfl ?_
 refine sA ?_
 refine SeqK.nil ?_
 refine sR ?_
 refine sM ?_
 refine sM ?_
 refine SeqK.q (q_len rfl Fx.un25 rfl) rfl rfl rfl ?_
 refine SeqK.q (q_add _ rfl rfl rfl ((by rw [List.length_map, w64 (by omega) (by omega)]; omega : IntKind.i64.wrap _ = ((a.length : Nat) : Int)))) rfl rfl rfl ?_
 refine sA ?_
 refine SeqK.nil ?_
 refine sR ?_
 refine sM ?_
 refine SeqK.q (q_lss rfl rfl rfl) rfl rfl rfl ?_
 refine SeqK.nil ?_
 refine AW.condD rfl (fun h20 => ?_) (fun h20 => ?_)
 ·
  exfalso; omega
 ·
  refine AW.skip ?_
  refine AW.reg ?_
  refine SeqK.q (q_add _ rfl rfl rfl (w64 (by omega) (by omega))) rfl rfl rfl ?_
  refine sM ?_
  refine SeqK.nil ?_
  first | with_reducible refine LoopW.again ?_ | with_reducible refine eth_n (LoopW.again ?_) | with_reducible refine eb_n (eth_n (LoopW.again ?_)) | with_reducible refine eth_n (eb_n (eth_n (LoopW.again ?_)))
  refine sR ?_
  refine SeqK.q (q_lss rfl rfl rfl) rfl rfl rfl ?_
  refine SeqK.nil ?_
  refine AW.seq ?_
  refine AW.condT rfl ?_
  refine AW.skip ?_
  refine AW.seq ?_
  refine AW.block ?_
  refine sR ?_
  refine SeqK.q (q_index _ rfl Fx.sl133 rfl rfl (by omega) (rfl)) rfl rfl rfl ?_
  refine SeqK.q (q_load (.a _) rfl Fx.ty25 rfl rfl rfl) rfl rfl rfl ?_
  refine sA ?_
  refine SeqK.nil ?_
  refine sR ?_
  refine sM ?_
  refine sM ?_
  refine SeqK.q (q_len rfl Fx.un25 rfl) rfl rfl rfl ?_
  refine SeqK.q (q_add _ rfl rfl rfl ((by rw [List.length_map, w64 (by omega) (by omega)]; omega : IntKind.i64.wrap _ = ((a.length + b.length : Nat) : Int)))) rfl rfl rfl ?_
  refine sA ?_
  refine SeqK.nil ?_
  refine sR ?_
  refine sM ?_
  refine SeqK.q (q_lss rfl rfl rfl) rfl rfl rfl ?_
  refine SeqK.nil ?_
  refine AW.condD rfl (fun h20 => ?_) (fun h20 => ?_)
  ·
   exfalso; omega
  ·
   refine AW.skip ?_
   refine AW.reg ?_
   refine SeqK.q (q_add _ rfl rfl rfl (w64 (by omega) (by omega))) rfl rfl rfl ?_
   refine sM ?_
   refine SeqK.nil ?_
   first | with_reducible refine LoopW.again ?_ | with_reducible refine eth_n (LoopW.again ?_) | with_reducible refine eb_n (eth_n (LoopW.again ?_)) | with_reducible refine eth_n (eb_n (eth_n (LoopW.again ?_)))
   refine sR ?_
   refine SeqK.q (q_lss rfl rfl rfl) rfl rfl rfl ?_
   refine SeqK.nil ?_
   refine AW.seq ?_
   refine AW.condF rfl ?_
   refine AW.exit ?_
   refine eth_e ?_
   refine eth_e ?_
   refine exit_here ?_
   refine sR ?_
   refine sM ?_
   refine SeqK.callE rfl rfl rfl rfl Fx.fn79 rfl (growS_any _ _ (by omega) (by omega)) (fun _ _ ⟨k, _, h, _⟩ => by rw [h]; rfl) (fun x24 H24 q24 => ?_)
   obtain ⟨kg, hkg, rfl, rfl⟩ := q24
   refine sA ?_
   refine SeqK.nil ?_
   refine AW.seq ?_
   refine sR ?_
   refine sM ?_
   refine SeqK.q (q_len rfl Fx.un133 rfl) rfl rfl rfl ?_
   refine sM ?_
   refine SeqK.nil ?_
   refine AW.block ?_
   refine AW.unroll ?_
   refine sR ?_
   refine SeqK.q (q_lss rfl rfl rfl) rfl rfl rfl ?_
   refine SeqK.nil ?_
   refine AW.seq ?_
   refine AW.condT rfl ?_
   refine AW.skip ?_
   refine AW.seq ?_
   refine AW.block ?_
   refine sR ?_
   refine SeqK.q (q_index _ rfl Fx.sl133 rfl rfl (by omega) (rfl)) rfl rfl rfl ?_
   refine SeqK.q (q_load (.a _) rfl Fx.ty25 rfl rfl rfl) rfl rfl rfl ?_
   refine sA ?_
   refine SeqK.nil ?_
   refine AW.reg ?_
   refine sM ?_
   refine sM ?_
   refine SeqK.any (e_appGS (k := kg) rfl rfl Fx.el25 rfl (upd_same _ _ _) rfl (by rw [List.length_map]; omega) rfl rfl (fun he => absurd he (by simpa using ha)) (fun _ k1 hk1 => ?_))
   obtain ⟨_, hk1⟩ := upd_lt hk1
   rw [upd_back hkg]
   refine sA ?_
   refine SeqK.nil ?_
   refine AW.reg ?_
   refine SeqK.q (q_add _ rfl rfl rfl (w64 (by omega) (by omega))) rfl rfl rfl ?_
   refine sM ?_
   refine SeqK.nil ?_
   first | with_reducible refine LoopW.again ?_ | with_reducible refine eth_n (LoopW.again ?_) | with_reducible refine eb_n (eth_n (LoopW.again ?_)) | with_reducible refine eth_n (eb_n (eth_n (LoopW.again ?_)))
   refine sR ?_
   refine SeqK.q (q_lss rfl rfl rfl) rfl rfl rfl ?_
   refine SeqK.nil ?_
   refine AW.seq ?_
   refine AW.condT rfl ?_
   refine AW.skip ?_
   refine AW.seq ?_
   refine AW.block ?_
   refine sR ?_
   refine SeqK.q (q_index _ rfl Fx.sl133 rfl rfl (by omega) (rfl)) rfl rfl rfl ?_
   refine SeqK.q (q_load (.a _) rfl Fx.ty25 rfl rfl rfl) rfl rfl rfl ?_
   refine sA ?_
   refine SeqK.nil ?_
   refine AW.reg ?_
   refine sM ?_
   refine sM ?_
   refine SeqK.appR1 rfl hk1 rfl Fx.el25 rfl (by rw [List.length_map, pST, List.length_map]) rfl (by rw [List.length_map, List.length_map]; omega) rfl rfl (fun k2 hk2 => ?_)
   refine sA ?_
   refine SeqK.nil ?_
   refine AW.reg ?_
   refine SeqK.q (q_add _ rfl rfl rfl (w64 (by omega) (by omega))) rfl rfl rfl ?_
   refine sM ?_
   refine SeqK.nil ?_
   first | with_reducible refine LoopW.again ?_ | with_reducible refine eth_n (LoopW.again ?_) | with_reducible refine eb_n (eth_n (LoopW.again ?_)) | with_reducible refine eth_n (eb_n (eth_n (LoopW.again ?_)))
   refine sR ?_
   refine SeqK.q (q_lss rfl rfl rfl) rfl rfl rfl ?_
   refine SeqK.nil ?_
   refine AW.seq ?_
   refine AW.condF rfl ?_
   refine AW.exit ?_
   refine eth_e ?_
   refine eth_e ?_
   refine exit_here ?_
   refine sR ?_
   refine sM ?_
   refine sA ?_
   refine SeqK.nil ?_
   refine AW.ret ?_
   exact fin_x (x := .c _) (_) (.tmp rfl .nil) rfl (fun _ _ h => h) (⟨k2, hk2, by rw [show (a ++ b).length = (a.map tsT).length + (b.map tsT).length by simp], by rw [show ((a ++ b).map tsT).flatten.map A.t = (a.map tsT).flatten.map A.t ++ (b.map tsT).flatten.map A.t by simp]⟩)

set_option maxHeartbeats 4000000 in
set_option maxRecDepth 20000 in
theorem catS_b (H : Heap) (b : List Ts) (hl : b.length ≤ 1000000) (hb : b ≠ []) : E.Spec Try.prog 46 [.a (.t (.sl .nn 1 [[.sl .un 4 (([] : List Ts).map tsT)], [.sl .un 4 (b.map tsT)]]))] H fun x H' => ∃ k, H k = none ∧ x = .c (.a (.os k 0 b.length 4)) ∧ H' = upd H k (some (.row 61 4 ((b.map tsT).flatten.map .t))) := by
 have hb0 := List.length_pos_iff.2 hb
 refine Spec.enter Try.func46 rfl ?_
 refine AW.wk (Wk.keep 36 [(0, .c (.a (.t (.sl .nn 1 [[.sl .un 4 (([] : List Ts).map tsT)], [.sl .un 4 (b.map tsT)]]))))] [] (H) rfl ⟨rfl, trivial⟩ trivial (fun _ _ h => h) rfl) ?_
 refine sR ?_
 refine sA ?_
 refine SeqK.nil ?_
 refine sR ?_
 refine sA ?_
 refine SeqK.nil ?_
 refine AW.seq ?_
 refine sR ?_
 refine sM ?_
 refine SeqK.q (q_len rfl Fx.un133 rfl) rfl rfl rfl ?_
 refine sM ?_
 refine SeqK.nil ?_
 refine AW.block ?_
 refine AW.unroll ?_
 refine sR ?_
 refine SeqK.q (q_lss rfl rfl rfl) rfl rfl rfl ?_
 refine SeqK.nil ?_
 refine AW.seq ?_
 refine AW.condT rfl ?_
 refine AW.skip ?_
 refine AW.seq ?_
 refine AW.block ?_
 refine sR ?_
 refine SeqK.q (q_index _ rfl Fx.sl133 rfl rfl (by omega) (rfl)) rfl rfl rfl ?_
 refine SeqK.q (q_load (.a _) rfl Fx.ty25 rfl rfl rfl) rfl rfl rfl ?_
 refine sA ?_
 refine SeqK.nil ?_
 refine sR ?_
 refine sM ?_
 refine sM ?_
 refine SeqK.q (q_len rfl Fx.un25 rfl) rfl rfl rfl ?_
 refine SeqK.q (q_add _ rfl rfl rfl ((by rw [w64 (by simp) (by simp)]; simp : IntKind.i64.wrap _ = 0))) rfl rfl rfl ?_
 refine sA ?_
 refine SeqK.nil ?_
 refine sR ?_
 refine sM ?_
 refine SeqK.q (q_lss rfl rfl rfl) rfl rfl rfl ?_
 refine SeqK.nil ?_
 refine AW.condD rfl (fun h20 => ?_) (fun h20 => ?_)
 ·
  simp at h20
 ·
  refine AW.skip ?_
  refine AW.reg ?_
  refine SeqK.q (q_add _ rfl rfl rfl (w64 (by omega) (by omega))) rfl rfl rfl ?_
  refine sM ?_
  refine SeqK.nil ?_
  first | with_reducible refine LoopW.again ?_ | with_reducible refine eth_n (LoopW.again ?_) | with_reducible refine eb_n (eth_n (LoopW.again ?_)) | with_reducible refine eth_n (eb_n (eth_n (LoopW.again ?_)))
  refine sR ?_
  refine SeqK.q (q_lss rfl rfl rfl) rfl rfl rfl ?_
  refine SeqK.nil ?_
  refine AW.seq ?_
  refine AW.condT rfl ?_
  refine AW.skip ?_
  refine AW.seq ?_
  refine AW.block ?_
  refine sR ?_
  refine SeqK.q (q_index _ rfl Fx.sl133 rfl rfl (by omega) (rfl)) rfl rfl rfl ?_
  refine SeqK.q (q_load (.a _) rfl Fx.ty25 rfl rfl rfl) rfl rfl rfl ?_
  refine sA ?_
  refine SeqK.nil ?_
  refine sR ?_
  refine sM ?_
  refine sM ?_
  refine SeqK.q (q_len rfl Fx.un25 rfl) rfl rfl rfl ?_
  refine SeqK.q (q_add _ rfl rfl rfl ((by rw [List.length_map, w64 (by omega) (by omega)]; omega : IntKind.i64.wrap _ = ((b.length : Nat) : Int)))) rfl rfl rfl ?_
  refine sA ?_
  refine SeqK.nil ?_
  refine sR ?_
  refine sM ?_
  refine SeqK.q (q_lss rfl rfl rfl) rfl rfl rfl ?_
  refine SeqK.nil ?_
  refine AW.condD rfl (fun h20 => ?_) (fun h20 => ?_)
  ·
   exfalso; omega
  ·
   refine AW.skip ?_
   refine AW.reg ?_
   refine SeqK.q (q_add _ rfl rfl rfl (w64 (by omega) (by omega))) rfl rfl rfl ?_
   refine sM ?_
   refine SeqK.nil ?_
   first | with_reducible refine LoopW.again ?_ | with_reducible refine eth_n (LoopW.again ?_) | with_reducible refine eb_n (eth_n (LoopW.again ?_)) | with_reducible refine eth_n (eb_n (eth_n (LoopW.again ?_)))
   refine sR ?_
   refine SeqK.q (q_lss rfl rfl rfl) rfl rfl rfl ?_
   refine SeqK.nil ?_
   refine AW.seq ?_
   refine AW.condF rfl ?_
   refine AW.exit ?_
   refine eth_e ?_
   refine eth_e ?_
   refine exit_here ?_
   refine sR ?_
   refine sM ?_
   refine SeqK.callE rfl rfl rfl rfl Fx.fn79 rfl (growS_any _ _ (by omega) (by omega)) (fun _ _ ⟨k, _, h, _⟩ => by rw [h]; rfl) (fun x24 H24 q24 => ?_)
   obtain ⟨kg, hkg, rfl, rfl⟩ := q24
   refine sA ?_
   refine SeqK.nil ?_
   refine AW.seq ?_
   refine sR ?_
   refine sM ?_
   refine SeqK.q (q_len rfl Fx.un133 rfl) rfl rfl rfl ?_
   refine sM ?_
   refine SeqK.nil ?_
   refine AW.block ?_
   refine AW.unroll ?_
   refine sR ?_
   refine SeqK.q (q_lss rfl rfl rfl) rfl rfl rfl ?_
   refine SeqK.nil ?_
   refine AW.seq ?_
   refine AW.condT rfl ?_
   refine AW.skip ?_
   refine AW.seq ?_
   refine AW.block ?_
   refine sR ?_
   refine SeqK.q (q_index _ rfl Fx.sl133 rfl rfl (by omega) (rfl)) rfl rfl rfl ?_
   refine SeqK.q (q_load (.a _) rfl Fx.ty25 rfl rfl rfl) rfl rfl rfl ?_
   refine sA ?_
   refine SeqK.nil ?_
   refine AW.reg ?_
   refine sM ?_
   refine sM ?_
   refine SeqK.any (e_appGS (k := kg) rfl rfl Fx.el25 rfl (upd_same _ _ _) rfl (by simp) rfl rfl (fun _ k1 hk1 => ?_) (fun he => absurd rfl he))
   obtain ⟨_, hk1⟩ := upd_lt hk1
   rw [upd_back hkg]
   refine sA ?_
   refine SeqK.nil ?_
   refine AW.reg ?_
   refine SeqK.q (q_add _ rfl rfl rfl (w64 (by omega) (by omega))) rfl rfl rfl ?_
   refine sM ?_
   refine SeqK.nil ?_
   first | with_reducible refine LoopW.again ?_ | with_reducible refine eth_n (LoopW.again ?_) | with_reducible refine eb_n (eth_n (LoopW.again ?_)) | with_reducible refine eth_n (eb_n (eth_n (LoopW.again ?_)))
   refine sR ?_
   refine SeqK.q (q_lss rfl rfl rfl) rfl rfl rfl ?_
   refine SeqK.nil ?_
   refine AW.seq ?_
   refine AW.condT rfl ?_
   refine AW.skip ?_
   refine AW.seq ?_
   refine AW.block ?_
   refine sR ?_
   refine SeqK.q (q_index _ rfl Fx.sl133 rfl rfl (by omega) (rfl)) rfl rfl rfl ?_
   refine SeqK.q (q_load (.a _) rfl Fx.ty25 rfl rfl rfl) rfl rfl rfl ?_
   refine sA ?_
   refine SeqK.nil ?_
   refine AW.reg ?_
   refine sM ?_
   refine sM ?_
   refine SeqK.any (e_appGS (k := k1) rfl rfl Fx.el25 rfl (upd_same _ _ _) rfl (by rw [List.length_map]; omega) rfl rfl (fun he => absurd he (by simpa using hb)) (fun _ k2 hk2 => ?_))
   obtain ⟨_, hk2⟩ := upd_lt hk2
   rw [upd_back hk1]
   refine sA ?_
   refine SeqK.nil ?_
   refine AW.reg ?_
   refine SeqK.q (q_add _ rfl rfl rfl (w64 (by omega) (by omega))) rfl rfl rfl ?_
   refine sM ?_
   refine SeqK.nil ?_
   first | with_reducible refine LoopW.again ?_ | with_reducible refine eth_n (LoopW.again ?_) | with_reducible refine eb_n (eth_n (LoopW.again ?_)) | with_reducible refine eth_n (eb_n (eth_n (LoopW.again ?_)))
   refine sR ?_
   refine SeqK.q (q_lss rfl rfl rfl) rfl rfl rfl ?_
   refine SeqK.nil ?_
   refine AW.seq ?_
   refine AW.condF rfl ?_
   refine AW.exit ?_
   refine eth_e ?_
   refine eth_e ?_
   refine exit_here ?_
   refine sR ?_
   refine sM ?_
   refine sA ?_
   refine SeqK.nil ?_
   refine AW.ret ?_
   exact fin_x (x := .c _) (_) (.tmp rfl .nil) rfl (fun _ _ h => h) (⟨k2, hk2, by rw [show b.length = (b.map tsT).length by simp], rfl⟩)

theorem catS_row (H : Heap) (a b : List Ts) (hl : a.length + b.length ≤ 1000000) : E.Spec Try.prog 46 [.a (.t (.sl .nn 1 [[.sl .un 4 (a.map tsT)], [.sl .un 4 (b.map tsT)]]))] H fun x H' => ∃ k, H k = none ∧ x = .c (.a (.os k 0 (a ++ b).length 4)) ∧ H' = upd H k (some (.row 61 4 (((a ++ b).map tsT).flatten.map .t))) := by
  by_cases ha : a = []
  · subst ha
    by_cases hb : b = []
    · subst hb; exact catS_00 H
    · exact catS_b H b (by simpa using hl) hb
  · exact catS_a H a b hl ha
theorem catS_any (a b : List Ts) (hl : a.length + b.length ≤ 1000000) : Pure Try.prog 46 [.a (.t (.sl .nn 1 [[.sl .un 4 (a.map tsT)], [.sl .un 4 (b.map tsT)]]))] (.c (.a (.t (.sl .un 4 ((a ++ b).map tsT))))) := by
  intro H
  refine E.Spec.freeze (catS_row H a b hl) fun x H' h => ?_
  obtain ⟨k, hk, rfl, rfl⟩ := h
  refine ⟨k, 4, 61, (a ++ b).map tsT, upd_same _ _ _, fun z hz => by obtain ⟨q, _, rfl⟩ := List.mem_map.1 hz; rfl, by decide, ?_, upd_back hk⟩
  simp [fzX, fzC, fzA]

end Go.Proofs.Ytnmfjojhgfipcaa.W
namespace Go.Proofs.Ytnmfjojhgfipcaa.W
open Go.RowKit E
set_option linter.unusedVariables false
set_option linter.unusedSimpArgs false
set_option linter.unusedSectionVars false
/-! Join -/
/-- the auxiliary variables moved -/
def sh (n k v : Int) : Int := if n ≤ v then v + k else v
abbrev jn (a b : Cl) : Cl := ⟨dd (a.nl ++ b.nl), dd (a.nn ++ b.nn), a.ax ++ b.ax, a.is ++ b.is, a.ts ++ b.ts, a.sm ++ b.sm, a.df ++ b.df⟩
theorem sorted_fz (H : Heap) (k : Nat) (l : List Int) (hk : H k = none) (hl : l.length ≤ 1000000) : E.Spec Try.prog 42 [.a (.os k 0 l.length 1)] (upd H k (some (.row 3 1 (l.map iA)))) fun x H' => x = .c (iL .un (dd l)) ∧ H' = H :=
  E.Spec.freeze (sorted_any _ k l (upd_same _ _ _) hl) fun x H' ⟨hx, hH⟩ => ⟨k, 1, 3, (dd l).map i64T, by rw [hH, upd_same, flatI], fun e he => by obtain ⟨s, _, rfl⟩ := List.mem_map.1 he; rfl, by decide, by
    subst hx hH
    refine ⟨?_, by rw [upd_upd, upd_back hk]⟩
    simp [fzX, fzC, fzA]⟩

set_option maxRecDepth 20000 in
theorem same_clos (v : Int) : Pure Try.prog 40 [iC v] (.c (iC v)) := by
 intro H
 refine Spec.enter Try.func40 rfl ?_
 refine AW.wk (Wk.keep 4 [(0, .c (iC v))] [] (H) rfl ⟨rfl, trivial⟩ trivial (fun _ _ h => h) rfl) ?_
 refine sR ?_
 refine sA ?_
 refine SeqK.nil ?_
 refine sR ?_
 refine sM ?_
 refine sA ?_
 refine SeqK.nil ?_
 refine AW.ret ?_
 exact fin_x (x := .c _) (H) (.tmp rfl .nil) rfl (fun _ _ h => h) (⟨rfl, rfl⟩)

set_option maxRecDepth 20000 in
theorem shift_any (H : Heap) (kn ka : Nat) (a : Cl) (n v : Int) (h1 : H kn = some (.box [.t (.v (.int .i64 n))])) (h2 : H ka = some (.box [.t (.sl .un 1 (a.nl.map i64T)), .t (.sl .un 1 (a.nn.map i64T)), .t (.sl .un 4 (a.ax.map axT)), .t (.sl .un 3 (a.is.map ctT)), .t (.sl .un 4 (a.ts.map tsT)), .t (.sl .un 2 (a.sm.map prT)), .t (.sl .un 2 (a.df.map prT))])) (hl : a.ax.length ≤ 1000000) (hv : VV v) : E.Spec Try.prog 41 [iC v, .a (.bp kn 0), .a (.bp ka 0)] H fun x H' => x = .c (iC (sh n a.ax.length v)) ∧ H' = H := by
 have hv1 := hv.1
 have hv2 := hv.2
 refine Spec.enter Try.func41 rfl ?_
 refine AW.wk (Wk.keep 14 [(0, .c (iC v)), (1, .c (.a (.bp kn 0))), (2, .c (.a (.bp ka 0)))] [] (H) rfl ⟨rfl, rfl, rfl, trivial⟩ trivial (fun _ _ h => h) rfl) ?_
 refine sR ?_
 refine sA ?_
 refine SeqK.nil ?_
 refine AW.seq ?_
 refine sR ?_
 refine sM ?_
 refine SeqK.r (g_load (r := .a _) rfl Fx.ty3 rfl (by (repeat rw [upd_ne _ _ (by first | assumption | exact Ne.symm (by assumption))]); first | assumption | exact upd_same _ _ _) rfl rfl rfl rfl) rfl ?_
 refine SeqK.q (q_geq rfl rfl rfl) rfl rfl rfl ?_
 refine SeqK.nil ?_
 refine AW.condD rfl (fun h7 => ?_) (fun h7 => ?_)
 ·
  refine sR ?_
  refine sM ?_
  refine SeqK.q (q_fieldH _ rfl Fx.fl28_2 rfl rfl) rfl rfl rfl ?_
  refine SeqK.r (g_load (r := .a _) rfl Fx.ty23 rfl (by (repeat rw [upd_ne _ _ (by first | assumption | exact Ne.symm (by assumption))]); first | assumption | exact upd_same _ _ _) rfl rfl rfl rfl) rfl ?_
  refine SeqK.q (q_len rfl Fx.un23 rfl) rfl rfl rfl ?_
  refine SeqK.q (q_add _ rfl rfl rfl ((by rw [List.length_map, w64 (by omega) (by omega)] : IntKind.i64.wrap _ = v + (a.ax.length : Int)))) rfl rfl rfl ?_
  refine sA ?_
  refine SeqK.nil ?_
  refine AW.ret ?_
  exact fin_x (x := .c _) (H) (.tmp rfl .nil) rfl (fun _ _ h => h) (⟨iCe (by rw [sh, if_pos (by omega)]), rfl⟩)
 ·
  refine AW.skip ?_
  refine sR ?_
  refine sM ?_
  refine sA ?_
  refine SeqK.nil ?_
  refine AW.ret ?_
  exact fin_x (x := .c _) (H) (.tmp rfl .nil) rfl (fun _ _ h => h) (⟨iCe (by rw [sh, if_neg (by omega)]), rfl⟩)

theorem ren_same (H : Heap) (a : Cl) (ha : nmC VV (fun v => v) a) (hid : rnCl (fun v => v) a = a) : E.Spec Try.prog 32 [clC a, .a (.fn 40 [])] H fun x H' => x = .c (clC a) ∧ H' = H := by
  have h := renamed_any H 40 [] (fun v => v) VV a Fx.fn40 ha (fun v _ H2 _ => same_clos v H2)
  rw [hid] at h
  exact h

set_option maxHeartbeats 4000000 in
set_option maxRecDepth 20000 in
theorem join_any (a b : Cl) (n : Nat) (ha : nmC VV (fun v => v) a) (hid : rnCl (fun v => v) a = a) (hb : nmC VV (sh n a.ax.length) b) (la : lenN a ≤ 80) (lb : lenN b ≤ 80) : Pure Try.prog 18 [clC a, clC b, iC (n : Int)] (.c (clC (jn a (rnCl (sh n a.ax.length) b)))) := by
 intro H
 refine Spec.enter Try.func18 rfl ?_
 refine AW.wk (Wk.keep 59 [(0, .c (clC a)), (1, .c (clC b)), (2, .c (iC (n : Int)))] [] (H) rfl ⟨rfl, rfl, rfl, trivial⟩ trivial (fun _ _ h => h) rfl) ?_
 refine sR ?_
 refine SeqK.newBox (r := [_, _, _, _, _, _, _]) rfl rfl rfl rfl rfl rfl (fun k3 hk3 => ?_)
 refine SeqK.r (b_box (r := [_, _, _, _, _, _, _]) rfl rfl rfl rfl rfl rfl) rfl ?_
 refine SeqK.newBox (r := [_]) rfl rfl rfl rfl rfl rfl (fun k5 hk5 => ?_)
 refine SeqK.r (b_alloc (r := [_, _, _, _, _, _, _]) rfl rfl Fx.ze28 rfl rfl rfl rfl) rfl ?_
 refine SeqK.nil ?_
 refine AW.seq ?_
 have n35 : k3 ≠ k5 := fun e => by rw [← e, upd_same] at hk5; cases hk5
 unfold lenN at la lb
 have hbn : (dd (b.nl.map (sh n a.ax.length))).length ≤ 80 := by have := dd_len (b.nl.map (sh n a.ax.length)); rw [List.length_map] at this; omega
 have hbm : (dd (b.nn.map (sh n a.ax.length))).length ≤ 80 := by have := dd_len (b.nn.map (sh n a.ax.length)); rw [List.length_map] at this; omega
 refine AW.reg ?_
 refine sA ?_
 refine SeqK.nil ?_
 refine sR ?_
 refine SeqK.r (g_load (r := .g [_, _, _, _, _, _, _]) rfl Fx.ty28 rfl (by (repeat rw [upd_ne _ _ (by first | assumption | exact Ne.symm (by assumption))]); first | assumption | exact upd_same _ _ _) rfl rfl rfl rfl) rfl ?_
 refine sM ?_
 refine SeqK.xw 9 rfl XW.fn0 ?_
 refine SeqK.r (g_call rfl Fx.fn32 rfl (ren_same _ a ha hid) rfl rfl rfl) rfl ?_
 refine SeqK.r (g_store rfl rfl Fx.ty28 rfl rfl (by (repeat rw [upd_ne _ _ (by first | assumption | exact Ne.symm (by assumption))]); first | assumption | exact upd_same _ _ _) rfl rfl rfl) rfl ?_
 refine SeqK.nil ?_
 refine AW.seqM (fun s => s = ⟨59, sp [(3, .lp 3 0), (4, .lp 4 0), (6, .lp 6 0)], lv [(3, .box [.t (.sl .un 1 (a.nl.map i64T)), .t (.sl .un 1 (a.nn.map i64T)), .t (.sl .un 4 (a.ax.map axT)), .t (.sl .un 3 (a.is.map ctT)), .t (.sl .un 4 (a.ts.map tsT)), .t (.sl .un 2 (a.sm.map prT)), .t (.sl .un 2 (a.df.map prT))]), (4, .box [.t (.sl .un 1 ((rnCl (sh n a.ax.length) b).nl.map i64T)), .t (.sl .un 1 ((rnCl (sh n a.ax.length) b).nn.map i64T)), .t (.sl .un 4 ((rnCl (sh n a.ax.length) b).ax.map axT)), .t (.sl .un 3 ((rnCl (sh n a.ax.length) b).is.map ctT)), .t (.sl .un 4 ((rnCl (sh n a.ax.length) b).ts.map tsT)), .t (.sl .un 2 ((rnCl (sh n a.ax.length) b).sm.map prT)), .t (.sl .un 2 ((rnCl (sh n a.ax.length) b).df.map prT))]), (6, .box [.t (.v (.slice none 0 0)), .t (.v (.slice none 0 0)), .t (.v (.slice none 0 0)), .t (.v (.slice none 0 0)), .t (.v (.slice none 0 0)), .t (.v (.slice none 0 0)), .t (.v (.slice none 0 0))])], H⟩) ?_ ?_
 ·
  refine AW.reg ?_
  refine SeqK.r (b_load (r := .g [_, _, _, _, _, _, _]) rfl Fx.ty28 rfl rfl rfl rfl rfl rfl) rfl ?_
  refine SeqK.q (q_mkFn rfl rfl rfl) rfl rfl rfl ?_
  refine SeqK.r (g_call rfl Fx.fn32 rfl (renamed_any _ 41 [.bp k5 0, .bp k3 0] (sh n a.ax.length) VV b Fx.fn41 hb (fun v hv H2 h2 => shift_any H2 k5 k3 a n v (h2 _ _ (by rw [upd_ne _ _ n35.symm, upd_same])) (h2 _ _ (upd_same _ _ _)) (by omega) hv)) rfl rfl rfl) rfl ?_
  refine SeqK.r (b_store (r := [_, _, _, _, _, _, _]) rfl rfl Fx.ty28 rfl rfl rfl rfl rfl rfl) rfl ?_
  refine SeqK.nil ?_
  exact ⟨_, (Wk.imp 3 3 k3 0 (upd_same _ _ _) rfl rfl).trans (Wk.keep 59 [(3, .lp 3 0), (4, .lp 4 0), (6, .lp 6 0)] [(3, .box [.t (.sl .un 1 (a.nl.map i64T)), .t (.sl .un 1 (a.nn.map i64T)), .t (.sl .un 4 (a.ax.map axT)), .t (.sl .un 3 (a.is.map ctT)), .t (.sl .un 4 (a.ts.map tsT)), .t (.sl .un 2 (a.sm.map prT)), .t (.sl .un 2 (a.df.map prT))]), (4, .box [.t (.sl .un 1 ((rnCl (sh n a.ax.length) b).nl.map i64T)), .t (.sl .un 1 ((rnCl (sh n a.ax.length) b).nn.map i64T)), .t (.sl .un 4 ((rnCl (sh n a.ax.length) b).ax.map axT)), .t (.sl .un 3 ((rnCl (sh n a.ax.length) b).is.map ctT)), .t (.sl .un 4 ((rnCl (sh n a.ax.length) b).ts.map tsT)), .t (.sl .un 2 ((rnCl (sh n a.ax.length) b).sm.map prT)), .t (.sl .un 2 ((rnCl (sh n a.ax.length) b).df.map prT))]), (6, .box [.t (.v (.slice none 0 0)), .t (.v (.slice none 0 0)), .t (.v (.slice none 0 0)), .t (.v (.slice none 0 0)), .t (.v (.slice none 0 0)), .t (.v (.slice none 0 0)), .t (.v (.slice none 0 0))])] (H) rfl ⟨rfl, rfl, rfl, trivial⟩ ⟨rfl, rfl, rfl, trivial⟩ (fun j o h => by
   have e3 : j ≠ k3 := fun e => by rw [e, hk3] at h; cases h
   have e5 : j ≠ k5 := fun e => by rw [e, (upd_lt hk5).2] at h; cases h
   show upd (upd (upd (upd H k3 _) k5 _) k3 _) k3 none j = _
   rw [upd_ne _ _ e3, upd_ne _ _ e3, upd_ne _ _ e5, upd_ne _ _ e3]; exact h) rfl), rfl⟩
 ·
  rintro s rfl
  refine AW.seq ?_
  refine AW.drawO [0, 1, 2, 3, 4, 7, 8, 9, 10, 11, 14, 15, 16, 17, 18, 20, 21, 22, 23, 24, 26, 27, 28, 29, 30, 32, 33, 34, 35, 36, 38, 39, 40, 41, 42, 5, 6, 12, 13, 19, 25, 31, 37, 43, 44, 45] Fx.mo (by kernel_rfl) ?_
  refine LexO.q rfl (by kernel_rfl) (q_fieldL _ rfl Fx.fl28_0 rfl rfl) rfl rfl rfl ?_
  refine LexO.r rfl (by kernel_rfl) (b_load (r := .a _) rfl Fx.ty22 rfl rfl rfl rfl rfl rfl) rfl ?_
  refine LexO.q rfl (by kernel_rfl) (q_fieldL _ rfl Fx.fl28_0 rfl rfl) rfl rfl rfl ?_
  refine LexO.r rfl (by kernel_rfl) (b_load (r := .a _) rfl Fx.ty22 rfl rfl rfl rfl rfl rfl) rfl ?_
  refine LexO.q rfl (by kernel_rfl) (q_buildSlice _ rfl Fx.el127 rfl (by decide) rfl) rfl rfl rfl ?_
  refine LexO.q rfl (by kernel_rfl) (q_fieldL _ rfl Fx.fl28_1 rfl rfl) rfl rfl rfl ?_
  refine LexO.r rfl (by kernel_rfl) (b_load (r := .a _) rfl Fx.ty22 rfl rfl rfl rfl rfl rfl) rfl ?_
  refine LexO.q rfl (by kernel_rfl) (q_fieldL _ rfl Fx.fl28_1 rfl rfl) rfl rfl rfl ?_
  refine LexO.r rfl (by kernel_rfl) (b_load (r := .a _) rfl Fx.ty22 rfl rfl rfl rfl rfl rfl) rfl ?_
  refine LexO.q rfl (by kernel_rfl) (q_buildSlice _ rfl Fx.el127 rfl (by decide) rfl) rfl rfl rfl ?_
  refine LexO.q rfl (by kernel_rfl) (q_fieldL _ rfl Fx.fl28_2 rfl rfl) rfl rfl rfl ?_
  refine LexO.r rfl (by kernel_rfl) (b_load (r := .a _) rfl Fx.ty23 rfl rfl rfl rfl rfl rfl) rfl ?_
  refine LexO.q rfl (by kernel_rfl) (q_fieldL _ rfl Fx.fl28_2 rfl rfl) rfl rfl rfl ?_
  refine LexO.r rfl (by kernel_rfl) (b_load (r := .a _) rfl Fx.ty23 rfl rfl rfl rfl rfl rfl) rfl ?_
  refine LexO.q rfl (by kernel_rfl) (q_buildSlice _ rfl Fx.el129 rfl (by decide) rfl) rfl rfl rfl ?_
  refine LexO.q rfl (by kernel_rfl) (q_fieldL _ rfl Fx.fl28_3 rfl rfl) rfl rfl rfl ?_
  refine LexO.r rfl (by kernel_rfl) (b_load (r := .a _) rfl Fx.ty24 rfl rfl rfl rfl rfl rfl) rfl ?_
  refine LexO.q rfl (by kernel_rfl) (q_fieldL _ rfl Fx.fl28_3 rfl rfl) rfl rfl rfl ?_
  refine LexO.r rfl (by kernel_rfl) (b_load (r := .a _) rfl Fx.ty24 rfl rfl rfl rfl rfl rfl) rfl ?_
  refine LexO.q rfl (by kernel_rfl) (q_buildSlice _ rfl Fx.el131 rfl (by decide) rfl) rfl rfl rfl ?_
  refine LexO.q rfl (by kernel_rfl) (q_fieldL _ rfl Fx.fl28_4 rfl rfl) rfl rfl rfl ?_
  refine LexO.r rfl (by kernel_rfl) (b_load (r := .a _) rfl Fx.ty25 rfl rfl rfl rfl rfl rfl) rfl ?_
  refine LexO.q rfl (by kernel_rfl) (q_fieldL _ rfl Fx.fl28_4 rfl rfl) rfl rfl rfl ?_
  refine LexO.r rfl (by kernel_rfl) (b_load (r := .a _) rfl Fx.ty25 rfl rfl rfl rfl rfl rfl) rfl ?_
  refine LexO.q rfl (by kernel_rfl) (q_buildSlice _ rfl Fx.el133 rfl (by decide) rfl) rfl rfl rfl ?_
  refine LexO.q rfl (by kernel_rfl) (q_fieldL _ rfl Fx.fl28_5 rfl rfl) rfl rfl rfl ?_
  refine LexO.r rfl (by kernel_rfl) (b_load (r := .a _) rfl Fx.ty26 rfl rfl rfl rfl rfl rfl) rfl ?_
  refine LexO.q rfl (by kernel_rfl) (q_fieldL _ rfl Fx.fl28_5 rfl rfl) rfl rfl rfl ?_
  refine LexO.r rfl (by kernel_rfl) (b_load (r := .a _) rfl Fx.ty26 rfl rfl rfl rfl rfl rfl) rfl ?_
  refine LexO.q rfl (by kernel_rfl) (q_buildSlice _ rfl Fx.el135 rfl (by decide) rfl) rfl rfl rfl ?_
  refine LexO.q rfl (by kernel_rfl) (q_fieldL _ rfl Fx.fl28_6 rfl rfl) rfl rfl rfl ?_
  refine LexO.r rfl (by kernel_rfl) (b_load (r := .a _) rfl Fx.ty26 rfl rfl rfl rfl rfl rfl) rfl ?_
  refine LexO.q rfl (by kernel_rfl) (q_fieldL _ rfl Fx.fl28_6 rfl rfl) rfl rfl rfl ?_
  refine LexO.r rfl (by kernel_rfl) (b_load (r := .a _) rfl Fx.ty26 rfl rfl rfl rfl rfl rfl) rfl ?_
  refine LexO.q rfl (by kernel_rfl) (q_buildSlice _ rfl Fx.el135 rfl (by decide) rfl) rfl rfl rfl ?_
  refine LexO.callE rfl (by kernel_rfl) (by kernel_rfl) (by kernel_rfl) rfl rfl rfl rfl Fx.fn43 rfl (catI_row _ _ _ (by show a.nl.length + (dd (b.nl.map (sh n a.ax.length))).length ≤ _; omega)) (fun _ _ ⟨k, _, h, _⟩ => by rw [h]; rfl) (fun x19 H19 q19 => ?_)
  obtain ⟨k19, hk19, rfl, hH19⟩ := q19
  rw [flatI] at hH19
  subst hH19
  refine LexO.callE rfl (by kernel_rfl) (by kernel_rfl) (by kernel_rfl) rfl rfl rfl rfl Fx.fn42 rfl (sorted_fz _ k19 _ hk19 (by rw [List.length_append]; show a.nl.length + (dd (b.nl.map (sh n a.ax.length))).length ≤ _; omega)) (fun _ _ h => by rw [h.1]; rfl) (fun x20 H20 q20 => ?_)
  obtain ⟨rfl, hH20⟩ := q20
  replace hH20 := hH20.symm
  subst hH20
  refine LexO.callE rfl (by kernel_rfl) (by kernel_rfl) (by kernel_rfl) rfl rfl rfl rfl Fx.fn43 rfl (catI_row _ _ _ (by show a.nn.length + (dd (b.nn.map (sh n a.ax.length))).length ≤ _; omega)) (fun _ _ ⟨k, _, h, _⟩ => by rw [h]; rfl) (fun x26 H26 q26 => ?_)
  obtain ⟨k26, hk26, rfl, hH26⟩ := q26
  rw [flatI] at hH26
  subst hH26
  refine LexO.callE rfl (by kernel_rfl) (by kernel_rfl) (by kernel_rfl) rfl rfl rfl rfl Fx.fn42 rfl (sorted_fz _ k26 _ hk26 (by rw [List.length_append]; show a.nn.length + (dd (b.nn.map (sh n a.ax.length))).length ≤ _; omega)) (fun _ _ h => by rw [h.1]; rfl) (fun x27 H27 q27 => ?_)
  obtain ⟨rfl, hH27⟩ := q27
  replace hH27 := hH27.symm
  subst hH27
  refine LexO.q rfl (by kernel_rfl) (q_call _ rfl Fx.fn44 rfl (catA_any _ _ (by simp only [List.length_map]; omega)) rfl) rfl rfl rfl ?_
  refine LexO.q rfl (by kernel_rfl) (q_call _ rfl Fx.fn45 rfl (catC_any _ _ (by simp only [List.length_map]; omega)) rfl) rfl rfl rfl ?_
  refine LexO.q rfl (by kernel_rfl) (q_call _ rfl Fx.fn46 rfl (catS_any _ _ (by simp only [List.length_map]; omega)) rfl) rfl rfl rfl ?_
  refine LexO.q rfl (by kernel_rfl) (q_call _ rfl Fx.fn47 rfl (cat_any _ _ (by simp only [List.length_map]; omega)) rfl) rfl rfl rfl ?_
  refine LexO.q rfl (by kernel_rfl) (q_call _ rfl Fx.fn47 rfl (cat_any _ _ (by simp only [List.length_map]; omega)) rfl) rfl rfl rfl ?_
  refine LexO.q rfl (by kernel_rfl) (q_build2 (zs := [_, _, _, _, _, _, _]) (r := [_, _, _, _, _, _, _]) [(0, 1), (1, 1), (2, 1), (3, 1), (4, 1), (5, 1), (6, 1)] _ rfl Fx.ze28 rfl Fx.bp28 rfl rfl rfl rfl) rfl rfl rfl ?_
  refine LexO.r rfl (by kernel_rfl) (b_store (r := [_, _, _, _, _, _, _]) rfl rfl Fx.ty28 rfl rfl rfl rfl rfl rfl) rfl ?_
  refine LexO.nil (by kernel_rfl) ?_
  refine AW.ret ?_
  exact fin_x (x := .c _) (H) (.cellL rfl rfl Fx.ty28 rfl rfl .nil) rfl (fun _ _ h => h) (⟨rfl, rfl⟩)

end Go.Proofs.Ytnmfjojhgfipcaa.W
namespace Go.Proofs.Ytnmfjojhgfipcaa.W
open Go.RowKit E
set_option linter.unusedVariables false
set_option linter.unusedSimpArgs false
set_option linter.unusedSectionVars false
def rgI (n : Nat) : List Int := (List.range n).map fun i : Nat => (i : Int)
theorem rgI_len (n : Nat) : (rgI n).length = n := by rw [rgI, List.length_map, List.length_range]
theorem rgI_succ (n : Nat) : rgI (n + 1) = rgI n ++ [(n : Int)] := by rw [rgI, List.range_succ, List.map_append]; rfl
theorem rgI_at {n i : Nat} (h : i < (rgI n).length) : (rgI n)[i] = (i : Int) := by simp [rgI]
theorem XW.nilTs {k sz : Nat} : XW (.c (.a (.t (.v (.slice none 0 0))))) (.c (.a (.ts k .ne sz []))) := ⟨rfl, fun c v h => by
  have := rep_tv h; subst this; exact RepA.ts0⟩

set_option maxHeartbeats 8000000 in
set_option maxRecDepth 20000 in
theorem rjoin_any (a b : Cl) (n : Nat) (hn : n ≤ 1000) (hb : nmC VV (ren (rgI n) ((n + a.ax.length : Nat) : Int)) b) (la : lenN a ≤ 80) (lb : lenN b ≤ 80) : Pure Try.prog 19 [clC a, clC b, iC (n : Int)] (.c (clC (jn a (rnCl (ren (rgI n) ((n + a.ax.length : Nat) : Int)) b)))) := by
 intro H
 refine Spec.enter Try.func19 rfl ?_
 refine AW.wk (Wk.keep 91 [(0, .c (clC a)), (1, .c (clC b)), (2, .c (iC (n : Int)))] [] (H) rfl ⟨rfl, rfl, rfl, trivial⟩ trivial (fun _ _ h => h) rfl) ?_
 refine sR ?_
 refine SeqK.r (b_box (r := [_, _, _, _, _, _, _]) rfl rfl rfl rfl rfl rfl) rfl ?_
 refine SeqK.r (b_box (r := [_, _, _, _, _, _, _]) rfl rfl rfl rfl rfl rfl) rfl ?_
 refine SeqK.r (b_alloc (r := [_, _, _, _, _, _, _]) rfl rfl Fx.ze28 rfl rfl rfl rfl) rfl ?_
 refine SeqK.nil ?_
 refine AW.seq ?_
 unfold lenN at la lb
 refine AW.reg ?_
 refine sA ?_
 refine SeqK.nil ?_
 refine AW.seq ?_
 refine sR ?_
 refine sA ?_
 refine SeqK.nil ?_
 refine AW.block ?_
 refine AW.tip 7 3 1 rfl (fun k0 hk0 => ?_)
 refine AW.loop (fun (i : Nat) s => ∃ (kt : Nat) (zs : List (List E.T)), (i ≤ n ∧ H kt = none ∧ zs = (rgI i).map i64T) ∧ s = ⟨91, sp [(2, .c (iC (n : Int))), (3, .lp 3 0), (4, .lp 4 0), (6, .lp 6 0), (7, .c (.a (.ts kt .ne 1 zs))), (8, iX .i64 ((i : Nat) : Int))], lv [(3, .box [.t (.sl .un 1 (a.nl.map i64T)), .t (.sl .un 1 (a.nn.map i64T)), .t (.sl .un 4 (a.ax.map axT)), .t (.sl .un 3 (a.is.map ctT)), .t (.sl .un 4 (a.ts.map tsT)), .t (.sl .un 2 (a.sm.map prT)), .t (.sl .un 2 (a.df.map prT))]), (4, .box [.t (.sl .un 1 (b.nl.map i64T)), .t (.sl .un 1 (b.nn.map i64T)), .t (.sl .un 4 (b.ax.map axT)), .t (.sl .un 3 (b.is.map ctT)), .t (.sl .un 4 (b.ts.map tsT)), .t (.sl .un 2 (b.sm.map prT)), .t (.sl .un 2 (b.df.map prT))]), (6, .box [.t (.v (.slice none 0 0)), .t (.v (.slice none 0 0)), .t (.v (.slice none 0 0)), .t (.v (.slice none 0 0)), .t (.v (.slice none 0 0)), .t (.v (.slice none 0 0)), .t (.v (.slice none 0 0))])], (upd H kt (some (.tip 3 1 zs.length)))⟩) (fun i => n - i) 0 ⟨_, Wk.keep 91 [(2, .c (iC (n : Int))), (3, .lp 3 0), (4, .lp 4 0), (6, .lp 6 0), (7, .c (.a (.ts (k0) .ne 1 ([])))), (8, iX .i64 ((((0 : Nat)) : Nat) : Int))] [(3, .box [.t (.sl .un 1 (a.nl.map i64T)), .t (.sl .un 1 (a.nn.map i64T)), .t (.sl .un 4 (a.ax.map axT)), .t (.sl .un 3 (a.is.map ctT)), .t (.sl .un 4 (a.ts.map tsT)), .t (.sl .un 2 (a.sm.map prT)), .t (.sl .un 2 (a.df.map prT))]), (4, .box [.t (.sl .un 1 (b.nl.map i64T)), .t (.sl .un 1 (b.nn.map i64T)), .t (.sl .un 4 (b.ax.map axT)), .t (.sl .un 3 (b.is.map ctT)), .t (.sl .un 4 (b.ts.map tsT)), .t (.sl .un 2 (b.sm.map prT)), .t (.sl .un 2 (b.df.map prT))]), (6, .box [.t (.v (.slice none 0 0)), .t (.v (.slice none 0 0)), .t (.v (.slice none 0 0)), .t (.v (.slice none 0 0)), .t (.v (.slice none 0 0)), .t (.v (.slice none 0 0)), .t (.v (.slice none 0 0))])] ((upd H (k0) (some (.tip 3 1 ([]).length)))) rfl ⟨rfl, rfl, rfl, rfl, rfl, rfl, trivial⟩ ⟨rfl, rfl, rfl, trivial⟩ (fun _ _ h => h) rfl, k0, [], ⟨Nat.zero_le _, hk0, rfl⟩, rfl⟩ (fun i s hs => ?_)
 obtain ⟨kt, zs, ⟨hi0, hkt, hzs⟩, rfl⟩ := hs
 refine AW.seq ?_
 refine sR ?_
 refine sM ?_
 refine sM ?_
 refine SeqK.q (q_lss rfl rfl rfl) rfl rfl rfl ?_
 refine SeqK.nil ?_
 refine AW.condD rfl (fun h13 => ?_) (fun h13 => ?_)
 ·
  have hi : i < n := by omega
  refine AW.skip ?_
  refine AW.seq ?_
  refine AW.block ?_
  refine AW.reg ?_
  refine sM ?_
  refine sM ?_
  refine SeqK.q (q_buildSlice _ rfl Fx.el22 rfl (by decide) rfl) rfl rfl rfl ?_
  refine SeqK.app1 rfl (hkt) rfl Fx.el22 rfl rfl (by have := len_i hzs; rw [rgI_len] at this; simp; omega) rfl rfl (fun k19 hk19 => ?_)
  refine sA ?_
  refine SeqK.nil ?_
  refine AW.reg ?_
  refine sM ?_
  refine SeqK.q (q_add _ rfl rfl rfl (w64 (by omega) (by omega))) rfl rfl rfl ?_
  refine sA ?_
  refine SeqK.nil ?_
  exact ⟨i + 1, _, Wk.keep 91 [(2, .c (iC (n : Int))), (3, .lp 3 0), (4, .lp 4 0), (6, .lp 6 0), (7, .c (.a (.ts (k19) .ne 1 (zs ++ [i64T (i : Int)])))), (8, iX .i64 (((i + 1) : Nat) : Int))] [(3, .box [.t (.sl .un 1 (a.nl.map i64T)), .t (.sl .un 1 (a.nn.map i64T)), .t (.sl .un 4 (a.ax.map axT)), .t (.sl .un 3 (a.is.map ctT)), .t (.sl .un 4 (a.ts.map tsT)), .t (.sl .un 2 (a.sm.map prT)), .t (.sl .un 2 (a.df.map prT))]), (4, .box [.t (.sl .un 1 (b.nl.map i64T)), .t (.sl .un 1 (b.nn.map i64T)), .t (.sl .un 4 (b.ax.map axT)), .t (.sl .un 3 (b.is.map ctT)), .t (.sl .un 4 (b.ts.map tsT)), .t (.sl .un 2 (b.sm.map prT)), .t (.sl .un 2 (b.df.map prT))]), (6, .box [.t (.v (.slice none 0 0)), .t (.v (.slice none 0 0)), .t (.v (.slice none 0 0)), .t (.v (.slice none 0 0)), .t (.v (.slice none 0 0)), .t (.v (.slice none 0 0)), .t (.v (.slice none 0 0))])] ((upd H (k19) (some (.tip 3 1 (zs ++ [i64T (i : Int)]).length)))) rfl ⟨rfl, rfl, rfl, rfl, rfl, rfl, trivial⟩ ⟨rfl, rfl, rfl, trivial⟩ (fun _ _ h => h) rfl, by omega, k19, zs ++ [i64T (i : Int)], ⟨hi, hk19, by rw [hzs, rgI_succ, List.map_append]; rfl⟩, rfl⟩
 ·
  refine AW.exit ?_
  refine eth_e ?_
  refine eth_e ?_
  refine exit_here ?_
  refine AW.seq ?_
  obtain rfl : n = i := by omega
  refine AW.xw 7 rfl (XW.ts.trans (XW.es hzs)) ?_
  refine AW.reg ?_
  refine SeqK.r (b_load (r := .g [_, _, _, _, _, _, _]) rfl Fx.ty28 rfl rfl rfl rfl rfl rfl) rfl ?_
  refine sM ?_
  refine sM ?_
  refine SeqK.q (q_fieldL _ rfl Fx.fl28_2 rfl rfl) rfl rfl rfl ?_
  refine SeqK.r (b_load (r := .a _) rfl Fx.ty23 rfl rfl rfl rfl rfl rfl) rfl ?_
  refine SeqK.q (q_len rfl Fx.un23 rfl) rfl rfl rfl ?_
  refine SeqK.q (q_add _ rfl rfl rfl ((by rw [List.length_map, w64 (by omega) (by omega)]; omega : IntKind.i64.wrap _ = ((n + a.ax.length : Nat) : Int)))) rfl rfl rfl ?_
  refine SeqK.q (q_call _ rfl Fx.fn17 rfl (rrename_any b (rgI n) .un ((n + a.ax.length : Nat) : Int) (by rw [rgI_len]; omega) (by omega) hb) rfl) rfl rfl rfl ?_
  refine SeqK.r (b_alloc (r := [_, _, _, _, _, _, _]) rfl rfl Fx.ze28 rfl rfl rfl rfl) rfl ?_
  refine SeqK.r (b_store (r := [_, _, _, _, _, _, _]) rfl rfl Fx.ty28 rfl rfl rfl rfl rfl rfl) rfl ?_
  refine SeqK.nil ?_
  have cnl : (rnCl (ren (rgI n) ((n + a.ax.length : Nat) : Int)) b).nl.length ≤ 80 := by have := dd_len (b.nl.map (ren (rgI n) ((n + a.ax.length : Nat) : Int))); rw [List.length_map] at this; show (dd _).length ≤ _; omega
  have cnn : (rnCl (ren (rgI n) ((n + a.ax.length : Nat) : Int)) b).nn.length ≤ 80 := by have := dd_len (b.nn.map (ren (rgI n) ((n + a.ax.length : Nat) : Int))); rw [List.length_map] at this; show (dd _).length ≤ _; omega
  have cax : (rnCl (ren (rgI n) ((n + a.ax.length : Nat) : Int)) b).ax.length ≤ 80 := by show (List.map _ _).length ≤ _; rw [List.length_map]; omega
  have cis : (rnCl (ren (rgI n) ((n + a.ax.length : Nat) : Int)) b).is.length ≤ 80 := by show (List.map _ _).length ≤ _; rw [List.length_map]; omega
  have cts : (rnCl (ren (rgI n) ((n + a.ax.length : Nat) : Int)) b).ts.length ≤ 80 := by show (List.map _ _).length ≤ _; rw [List.length_map]; omega
  have csm : (rnCl (ren (rgI n) ((n + a.ax.length : Nat) : Int)) b).sm.length ≤ 80 := by show (List.map _ _).length ≤ _; rw [List.length_map]; omega
  have cdf : (rnCl (ren (rgI n) ((n + a.ax.length : Nat) : Int)) b).df.length ≤ 80 := by show (List.map _ _).length ≤ _; rw [List.length_map]; omega
  refine AW.seq ?_
  refine AW.draw Fx.mo ?_
  refine LexK.q (q_build0 rfl Fx.el22) rfl rfl rfl ?_
  refine LexK.q (q_fieldL _ rfl Fx.fl28_0 rfl rfl) rfl rfl rfl ?_
  refine LexK.r (b_load (r := .a _) rfl Fx.ty22 rfl rfl rfl rfl rfl rfl) rfl ?_
  refine LexK.r (b_app0 rfl Fx.el22 rfl rfl (by rw [List.length_map]; omega) rfl rfl rfl) rfl ?_
  refine LexK.q (q_fieldL _ rfl Fx.fl28_0 rfl rfl) rfl rfl rfl ?_
  refine LexK.r (b_load (r := .a _) rfl Fx.ty22 rfl rfl rfl rfl rfl rfl) rfl ?_
  refine LexK.r (b_app rfl Fx.el22 rfl rfl rfl ((by rw [← List.map_append] : _ = (a.nl ++ (rnCl (ren (rgI n) ((n + a.ax.length : Nat) : Int)) b).nl).map i64T)) (by rw [List.length_map, List.length_append]; omega) rfl rfl) rfl ?_
  refine LexK.q (q_call _ rfl Fx.fn38 rfl (rsorted_any _ .nn (by rw [List.length_append]; omega)) rfl) rfl rfl rfl ?_
  refine LexK.q (q_build0 rfl Fx.el22) rfl rfl rfl ?_
  refine LexK.q (q_fieldL _ rfl Fx.fl28_1 rfl rfl) rfl rfl rfl ?_
  refine LexK.r (b_load (r := .a _) rfl Fx.ty22 rfl rfl rfl rfl rfl rfl) rfl ?_
  refine LexK.r (b_app0 rfl Fx.el22 rfl rfl (by rw [List.length_map]; omega) rfl rfl rfl) rfl ?_
  refine LexK.q (q_fieldL _ rfl Fx.fl28_1 rfl rfl) rfl rfl rfl ?_
  refine LexK.r (b_load (r := .a _) rfl Fx.ty22 rfl rfl rfl rfl rfl rfl) rfl ?_
  refine LexK.r (b_app rfl Fx.el22 rfl rfl rfl ((by rw [← List.map_append] : _ = (a.nn ++ (rnCl (ren (rgI n) ((n + a.ax.length : Nat) : Int)) b).nn).map i64T)) (by rw [List.length_map, List.length_append]; omega) rfl rfl) rfl ?_
  refine LexK.q (q_call _ rfl Fx.fn38 rfl (rsorted_any _ .nn (by rw [List.length_append]; omega)) rfl) rfl rfl rfl ?_
  refine LexK.q (q_build2 (zs := [_, _, _, _, _, _, _]) (r := [_, _, _, _, _, _, _]) [(0, 1), (1, 1), (2, 1), (3, 1), (4, 1), (5, 1), (6, 1)] _ rfl Fx.ze28 rfl Fx.bp28 rfl rfl rfl rfl) rfl rfl rfl ?_
  refine LexK.r (b_alloc (r := [_, _, _, _, _, _, _]) rfl rfl Fx.ze28 rfl rfl rfl rfl) rfl ?_
  refine LexK.r (b_store (r := [_, _, _, _, _, _, _]) rfl rfl Fx.ty28 rfl rfl rfl rfl rfl rfl) rfl ?_
  refine LexK.nil (by kernel_rfl) ?_
  refine AW.seq ?_
  refine AW.xwL 10 rfl (.cons XW.reA (.cons XW.reA (.cons (XW.nilTs (k := 0) (sz := 4)) (.cons (XW.nilTs (k := 0) (sz := 3)) (.cons (XW.nilTs (k := 0) (sz := 4)) (.cons (XW.nilTs (k := 0) (sz := 2)) (.cons (XW.nilTs (k := 0) (sz := 2)) .nil))))))) ?_
  refine AW.draw Fx.mo ?_
  refine LexK.q (q_fieldL _ rfl Fx.fl28_2 rfl rfl) rfl rfl rfl ?_
  refine LexK.r (b_load (r := .a _) rfl Fx.ty23 rfl rfl rfl rfl rfl rfl) rfl ?_
  refine LexK.q (q_fieldL _ rfl Fx.fl28_2 rfl rfl) rfl rfl rfl ?_
  refine LexK.r (b_load (r := .a _) rfl Fx.ty23 rfl rfl rfl rfl rfl rfl) rfl ?_
  refine LexK.r (b_app0 rfl Fx.el23 rfl rfl (by rw [List.length_map]; omega) rfl rfl rfl) rfl ?_
  refine LexK.q (q_fieldL _ rfl Fx.fl28_2 rfl rfl) rfl rfl rfl ?_
  refine LexK.r (b_load (r := .a _) rfl Fx.ty23 rfl rfl rfl rfl rfl rfl) rfl ?_
  refine LexK.r (b_app rfl Fx.el23 rfl rfl rfl ((by rw [← List.map_append] : _ = (a.ax ++ (rnCl (ren (rgI n) ((n + a.ax.length : Nat) : Int)) b).ax).map axT)) (by rw [List.length_map, List.length_append]; omega) rfl rfl) rfl ?_
  refine LexK.q (q_fieldL _ rfl Fx.fl28_2 rfl rfl) rfl rfl rfl ?_
  refine LexK.r (b_store (r := [_, _, _, _, _, _, _]) rfl rfl Fx.ty23 rfl rfl rfl rfl rfl rfl) rfl ?_
  refine LexK.nil (by kernel_rfl) ?_
  refine AW.seq ?_
  refine AW.draw Fx.mo ?_
  refine LexK.q (q_fieldL _ rfl Fx.fl28_3 rfl rfl) rfl rfl rfl ?_
  refine LexK.r (b_load (r := .a _) rfl Fx.ty24 rfl rfl rfl rfl rfl rfl) rfl ?_
  refine LexK.q (q_fieldL _ rfl Fx.fl28_3 rfl rfl) rfl rfl rfl ?_
  refine LexK.r (b_load (r := .a _) rfl Fx.ty24 rfl rfl rfl rfl rfl rfl) rfl ?_
  refine LexK.r (b_app0 rfl Fx.el24 rfl rfl (by rw [List.length_map]; omega) rfl rfl rfl) rfl ?_
  refine LexK.q (q_fieldL _ rfl Fx.fl28_3 rfl rfl) rfl rfl rfl ?_
  refine LexK.r (b_load (r := .a _) rfl Fx.ty24 rfl rfl rfl rfl rfl rfl) rfl ?_
  refine LexK.r (b_app rfl Fx.el24 rfl rfl rfl ((by rw [← List.map_append] : _ = (a.is ++ (rnCl (ren (rgI n) ((n + a.ax.length : Nat) : Int)) b).is).map ctT)) (by rw [List.length_map, List.length_append]; omega) rfl rfl) rfl ?_
  refine LexK.q (q_fieldL _ rfl Fx.fl28_3 rfl rfl) rfl rfl rfl ?_
  refine LexK.r (b_store (r := [_, _, _, _, _, _, _]) rfl rfl Fx.ty24 rfl rfl rfl rfl rfl rfl) rfl ?_
  refine LexK.nil (by kernel_rfl) ?_
  refine AW.seq ?_
  refine AW.draw Fx.mo ?_
  refine LexK.q (q_fieldL _ rfl Fx.fl28_4 rfl rfl) rfl rfl rfl ?_
  refine LexK.r (b_load (r := .a _) rfl Fx.ty25 rfl rfl rfl rfl rfl rfl) rfl ?_
  refine LexK.q (q_fieldL _ rfl Fx.fl28_4 rfl rfl) rfl rfl rfl ?_
  refine LexK.r (b_load (r := .a _) rfl Fx.ty25 rfl rfl rfl rfl rfl rfl) rfl ?_
  refine LexK.r (b_app0 rfl Fx.el25 rfl rfl (by rw [List.length_map]; omega) rfl rfl rfl) rfl ?_
  refine LexK.q (q_fieldL _ rfl Fx.fl28_4 rfl rfl) rfl rfl rfl ?_
  refine LexK.r (b_load (r := .a _) rfl Fx.ty25 rfl rfl rfl rfl rfl rfl) rfl ?_
  refine LexK.r (b_app rfl Fx.el25 rfl rfl rfl ((by rw [← List.map_append] : _ = (a.ts ++ (rnCl (ren (rgI n) ((n + a.ax.length : Nat) : Int)) b).ts).map tsT)) (by rw [List.length_map, List.length_append]; omega) rfl rfl) rfl ?_
  refine LexK.q (q_fieldL _ rfl Fx.fl28_4 rfl rfl) rfl rfl rfl ?_
  refine LexK.r (b_store (r := [_, _, _, _, _, _, _]) rfl rfl Fx.ty25 rfl rfl rfl rfl rfl rfl) rfl ?_
  refine LexK.nil (by kernel_rfl) ?_
  refine AW.seq ?_
  refine AW.draw Fx.mo ?_
  refine LexK.q (q_fieldL _ rfl Fx.fl28_5 rfl rfl) rfl rfl rfl ?_
  refine LexK.r (b_load (r := .a _) rfl Fx.ty26 rfl rfl rfl rfl rfl rfl) rfl ?_
  refine LexK.q (q_fieldL _ rfl Fx.fl28_5 rfl rfl) rfl rfl rfl ?_
  refine LexK.r (b_load (r := .a _) rfl Fx.ty26 rfl rfl rfl rfl rfl rfl) rfl ?_
  refine LexK.r (b_app0 rfl Fx.el26 rfl rfl (by rw [List.length_map]; omega) rfl rfl rfl) rfl ?_
  refine LexK.q (q_fieldL _ rfl Fx.fl28_5 rfl rfl) rfl rfl rfl ?_
  refine LexK.r (b_load (r := .a _) rfl Fx.ty26 rfl rfl rfl rfl rfl rfl) rfl ?_
  refine LexK.r (b_app rfl Fx.el26 rfl rfl rfl ((by rw [← List.map_append] : _ = (a.sm ++ (rnCl (ren (rgI n) ((n + a.ax.length : Nat) : Int)) b).sm).map prT)) (by rw [List.length_map, List.length_append]; omega) rfl rfl) rfl ?_
  refine LexK.q (q_fieldL _ rfl Fx.fl28_5 rfl rfl) rfl rfl rfl ?_
  refine LexK.r (b_store (r := [_, _, _, _, _, _, _]) rfl rfl Fx.ty26 rfl rfl rfl rfl rfl rfl) rfl ?_
  refine LexK.nil (by kernel_rfl) ?_
  refine AW.seq ?_
  refine AW.draw Fx.mo ?_
  refine LexK.q (q_fieldL _ rfl Fx.fl28_6 rfl rfl) rfl rfl rfl ?_
  refine LexK.r (b_load (r := .a _) rfl Fx.ty26 rfl rfl rfl rfl rfl rfl) rfl ?_
  refine LexK.q (q_fieldL _ rfl Fx.fl28_6 rfl rfl) rfl rfl rfl ?_
  refine LexK.r (b_load (r := .a _) rfl Fx.ty26 rfl rfl rfl rfl rfl rfl) rfl ?_
  refine LexK.r (b_app0 rfl Fx.el26 rfl rfl (by rw [List.length_map]; omega) rfl rfl rfl) rfl ?_
  refine LexK.q (q_fieldL _ rfl Fx.fl28_6 rfl rfl) rfl rfl rfl ?_
  refine LexK.r (b_load (r := .a _) rfl Fx.ty26 rfl rfl rfl rfl rfl rfl) rfl ?_
  refine LexK.r (b_app rfl Fx.el26 rfl rfl rfl ((by rw [← List.map_append] : _ = (a.df ++ (rnCl (ren (rgI n) ((n + a.ax.length : Nat) : Int)) b).df).map prT)) (by rw [List.length_map, List.length_append]; omega) rfl rfl) rfl ?_
  refine LexK.q (q_fieldL _ rfl Fx.fl28_6 rfl rfl) rfl rfl rfl ?_
  refine LexK.r (b_store (r := [_, _, _, _, _, _, _]) rfl rfl Fx.ty26 rfl rfl rfl rfl rfl rfl) rfl ?_
  refine LexK.nil (by kernel_rfl) ?_
  refine sR ?_
  refine SeqK.r (b_load (r := .g [_, _, _, _, _, _, _]) rfl Fx.ty28 rfl rfl rfl rfl rfl rfl) rfl ?_
  refine SeqK.xw 90 rfl (XW.g (.cons XW.reA (.cons XW.reA (.cons XW.un (.cons XW.un (.cons XW.un (.cons XW.un (.cons XW.un .nil)))))))) ?_
  refine SeqK.r (b_store (r := [_, _, _, _, _, _, _]) rfl rfl Fx.ty28 rfl rfl rfl rfl rfl rfl) rfl ?_
  refine SeqK.nil ?_
  refine AW.ret ?_
  exact fin_x (x := .c _) (H) (.cellL rfl rfl Fx.ty28 rfl rfl .nil) rfl ((fun j o h => upd_sub hkt j o h)) (⟨rfl, rfl⟩)

end Go.Proofs.Ytnmfjojhgfipcaa.W
namespace Go.Proofs.Ytnmfjojhgfipcaa.W
open Go.RowKit E
set_option linter.unusedVariables false
set_option linter.unusedSimpArgs false
set_option linter.unusedSectionVars false
/-! what a conjunction keeps -/
theorem cofs_sorted {L : List Cf} (h : sI (L.map (·.v))) : cofs L = L := by
  have hn : (L.map (·.v)).Nodup := sI_nodup h
  rw [cofs, dd_self h, List.map_map]
  conv => rhs; rw [← List.map_id L]
  exact List.map_congr_left fun k hk => by
    show (⟨k.v, cval L k.v⟩ : Cf) = k
    rw [cval_mem hn hk]
section
variable {gv : Int → Int}
theorem nmF_inj (J : ∀ v w, 0 ≤ v → 0 ≤ w → gv v = gv w → v = w) {f : Lf} {nn : List Int} {l : List Vr} {bs : List Nat} (hf : formP f nn l bs) (hl : l.length ≤ 10) (hb : bs.length ≤ 80) (hc : f.cs.length ≤ 400) : nmF VV gv f := by
  have hm : ∀ k ∈ f.cs, (0 ≤ k.v ∧ k.v < l.length + bs.length) ∧ k.n ≠ 0 := fun k hk => by
    obtain ⟨j, hj, rfl⟩ := List.mem_iff_getElem.1 hk
    have := hf.2.1 j hj; exact ⟨this.1, this.2.2.1⟩
  have hs : sI (f.cs.map (·.v)) := pw_of_step fun j hj h0 => by
    rw [List.getElem_map, List.getElem_map]
    exact (hf.2.1 j (by simpa using hj)).2.1 h0
  refine ⟨by omega, fun k hk => ?_, fun k hk => (hm k hk).2, List.pairwise_map.2 (((List.pairwise_map.1 hs).imp_of_mem fun {a b} ha hb hab e => ?_))⟩
  · have := (hm k hk).1; show _ ∧ _; omega
  · have := J _ _ (hm a ha).1.1 (hm b hb).1.1 e
    omega
theorem nmF_nil' {f : Lf} (h : f.cs.length = 0) : nmF VV gv f := by
  have : f.cs = [] := List.eq_nil_of_length_eq_zero h
  exact ⟨by omega, by simp [this], by simp [this], by simp [this]⟩
theorem nmC_inj (J : ∀ v w, 0 ≤ v → 0 ≤ w → gv v = gv w → v = w) {c : Cl} {l : List Vr} (hl : l.length ≤ 10) (hf : fewP c) (hv : vldP c l) : nmC VV gv c := by
  obtain ⟨f1, _, f3⟩ := hf
  unfold lenN at f1
  obtain ⟨h1, h2, h3, h4, h5, h6, h7⟩ := hv
  have hax : ∀ a ∈ c.ax, a.f.cs.length ≤ 400 := fun a ha => by
    have : a.f.cs.length ≤ axN c.ax := sumL_mem (f := fun a : Ax => a.f.cs.length) ha
    omega
  have his : ∀ a ∈ c.is, a.f.cs.length ≤ 400 := fun a ha => by
    have : a.f.cs.length ≤ isN c.is := sumL_mem (f := fun a : Ct => a.f.cs.length) ha
    omega
  refine ⟨by omega, by omega, by omega, by omega, by omega, by omega, by omega, fun v hv => ?_, fun v hv => ?_, fun a ha hb => ?_, fun a ha => ?_, fun a ha => ?_, fun t ht => ?_, fun p hp => ?_, fun p hp => ?_⟩
  · obtain ⟨j, hj, rfl⟩ := List.mem_iff_getElem.1 hv
    have := h1 j hj; show _ ∧ _; exact ⟨this.1, by have := this.2.1; omega⟩
  · obtain ⟨j, hj, rfl⟩ := List.mem_iff_getElem.1 hv
    have := h2 j hj; show _ ∧ _; exact ⟨this.1, by have := this.2.1; omega⟩
  · obtain ⟨j, hj, rfl⟩ := List.mem_iff_getElem.1 ha
    rcases h3 j hj with ⟨_, _, _, k, _⟩ | ⟨k, _⟩
    · show _ ∧ _; exact ⟨k.1, by have := k.2; omega⟩
    · exact absurd hb k
  · have hlen := hax a ha
    obtain ⟨j, hj, rfl⟩ := List.mem_iff_getElem.1 ha
    rcases h3 j hj with ⟨_, k, _⟩ | ⟨_, k, _⟩
    · exact nmF_nil' k
    · exact nmF_inj J k hl (by rw [bsF_len, List.length_take]; omega) hlen
  · have hlen := his a ha
    obtain ⟨j, hj, rfl⟩ := List.mem_iff_getElem.1 ha
    exact nmF_inj J (h4 j hj) hl (by rw [bsF_len]; omega) hlen
  · obtain ⟨j, hj, rfl⟩ := List.mem_iff_getElem.1 ht
    have := (h5 j hj).2.1; show _ ∧ _; exact ⟨this.1, by have := this.2; omega⟩
  · obtain ⟨j, hj, rfl⟩ := List.mem_iff_getElem.1 hp
    have a := (h6 j hj).1.1; have b := (h6 j hj).2.1.1; exact ⟨⟨a.1, by have := a.2; omega⟩, ⟨b.1, by have := b.2; omega⟩⟩
  · obtain ⟨j, hj, rfl⟩ := List.mem_iff_getElem.1 hp
    have a := (h7 j hj).1.1; have b := (h7 j hj).2.1.1; exact ⟨⟨a.1, by have := a.2; omega⟩, ⟨b.1, by have := b.2; omega⟩⟩
/-- names that agree on the variables of a clause rename it alike -/
theorem rnCl_congr {gv' : Int → Int} {V : Int → Prop} {c : Cl} (h : ∀ v, V v → gv v = gv' v) (hc : nmC V gv c) : rnCl gv c = rnCl gv' c := by
  have hF : ∀ f : Lf, nmF V gv f → rnF gv f = rnF gv' f := fun f hf => by
    have e : f.cs.map (rnK gv) = f.cs.map (rnK gv') := List.map_congr_left fun k hk => by rw [rnK, rnK, h _ (hf.v k hk)]
    show (⟨f.c, cofs (f.cs.map (rnK gv))⟩ : Lf) = ⟨f.c, cofs (f.cs.map (rnK gv'))⟩
    rw [e]
  have e1 : c.nl.map gv = c.nl.map gv' := List.map_congr_left fun v hv => h v (hc.nl v hv)
  have e2 : c.nn.map gv = c.nn.map gv' := List.map_congr_left fun v hv => h v (hc.nn v hv)
  have e3 : c.ax.map (rnA gv) = c.ax.map (rnA gv') := List.map_congr_left fun a ha => by
    show (⟨rnF gv a.f, a.b, if a.b = 0 then gv a.t else a.t⟩ : Ax) = ⟨rnF gv' a.f, a.b, if a.b = 0 then gv' a.t else a.t⟩
    rw [hF _ (hc.ax a ha)]
    by_cases hb : a.b = 0
    · rw [if_pos hb, if_pos hb, h _ (hc.axt a ha hb)]
    · rw [if_neg hb, if_neg hb]
  have e4 : c.is.map (rnI gv) = c.is.map (rnI gv') := List.map_congr_left fun a ha => by
    show (⟨rnF gv a.f, a.e⟩ : Ct) = ⟨rnF gv' a.f, a.e⟩
    rw [hF _ (hc.is a ha)]
  have e5 : c.ts.map (rnT gv) = c.ts.map (rnT gv') := List.map_congr_left fun t ht => by
    show (⟨gv t.v, t.k, t.n, t.s⟩ : Ts) = ⟨gv' t.v, t.k, t.n, t.s⟩
    rw [h _ (hc.ts t ht)]
  have e6 : c.sm.map (rnP gv) = c.sm.map (rnP gv') := List.map_congr_left fun p hp => by
    show (min (gv p.1) (gv p.2), max (gv p.1) (gv p.2)) = (min (gv' p.1) (gv' p.2), max (gv' p.1) (gv' p.2))
    rw [h _ (hc.sm p hp).1, h _ (hc.sm p hp).2]
  have e7 : c.df.map (rnP gv) = c.df.map (rnP gv') := List.map_congr_left fun p hp => by
    show (min (gv p.1) (gv p.2), max (gv p.1) (gv p.2)) = (min (gv' p.1) (gv' p.2), max (gv' p.1) (gv' p.2))
    rw [h _ (hc.df p hp).1, h _ (hc.df p hp).2]
  show (⟨_, _, _, _, _, _, _⟩ : Cl) = ⟨_, _, _, _, _, _, _⟩
  rw [e1, e2, e3, e4, e5, e6, e7]
end
theorem sh_inj {n k : Nat} : ∀ v w : Int, 0 ≤ v → 0 ≤ w → sh n k v = sh n k w → v = w := fun v w h0 h1 h => by
  unfold sh at h
  split at h <;> split at h <;> omega
theorem sh_ren {n k : Nat} {v : Int} (h : VV v) : sh n k v = ren (rgI n) ((n + k : Nat) : Int) v := by
  obtain ⟨h0, _⟩ := h
  unfold sh
  by_cases hv : (n : Int) ≤ v
  · rw [if_pos hv, ren_hi (by rw [rgI_len]; exact hv), rgI_len]; omega
  · have hl : v.toNat < (rgI n).length := by rw [rgI_len]; omega
    rw [if_neg hv, ren_lo (by rw [rgI_len]; exact hv) hl, rgI_at]; omega
theorem asc_sI {l : List Int} {n : Int} (h : ascP l n) : sI l := pw_of_step fun j hj h0 => (h j hj).2.2 h0
theorem asc_of {l : List Int} {n : Int} (h : sI l) (hm : ∀ x ∈ l, 0 ≤ x ∧ x < n) : ascP l n := fun j hj => by
  have := hm _ (List.getElem_mem hj)
  exact ⟨this.1, this.2, fun h0 => List.pairwise_iff_getElem.1 h (j - 1) j (by omega) hj (by omega)⟩
theorem cs_sI {f : Lf} {nn : List Int} {l : List Vr} {bs : List Nat} (hf : formP f nn l bs) : sI (f.cs.map (·.v)) := pw_of_step fun j hj h0 => by
  rw [List.getElem_map, List.getElem_map]
  exact (hf.2.1 j (by simpa using hj)).2.1 h0
theorem cs_nn {f : Lf} {nn : List Int} {l : List Vr} {bs : List Nat} (hf : formP f nn l bs) : ∀ k ∈ f.cs, 0 ≤ k.v ∧ k.v < l.length + bs.length := fun k hk => by
  obtain ⟨j, hj, rfl⟩ := List.mem_iff_getElem.1 hk
  exact (hf.2.1 j hj).1
/-- a valid clause renamed by the same names is itself -/
theorem rnCl_id {a : Cl} {l : List Vr} (hv : vldP a l) : rnCl (fun v => v) a = a := by
  obtain ⟨h1, h2, h3, h4, h5, h6, h7⟩ := hv
  have hF : ∀ f : Lf, sI (f.cs.map (·.v)) → rnF (fun v => v) f = f := fun f hf => by
    show (⟨f.c, cofs (f.cs.map (rnK fun v => v))⟩ : Lf) = f
    rw [show f.cs.map (rnK fun v => v) = f.cs from List.map_id _, cofs_sorted hf]
  have e1 : dd (a.nl.map fun v => v) = a.nl := by rw [List.map_id' a.nl]; exact dd_self (asc_sI h1)
  have e2 : dd (a.nn.map fun v => v) = a.nn := by rw [List.map_id' a.nn]; exact dd_self (asc_sI h2)
  have mp : ∀ {α : Type} {l : List α} {f : α → α}, (∀ x ∈ l, f x = x) → l.map f = l := fun {α l f} h => by
    conv => rhs; rw [← List.map_id l]
    exact List.map_congr_left h
  have e3 : a.ax.map (rnA fun v => v) = a.ax := mp fun x hx => by
    obtain ⟨j, hj, rfl⟩ := List.mem_iff_getElem.1 hx
    show (⟨rnF (fun v => v) a.ax[j].f, a.ax[j].b, if a.ax[j].b = 0 then a.ax[j].t else a.ax[j].t⟩ : Ax) = a.ax[j]
    rw [ite_self, hF]
    rcases h3 j hj with ⟨_, k, _⟩ | ⟨_, k, _⟩
    · rw [List.eq_nil_of_length_eq_zero k]; exact List.Pairwise.nil
    · exact cs_sI k
  have e4 : a.is.map (rnI fun v => v) = a.is := mp fun x hx => by
    obtain ⟨j, hj, rfl⟩ := List.mem_iff_getElem.1 hx
    show (⟨rnF (fun v => v) a.is[j].f, a.is[j].e⟩ : Ct) = a.is[j]
    rw [hF _ (cs_sI (h4 j hj))]
  have e5 : a.ts.map (rnT fun v => v) = a.ts := mp fun x hx => rfl
  have e6 : a.sm.map (rnP fun v => v) = a.sm := mp fun x hx => by
    obtain ⟨j, hj, rfl⟩ := List.mem_iff_getElem.1 hx
    have := (h6 j hj).2.2
    show (min a.sm[j].1 a.sm[j].2, max a.sm[j].1 a.sm[j].2) = a.sm[j]
    rw [Int.min_eq_left (by omega), Int.max_eq_right (by omega)]
  have e7 : a.df.map (rnP fun v => v) = a.df := mp fun x hx => by
    obtain ⟨j, hj, rfl⟩ := List.mem_iff_getElem.1 hx
    have := (h7 j hj).2.2
    show (min a.df[j].1 a.df[j].2, max a.df[j].1 a.df[j].2) = a.df[j]
    rw [Int.min_eq_left (by omega), Int.max_eq_right (by omega)]
  show (⟨_, _, _, _, _, _, _⟩ : Cl) = a
  rw [e1, e2, e3, e4, e5, e6, e7]
end Go.Proofs.Ytnmfjojhgfipcaa.W
