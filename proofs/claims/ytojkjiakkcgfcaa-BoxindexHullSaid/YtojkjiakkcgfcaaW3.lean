import Derived.Test.YtojkjiakkcgfcaaW2
namespace Go.Proofs.Ytojkjiakkcgfcaa.W
open Go.RowKit E
set_option linter.unusedVariables false

set_option maxRecDepth 20000 in
theorem clone_any (es : List (List T)) (z : Nz) (hb : es.length ≤ 1000000) : Pure Try.prog 27 [.a (.t (.sl z 6 es))] (.c (.a (.t (.sl .un 6 es)))) := by
  intro H
  refine Spec.enter Try.func27 rfl ?_
  refine AW.wk (Wk.keep 8 [(0, .c (.a (.t (.sl z 6 es))))] [] (H) rfl ⟨rfl, trivial⟩ trivial (fun _ _ h => h) rfl) ?_
  refine AW.seq ?_
  refine AW.reg ?_
  refine SeqK.q (q_asC rfl rfl) rfl rfl rfl ?_
  refine SeqK.nil ?_
  refine AW.seq ?_
  refine AW.seq ?_
  refine AW.reg ?_
  refine SeqK.q (q_mvC rfl rfl) rfl rfl rfl ?_
  refine SeqK.eqlNU rfl rfl rfl rfl rfl rfl Fx.nk38 (fun b4 hb4 => ?_)
  refine SeqK.nil ?_
  refine AW.cond _ rfl (fun h4 => ?_) (fun h4 => ?_)
  ·
    have he := hb4 h4
    subst he
    refine AW.seq ?_
    refine AW.reg ?_
    refine SeqK.q (q_asC rfl rfl) rfl rfl rfl ?_
    refine SeqK.nil ?_
    refine AW.xw 2 rfl (XW.nilU (sz := 6)) ?_
    refine AW.ret ?_
    exact fin_x (x := .c _) H (.tmp rfl .nil) rfl (fun _ _ h => h) ⟨rfl, rfl⟩
  ·
    refine AW.skip ?_
    refine AW.seq ?_
    refine AW.reg ?_
    refine SeqK.q (q_build0 rfl Fx.el38) rfl rfl rfl ?_
    refine SeqK.q (q_mvC rfl rfl) rfl rfl rfl ?_
    refine SeqK.q (q_app0 rfl Fx.el38 rfl rfl (by omega)) rfl rfl rfl ?_
    refine SeqK.q (q_asC rfl rfl) rfl rfl rfl ?_
    refine SeqK.nil ?_
    refine AW.xw 2 rfl .un ?_
    refine AW.ret ?_
    exact fin_x (x := .c _) H (.tmp rfl .nil) rfl (fun _ _ h => h) ⟨rfl, rfl⟩

set_option maxRecDepth 20000 in
theorem to_row (b : Bx) (z : Nz) (hb : b.ss.length ≤ 1000000) (H : Heap) : E.Spec Try.prog 15 [bxC z b] H fun x H' => ∃ k, H k = none ∧ x = .c (.g [.t (.v (.int .i64 b.tb)), .os k 0 b.ss.length 6]) ∧ H' = upd H k (some (.row 55 6 ((b.ss.map sdT).flatten.map .t))) := by
  refine Spec.enter Try.func15 rfl ?_
  refine AW.wk (Wk.keep 36 [(0, .c (bxC z b))] [] (H) rfl ⟨rfl, trivial⟩ trivial (fun _ _ h => h) rfl) ?_
  refine AW.seq ?_
  refine AW.reg ?_
  refine SeqK.r (b_box (r := [_, _]) rfl rfl rfl rfl rfl rfl) rfl ?_
  refine SeqK.r (b_alloc (r := [_, _]) rfl rfl Fx.ze40 rfl rfl rfl rfl) rfl ?_
  refine SeqK.nil ?_
  refine AW.seq ?_
  refine AW.reg ?_
  refine SeqK.q (q_fieldL _ rfl Fx.fl32_0 rfl rfl) rfl rfl rfl ?_
  refine SeqK.r (b_load (r := .a _) rfl Fx.ty3 rfl rfl rfl rfl rfl rfl) rfl ?_
  refine SeqK.q (q_build2 (zs := [_, _]) (r := [_, _]) [(0, 1), (1, 1)] _ rfl Fx.ze40 rfl Fx.bp40 rfl rfl rfl rfl) rfl rfl rfl ?_
  refine SeqK.r (b_alloc (r := [_, _]) rfl rfl Fx.ze40 rfl rfl rfl rfl) rfl ?_
  refine SeqK.r (b_store (r := [_, _]) rfl rfl Fx.ty40 rfl rfl rfl rfl rfl rfl) rfl ?_
  refine SeqK.nil ?_
  refine AW.seq ?_
  refine AW.seq ?_
  refine AW.reg ?_
  refine SeqK.q (q_fieldL _ rfl Fx.fl32_1 rfl rfl) rfl rfl rfl ?_
  refine SeqK.r (b_load (r := .a _) rfl Fx.ty30 rfl rfl rfl rfl rfl rfl) rfl ?_
  refine SeqK.q (q_len rfl Fx.un30 rfl) rfl rfl rfl ?_
  refine SeqK.q (q_mvC rfl rfl) rfl rfl rfl ?_
  refine SeqK.nil ?_
  refine AW.block ?_
  refine AW.rowL 3 1 55 6 rfl rfl (fun k0 hk0 => ?_)
  refine AW.loop (fun (i : Nat) s => ∃ (k : Nat) (cells : List A), (H k = none ∧ i ≤ b.ss.length ∧ cells = ((b.ss.take i).map sdT).flatten.map .t) ∧ s = ⟨36, sp [(1, .lp 1 0), (2, .lp 2 0), (3, .lp 3 0), (10, .c (.a (.t (.sl z 6 (b.ss.map sdT))))), (11, iX .i64 ((b.ss.map sdT).length : Nat)), (12, iX .i64 ((i : Nat) : Int))], lv [(1, .box [.t (.v (.int .i64 b.tb)), .t (.sl z 6 (b.ss.map sdT))]), (2, .box [.t (.v (.int .i64 0)), .t (.v (.slice none 0 0))]), (3, .box [.t (.v (.int .i64 b.tb)), .os k 0 i 6])], upd H k (some (.row 55 6 cells))⟩) (fun i => b.ss.length - i) 0 ⟨_, Wk.keep 36 [(1, .lp 1 0), (2, .lp 2 0), (3, .lp 3 0), (10, .c (.a (.t (.sl z 6 (b.ss.map sdT))))), (11, iX .i64 ((b.ss.map sdT).length : Nat)), (12, iX .i64 ((((0 : Nat)) : Nat) : Int))] [(1, .box [.t (.v (.int .i64 b.tb)), .t (.sl z 6 (b.ss.map sdT))]), (2, .box [.t (.v (.int .i64 0)), .t (.v (.slice none 0 0))]), (3, .box [.t (.v (.int .i64 b.tb)), .os (k0) 0 ((0 : Nat)) 6])] (upd H (k0) (some (.row 55 6 ([])))) rfl ⟨rfl, rfl, rfl, rfl, rfl, rfl, trivial⟩ ⟨rfl, rfl, rfl, trivial⟩ (fun _ _ h => h) rfl, k0, [], ⟨hk0, Nat.zero_le _, rfl⟩, rfl⟩ (fun i s hs => ?_)
  obtain ⟨k, cells, ⟨hk, hi, hcells⟩, rfl⟩ := hs
  refine AW.seq ?_
  refine AW.reg ?_
  refine SeqK.q (q_lss rfl rfl rfl) rfl rfl rfl ?_
  refine SeqK.nil ?_
  refine AW.seq ?_
  refine AW.condD rfl (fun h13 => ?_) (fun h13 => ?_)
  ·
    have hka : i < b.ss.length := by simp at h13; omega
    refine AW.skip ?_
    refine AW.seq ?_
    refine AW.block ?_
    refine AW.seq ?_
    refine AW.reg ?_
    refine SeqK.q (q_index _ rfl Fx.sl30 rfl rfl (by omega) (idx_map hka)) rfl rfl rfl ?_
    refine SeqK.q (q_load (.g [_, _, _, _, _, _]) rfl Fx.ty67 rfl rfl rfl) rfl rfl rfl ?_
    refine SeqK.r (b_alloc (r := [_, _, _, _, _, _]) rfl rfl Fx.ze67 rfl rfl rfl rfl) rfl ?_
    refine SeqK.r (b_store (r := [_, _, _, _, _, _]) rfl rfl Fx.ty67 rfl rfl rfl rfl rfl rfl) rfl ?_
    refine SeqK.nil ?_
    refine AW.reg ?_
    refine SeqK.q (q_fieldL _ rfl Fx.fl40_1 rfl rfl) rfl rfl rfl ?_
    refine SeqK.r (b_load (r := .a _) rfl Fx.ty38 rfl rfl rfl rfl rfl rfl) rfl ?_
    refine SeqK.q (q_fieldL _ rfl Fx.fl67_0 rfl rfl) rfl rfl rfl ?_
    refine SeqK.r (b_load (r := .a _) rfl Fx.ty4 rfl rfl rfl rfl rfl rfl) rfl ?_
    refine SeqK.q (q_fieldL _ rfl Fx.fl67_1 rfl rfl) rfl rfl rfl ?_
    refine SeqK.r (b_load (r := .a _) rfl Fx.ty4 rfl rfl rfl rfl rfl rfl) rfl ?_
    refine SeqK.q (q_fieldL _ rfl Fx.fl67_2 rfl rfl) rfl rfl rfl ?_
    refine SeqK.r (b_load (r := .a _) rfl Fx.ty2 rfl rfl rfl rfl rfl rfl) rfl ?_
    refine SeqK.q (q_fieldL _ rfl Fx.fl67_3 rfl rfl) rfl rfl rfl ?_
    refine SeqK.r (b_load (r := .a _) rfl Fx.ty2 rfl rfl rfl rfl rfl rfl) rfl ?_
    refine SeqK.q (q_fieldL _ rfl Fx.fl67_4 rfl rfl) rfl rfl rfl ?_
    refine SeqK.r (b_load (r := .a _) rfl Fx.ty9 rfl rfl rfl rfl rfl rfl) rfl ?_
    refine SeqK.q (q_fieldL _ rfl Fx.fl67_5 rfl rfl) rfl rfl rfl ?_
    refine SeqK.r (b_load (r := .a _) rfl Fx.ty9 rfl rfl rfl rfl rfl rfl) rfl ?_
    refine SeqK.q (q_build2 (zs := [_, _, _, _, _, _]) (r := [_, _, _, _, _, _]) [(0, 1), (1, 1), (2, 1), (3, 1), (4, 1), (5, 1)] _ rfl Fx.ze55 rfl Fx.bp55 rfl rfl rfl rfl) rfl rfl rfl ?_
    refine SeqK.q (q_buildSlice _ rfl Fx.el38 rfl (by decide) rfl) rfl rfl rfl ?_
    refine SeqK.appR1 rfl (by assumption) rfl Fx.el38 rfl (by rw [hcells, flat6, List.length_take]; omega) rfl (by simp; omega) rfl rfl (fun k32 hk32 => ?_)
    refine SeqK.q (q_fieldL _ rfl Fx.fl40_1 rfl rfl) rfl rfl rfl ?_
    refine SeqK.r (b_store (r := [_, _]) rfl rfl Fx.ty38 rfl rfl rfl rfl rfl rfl) rfl ?_
    refine SeqK.nil ?_
    refine AW.reg ?_
    refine SeqK.q (q_add _ rfl rfl rfl (w64 (by omega) (by omega))) rfl rfl rfl ?_
    refine SeqK.q (q_mvC rfl rfl) rfl rfl rfl ?_
    refine SeqK.nil ?_
    exact ⟨i + 1, _, Wk.keep 36 [(1, .lp 1 0), (2, .lp 2 0), (3, .lp 3 0), (10, .c (.a (.t (.sl z 6 (b.ss.map sdT))))), (11, iX .i64 ((b.ss.map sdT).length : Nat)), (12, iX .i64 (((i + 1) : Nat) : Int))] [(1, .box [.t (.v (.int .i64 b.tb)), .t (.sl z 6 (b.ss.map sdT))]), (2, .box [.t (.v (.int .i64 0)), .t (.v (.slice none 0 0))]), (3, .box [.t (.v (.int .i64 b.tb)), .os (k32) 0 (i + 1) 6])] (upd H (k32) (some (.row 55 6 (_)))) rfl ⟨rfl, rfl, rfl, rfl, rfl, rfl, trivial⟩ ⟨rfl, rfl, rfl, trivial⟩ (fun _ _ h => h) rfl, by omega, k32, _, ⟨hk32, by omega, by rw [hcells, sd_succ hka]; rfl⟩, rfl⟩
  ·
    refine AW.exit ?_
    refine eth_e ?_
    refine eth_e ?_
    refine exit_here ?_
    refine AW.seq ?_
    refine AW.reg ?_
    refine SeqK.r (b_load (r := .g [_, _]) rfl Fx.ty40 rfl rfl rfl rfl rfl rfl) rfl ?_
    refine SeqK.r (b_store (r := [_, _]) rfl rfl Fx.ty40 rfl rfl rfl rfl rfl rfl) rfl ?_
    refine SeqK.nil ?_
    refine AW.ret ?_
    have hil : i = b.ss.length := by simp at h13; omega
    subst hil
    exact fin_x (x := .c _) (_) (.cellL rfl rfl Fx.ty40 rfl rfl .nil) rfl (fun _ _ h => h) (⟨k, hk, rfl, by rw [hcells, List.take_length]⟩)


theorem to_any (b : Bx) (z : Nz) (hb : b.ss.length ≤ 1000000) : Pure Try.prog 15 [bxC z b] (.c (bxC .un b)) := fun H =>
  E.Spec.freeze (to_row b z hb H) fun x H' ⟨k, hk, hx, hH⟩ => ⟨k, 6, 55, b.ss.map sdT, by rw [hH, upd_same], fun e he => by obtain ⟨s, _, rfl⟩ := List.mem_map.1 he; rfl, by decide, by
    subst hx hH
    refine ⟨?_, upd_back hk⟩
    simp [fzX, fzC, fzA]⟩

set_option maxRecDepth 20000 in
theorem wanted_any (l : List (Int × Bx)) (b : Bx) (z z2 : Nz) (hl : l.length ≤ 1000000) (hs : ∀ p ∈ l, p.2.ss.length ≤ 1000000) (hb : b.ss.length ≤ 1000000) : Pure Try.prog 16 [itL z l, bxC z2 b] (.c (int64Z .ne (wantedL l b))) := by
  intro H
  refine Spec.enter Try.func16 rfl ?_
  refine AW.wk (Wk.keep 26 [(0, .c (itL z l)), (1, .c (bxC z2 b))] [] (H) rfl ⟨rfl, rfl, trivial⟩ trivial (fun _ _ h => h) rfl) ?_
  refine AW.seq ?_
  refine AW.reg ?_
  refine SeqK.r (b_box (r := [_, _]) rfl rfl rfl rfl rfl rfl) rfl ?_
  refine SeqK.q (q_asC rfl rfl) rfl rfl rfl ?_
  refine SeqK.nil ?_
  refine AW.seq ?_
  refine AW.reg ?_
  refine SeqK.q (q_asC rfl rfl) rfl rfl rfl ?_
  refine SeqK.nil ?_
  refine AW.seq ?_
  refine AW.seq ?_
  refine AW.reg ?_
  refine SeqK.q (q_mvC rfl rfl) rfl rfl rfl ?_
  refine SeqK.q (q_len rfl Fx.un26 rfl) rfl rfl rfl ?_
  refine SeqK.q (q_mvC rfl rfl) rfl rfl rfl ?_
  refine SeqK.nil ?_
  refine AW.block ?_
  refine AW.tip 5 2 1 rfl (fun k0 hk0 => ?_)
  refine AW.loop (fun (i : Nat) s => ∃ (k : Nat) (es : List (List T)), (H k = none ∧ i ≤ l.length ∧ es.length ≤ i ∧ es = (wantedL (l.take i) b).map i64T) ∧ s = ⟨26, sp [(3, .lp 3 0), (5, .c (.a (.ts k .ne 1 es))), (8, .c (itL z l)), (9, iX .i64 ((l.map itT).length : Nat)), (10, iX .i64 ((i : Nat) : Int))], lv [(3, .box [.t (.v (.int .i64 b.tb)), .t (.sl z2 6 (b.ss.map sdT))])], upd H k (some (.tip 2 1 es.length))⟩) (fun i => l.length - i) 0 ⟨_, Wk.keep 26 [(3, .lp 3 0), (5, .c (.a (.ts (k0) .ne 1 ([])))), (8, .c (itL z l)), (9, iX .i64 ((l.map itT).length : Nat)), (10, iX .i64 ((((0 : Nat)) : Nat) : Int))] [(3, .box [.t (.v (.int .i64 b.tb)), .t (.sl z2 6 (b.ss.map sdT))])] (upd H (k0) (some (.tip 2 1 ([]).length))) rfl ⟨rfl, rfl, rfl, rfl, rfl, trivial⟩ ⟨rfl, trivial⟩ (fun _ _ h => h) rfl, k0, [], ⟨hk0, Nat.zero_le _, Nat.le_refl _, rfl⟩, rfl⟩ (fun i s hs => ?_)
  obtain ⟨k, es, ⟨hk, hi, hle, hes⟩, rfl⟩ := hs
  refine AW.seq ?_
  refine AW.reg ?_
  refine SeqK.q (q_lss rfl rfl rfl) rfl rfl rfl ?_
  refine SeqK.nil ?_
  refine AW.seq ?_
  refine AW.condD rfl (fun h11 => ?_) (fun h11 => ?_)
  ·
    have hka : i < l.length := by simp at h11; omega
    have hsz := hs _ (List.getElem_mem hka)
    refine AW.skip ?_
    refine AW.seq ?_
    refine AW.block ?_
    refine AW.seq ?_
    refine AW.reg ?_
    refine SeqK.q (q_index _ rfl Fx.sl26 rfl rfl (by omega) (idx_map hka)) rfl rfl rfl ?_
    refine SeqK.q (q_load (.g [_, _, _]) rfl Fx.ty47 rfl rfl rfl) rfl rfl rfl ?_
    refine SeqK.r (b_alloc (r := [_, _, _]) rfl rfl Fx.ze47 rfl rfl rfl rfl) rfl ?_
    refine SeqK.r (b_store (r := [_, _, _]) rfl rfl Fx.ty47 rfl rfl rfl rfl rfl rfl) rfl ?_
    refine SeqK.nil ?_
    refine AW.seq ?_
    refine AW.draw Fx.mo ?_
    refine LexK.q (q_fieldL _ rfl Fx.fl47_1 rfl rfl) rfl rfl rfl ?_
    refine LexK.r (b_load (r := .g [_, _]) rfl Fx.ty32 rfl rfl rfl rfl rfl rfl) rfl ?_
    refine LexK.q (q_call _ rfl Fx.fn15 rfl (to_any l[i].2 _ hsz) rfl) rfl rfl rfl ?_
    refine LexK.r (b_load (r := .g [_, _]) rfl Fx.ty40 rfl rfl rfl rfl rfl rfl) rfl ?_
    refine LexK.q (q_call _ rfl Fx.fn25 rfl (meet_any l[i].2 b _ _ hsz hb) rfl) rfl rfl rfl ?_
    refine LexK.nil (by kernel_rfl) ?_
    refine AW.cond _ rfl (fun h18 => ?_) (fun h18 => ?_)
    ·
      refine AW.reg ?_
      refine SeqK.q (q_mvC rfl rfl) rfl rfl rfl ?_
      refine SeqK.q (q_fieldL _ rfl Fx.fl47_0 rfl rfl) rfl rfl rfl ?_
      refine SeqK.r (b_load (r := .a _) rfl Fx.ty2 rfl rfl rfl rfl rfl rfl) rfl ?_
      refine SeqK.q (q_buildSlice _ rfl Fx.el36 rfl (by decide) rfl) rfl rfl rfl ?_
      refine SeqK.app1 rfl (by assumption) rfl Fx.el36 rfl rfl (by simp; omega) rfl rfl (fun k23 hk23 => ?_)
      refine SeqK.q (q_asC rfl rfl) rfl rfl rfl ?_
      refine SeqK.nil ?_
      refine AW.reg ?_
      refine SeqK.q (q_add _ rfl rfl rfl (w64 (by omega) (by omega))) rfl rfl rfl ?_
      refine SeqK.q (q_mvC rfl rfl) rfl rfl rfl ?_
      refine SeqK.nil ?_
      exact ⟨i + 1, _, Wk.keep 26 [(3, .lp 3 0), (5, .c (.a (.ts (k23) .ne 1 (es ++ [i64T l[i].1])))), (8, .c (itL z l)), (9, iX .i64 ((l.map itT).length : Nat)), (10, iX .i64 (((i + 1) : Nat) : Int))] [(3, .box [.t (.v (.int .i64 b.tb)), .t (.sl z2 6 (b.ss.map sdT))])] (upd H (k23) (some (.tip 2 1 (es ++ [i64T l[i].1]).length))) rfl ⟨rfl, rfl, rfl, rfl, rfl, trivial⟩ ⟨rfl, trivial⟩ (fun _ _ h => h) rfl, by omega, k23, es ++ [i64T l[i].1], ⟨hk23, by omega, by simp; omega, by rw [hes, wantedL_succ hka, if_pos h18, List.map_append]; rfl⟩, rfl⟩
    ·
      refine AW.skip ?_
      refine AW.reg ?_
      refine SeqK.q (q_add _ rfl rfl rfl (w64 (by omega) (by omega))) rfl rfl rfl ?_
      refine SeqK.q (q_mvC rfl rfl) rfl rfl rfl ?_
      refine SeqK.nil ?_
      exact ⟨i + 1, _, Wk.keep 26 [(3, .lp 3 0), (5, .c (.a (.ts (k) .ne 1 (es)))), (8, .c (itL z l)), (9, iX .i64 ((l.map itT).length : Nat)), (10, iX .i64 (((i + 1) : Nat) : Int))] [(3, .box [.t (.v (.int .i64 b.tb)), .t (.sl z2 6 (b.ss.map sdT))])] (upd H (k) (some (.tip 2 1 (es).length))) rfl ⟨rfl, rfl, rfl, rfl, rfl, trivial⟩ ⟨rfl, trivial⟩ (fun _ _ h => h) rfl, by omega, k, es, ⟨hk, by omega, by omega, by rw [hes, wantedL_succ hka, if_neg (by rw [h18]; decide), List.append_nil]⟩, rfl⟩
  ·
    refine AW.exit ?_
    refine eth_e ?_
    refine eth_e ?_
    refine exit_here ?_
    refine AW.seq ?_
    refine AW.reg ?_
    refine SeqK.q (q_mvC rfl rfl) rfl rfl rfl ?_
    refine SeqK.q (q_asC rfl rfl) rfl rfl rfl ?_
    refine SeqK.nil ?_
    refine AW.ret ?_
    have hil : i = l.length := by simp at h11; omega
    subst hil
    exact fin_w (x := .c _) (H) (.tmp rfl .nil) rfl (upd_sub hk) (⟨by rw [hes, List.take_length]; rfl, rfl⟩)

end Go.Proofs.Ytojkjiakkcgfcaa.W
