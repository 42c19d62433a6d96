import Derived.Test.YtojkjiakkcgfcaaW14
namespace Go.Proofs.Ytojkjiakkcgfcaa.W
open Go.RowKit E
set_option linter.unusedVariables false
theorem row_len (ss : List Sd) : ((ss.map sdT).flatten.map A.t).length = ss.length * 6 := flat6 ss
theorem splice6 {cells : List A} {n i : Nat} {v : List A} (hc : cells.length = n * 6) (hi : i < n) (hv : v.length = 6) : (splice cells (0 + i * 6) v).length = n * 6 := by
  rw [splice_len (by rw [hv, hc]; omega), hc]
theorem splice1 {cells : List A} {n i : Nat} {v : List A} (hc : cells.length = n) (hi : i < n) (hv : v.length = 1) : (splice cells (0 + i * 1) v).length = n := by
  rw [splice_len (by rw [hv, hc]; omega), hc]
theorem part_own {H : Heap} {kr : Nat} {o : AO} (h : H kr = none) : Part (upd H kr (some o)) (full H) (full (upd (fun _ => none) kr (some o))) :=
  ⟨fun k x hk => by
    have h1 := (full_some.1 hk).1
    rw [upd_ne _ _ (fun e => by subst e; rw [h] at h1; cases h1)]; exact h1, fun k x hk => by
    obtain ⟨h1, h2⟩ := full_some.1 hk
    by_cases e : k = kr
    · subst e
      rw [upd_same] at h1; injection h1 with h1; subst h1
      refine ⟨upd_same _ _ _, ?_, h2⟩
      cases h3 : full H k with
      | none => rfl
      | some y => have := (full_some.1 h3).1; rw [h] at this; cases this
    · rw [upd_ne _ _ e] at h1; cases h1⟩

theorem noalias_law (l : List Opn) (b : Bx) (hl : l.length * 48 ≤ 140737488351232) (hs : ∀ o ∈ l, o.b.ss.length ≤ 140737488351232) (hb : b.ss.length ≤ 140737488351232) (H : Heap) : E.Spec Try.prog 7 [opL l, bxC .un b] H fun x _ => x = bX true := by
  refine Spec.enter Try.func7 rfl ?_
  refine AW.wk (Wk.keep 73 [(0, .c (opL l)), (1, .c (bxC .un b))] [] (H) rfl ⟨rfl, rfl, trivial⟩ trivial (fun _ _ h => h) rfl) ?_
  refine AW.seq ?_
  refine AW.reg ?_
  refine SeqK.r (b_box (r := [_, _]) rfl rfl rfl rfl rfl rfl) rfl ?_
  refine SeqK.q (q_asC rfl rfl) rfl rfl rfl ?_
  refine SeqK.nil ?_
  refine AW.seq ?_
  refine AW.seq ?_
  refine AW.reg ?_
  refine SeqK.callE rfl rfl rfl rfl Fx.fn9 rfl (awake_any _) (fun _ _ h => by rw [h]; rfl) (fun x12 H12 q12 => ?_)
  obtain rfl := q12
  refine SeqK.q (q_not rfl rfl) rfl rfl rfl ?_
  refine SeqK.nil ?_
  refine AW.condF rfl ?_
  refine AW.skip ?_
  refine AW.seq ?_
  refine AW.seq ?_
  refine AW.draw Fx.mo ?_
  refine LexK.q (q_build0 rfl Fx.el22) rfl rfl rfl ?_
  refine LexK.q (q_mvC rfl rfl) rfl rfl rfl ?_
  refine LexK.r (b_app0 rfl Fx.el22 rfl rfl (by simp; omega) rfl rfl rfl) rfl ?_
  refine LexK.r (b_load (r := .g [_, _]) rfl Fx.ty32 rfl rfl rfl rfl rfl rfl) rfl ?_
  refine LexK.q (q_build2 (zs := [_, _, _, _]) (r := [_, _, _, _]) [(0, 1), (1, 1), (2, 2)] _ rfl Fx.ze34 rfl Fx.bp34 rfl rfl rfl rfl) rfl rfl rfl ?_
  refine LexK.q (q_buildSlice _ rfl Fx.el22 rfl (by decide) rfl) rfl rfl rfl ?_
  refine LexK.r (b_app rfl Fx.el22 rfl rfl rfl ((by simp : _ = (l ++ [(⟨0, 0, b⟩ : Opn)]).map opT)) (by simp; omega) rfl rfl) rfl ?_
  refine LexK.q (q_call _ rfl Fx.fn10 rfl (fair_any _ (l ++ [⟨0, 0, b⟩]) _ (by simp; omega) (app_big hs hb)) rfl) rfl rfl rfl ?_
  refine LexK.q (q_not rfl rfl) rfl rfl rfl ?_
  refine LexK.nil (by kernel_rfl) ?_
  refine AW.cond _ rfl (fun h22 => ?_) (fun h22 => ?_)
  ·
    refine AW.seq ?_
    refine AW.reg ?_
    refine SeqK.q (q_asC rfl rfl) rfl rfl rfl ?_
    refine SeqK.nil ?_
    refine AW.ret ?_
    exact fin_x (x := .c _) (_) (.tmp rfl .nil) rfl (fun _ _ h => h) (rfl)
  ·
    have hfair : fairB (l ++ [⟨0, 0, b⟩]) 21 = true := by simpa using h22
    obtain ⟨hl60, hsm, hbm⟩ := fair_app hfair
    refine AW.skip ?_
    refine AW.seq ?_
    refine AW.reg ?_
    refine SeqK.q (q_mvC rfl rfl) rfl rfl rfl ?_
    refine SeqK.callE rfl rfl rfl rfl Fx.fn11 rfl (play_any l (by omega) hsm _) (fun _ _ h => by obtain ⟨_, _, _, h, _⟩ := h; rw [h]; rfl) (fun x25 H25 q25 => ?_)
    obtain ⟨c, f, its, rfl, I, R, hit, hil⟩ := q25
    refine SeqK.q (q_mvT rfl rfl) rfl rfl rfl ?_
    refine SeqK.q (q_extract _ rfl rfl rfl) rfl rfl rfl ?_
    refine SeqK.q (q_extract _ rfl rfl rfl) rfl rfl rfl ?_
    refine SeqK.q (q_extract _ rfl rfl rfl) rfl rfl rfl ?_
    refine SeqK.q (q_asC rfl rfl) rfl rfl rfl ?_
    refine SeqK.q (q_asC rfl rfl) rfl rfl rfl ?_
    refine SeqK.q (q_asC rfl rfl) rfl rfl rfl ?_
    refine SeqK.nil ?_
    refine AW.seq ?_
    refine AW.seq ?_
    refine AW.reg ?_
    refine SeqK.q (q_mvC rfl rfl) rfl rfl rfl ?_
    refine SeqK.q (q_not rfl rfl) rfl rfl rfl ?_
    refine SeqK.nil ?_
    refine AW.condF rfl ?_
    refine AW.skip ?_
    refine AW.seq ?_
    refine AW.reg ?_
    refine SeqK.r (b_load (r := .g [_, _]) rfl Fx.ty32 rfl rfl rfl rfl rfl rfl) rfl ?_
    refine SeqK.callE rfl rfl rfl rfl Fx.fn15 rfl (to_row b .un hbm H25) (fun _ _ h => by obtain ⟨_, _, h, _⟩ := h; rw [h]; rfl) (fun x32 H32 q32 => ?_)
    obtain ⟨kr, hkr, rfl, rfl⟩ := q32
    refine SeqK.r (b_alloc (r := [_, _]) rfl rfl Fx.ze40 rfl rfl rfl rfl) rfl ?_
    refine SeqK.r (b_store (r := [_, _]) rfl rfl Fx.ty40 rfl rfl rfl rfl rfl rfl) rfl ?_
    refine SeqK.nil ?_
    refine AW.seq ?_
    have PT : Part (upd H25 kr (some (rowO b.ss))) (full H25) (full (upd (fun _ => none) kr (some (rowO b.ss)))) := part_own hkr
    refine AW.reg ?_
    refine SeqK.q (q_mvC rfl rfl) rfl rfl rfl ?_
    refine SeqK.r (b_load (r := .g [_, _]) rfl Fx.ty40 rfl rfl rfl rfl rfl rfl) rfl ?_
    refine SeqK.callE rfl rfl rfl rfl Fx.fn18 rfl (put_row _ (full H25) (full (upd (fun _ => none) kr (some (rowO b.ss)))) _ _ _ _ b kr PT I.full (fun h => full_some.2 ⟨upd_same _ _ _, rowO_full h⟩) hbm) (fun _ _ h => by rw [h.1]; rfl) (fun x35 H35 q35 => ?_)
    obtain ⟨rfl, I, hrow⟩ := q35
    refine SeqK.nil ?_
    refine AW.seq ?_
    have hpl : (refPut its 1 b).length ≤ its.length + 1 := by rw [R.put_len]; split <;> omega
    have hit2 := small_put hit 1 b hbm
    refine AW.reg ?_
    refine SeqK.q (q_mvC rfl rfl) rfl rfl rfl ?_
    refine SeqK.r (b_load (r := .g [_, _]) rfl Fx.ty32 rfl rfl rfl rfl rfl rfl) rfl ?_
    refine SeqK.q (q_call _ rfl Fx.fn21 rfl (refPut_any _ _ _ _ (by omega)) rfl) rfl rfl rfl ?_
    refine SeqK.q (q_asC rfl rfl) rfl rfl rfl ?_
    refine SeqK.nil ?_
    refine AW.seq ?_
    refine AW.seq ?_
    refine AW.reg ?_
    refine SeqK.q (q_fieldL _ rfl Fx.fl40_1 rfl rfl) rfl rfl rfl ?_
    refine SeqK.r (b_load (r := .a _) rfl Fx.ty38 rfl rfl rfl rfl rfl rfl) rfl ?_
    refine SeqK.q (q_lenOs rfl Fx.un38 rfl) rfl rfl rfl ?_
    refine SeqK.q (q_mvC rfl rfl) rfl rfl rfl ?_
    refine SeqK.nil ?_
    refine AW.block ?_
    refine AW.loop (fun (i : Nat) s => ∃ (Hx : Heap) (cells : List A), (i ≤ b.ss.length ∧ (b.ss ≠ [] → Hx kr = some (.row 55 6 cells)) ∧ cells.length = b.ss.length * 6 ∧ Idx Hx c (fput f 1 b) (refPut its 1 b).length) ∧ s = ⟨73, sp [(3, .lp 3 0), (5, .c (.a (.bp c 0))), (6, .c (itL .ne (refPut its 1 b))), (8, .lp 8 0), (41, iX .i64 ((b.ss.length : Nat) : Int)), (42, iX .i64 ((i : Nat) : Int))], lv [(3, .box [.t (.v (.int .i64 b.tb)), .t (.sl .un 6 (b.ss.map sdT))]), (8, .box [.t (.v (.int .i64 b.tb)), .os kr 0 b.ss.length 6])], Hx⟩) (fun i => b.ss.length - i) 0 ⟨_, Wk.keep 73 [(3, .lp 3 0), (5, .c (.a (.bp c 0))), (6, .c (itL .ne (refPut its 1 b))), (8, .lp 8 0), (41, iX .i64 ((b.ss.length : Nat) : Int)), (42, iX .i64 ((((0 : Nat)) : Nat) : Int))] [(3, .box [.t (.v (.int .i64 b.tb)), .t (.sl .un 6 (b.ss.map sdT))]), (8, .box [.t (.v (.int .i64 b.tb)), .os kr 0 b.ss.length 6])] ((H35)) rfl ⟨rfl, rfl, rfl, rfl, rfl, rfl, trivial⟩ ⟨rfl, rfl, trivial⟩ (fun _ _ h => h) rfl, H35, _, ⟨Nat.zero_le _, hrow, row_len _, by rw [R.put_len]; exact I⟩, rfl⟩ (fun i s hs => ?_)
    obtain ⟨Hx, cells, ⟨hi, hrow, hcl, I⟩, rfl⟩ := hs
    refine AW.seq ?_
    refine AW.reg ?_
    refine SeqK.q (q_lss rfl rfl rfl) rfl rfl rfl ?_
    refine SeqK.nil ?_
    refine AW.seq ?_
    refine AW.condD rfl (fun h43 => ?_) (fun h43 => ?_)
    ·
      have hka : i < b.ss.length := by simp at h43; omega
      have hne : b.ss ≠ [] := fun e => by rw [e] at hka; simp at hka
      refine AW.skip ?_
      refine AW.seq ?_
      refine AW.block ?_
      refine AW.seq ?_
      refine AW.reg ?_
      refine SeqK.q (q_mvC rfl rfl) rfl rfl rfl ?_
      refine SeqK.q (q_asC rfl rfl) rfl rfl rfl ?_
      refine SeqK.nil ?_
      refine AW.reg ?_
      refine SeqK.q (q_fieldL _ rfl Fx.fl40_1 rfl rfl) rfl rfl rfl ?_
      refine SeqK.r (b_load (r := .a _) rfl Fx.ty38 rfl rfl rfl rfl rfl rfl) rfl ?_
      refine SeqK.q (q_mvC rfl rfl) rfl rfl rfl ?_
      refine SeqK.q (q_build2 (zs := [_, _, _, _, _, _]) (r := [_, _, _, _, _, _]) [(0, 1), (1, 1), (2, 1), (3, 1), (4, 1), (5, 1)] _ rfl Fx.ze55 rfl Fx.bp55 rfl rfl rfl rfl) rfl rfl rfl ?_
      refine SeqK.q (q_indexOs _ rfl Fx.sl38 rfl rfl (by omega) (by omega) rfl) rfl rfl rfl ?_
      refine SeqK.r (g_storeR rfl rfl Fx.ty55 rfl rfl (hrow hne) (rfl) rfl (by omega) (by decide)) rfl ?_
      refine SeqK.nil ?_
      refine AW.reg ?_
      refine SeqK.q (q_add _ rfl rfl rfl (w64 (by omega) (by omega))) rfl rfl rfl ?_
      refine SeqK.q (q_mvC rfl rfl) rfl rfl rfl ?_
      refine SeqK.nil ?_
      exact ⟨i + 1, _, Wk.keep 73 [(3, .lp 3 0), (5, .c (.a (.bp c 0))), (6, .c (itL .ne (refPut its 1 b))), (8, .lp 8 0), (41, iX .i64 ((b.ss.length : Nat) : Int)), (42, iX .i64 (((i + 1) : Nat) : Int))] [(3, .box [.t (.v (.int .i64 b.tb)), .t (.sl .un 6 (b.ss.map sdT))]), (8, .box [.t (.v (.int .i64 b.tb)), .os kr 0 b.ss.length 6])] ((_)) rfl ⟨rfl, rfl, rfl, rfl, rfl, rfl, trivial⟩ ⟨rfl, rfl, trivial⟩ (fun _ _ h => h) rfl, by omega, _, _, ⟨by omega, fun _ => upd_same _ _ _, splice6 hcl hka rfl, I.turn (hrow hne)⟩, rfl⟩
    ·
      refine AW.exit ?_
      refine eth_e ?_
      refine eth_e ?_
      refine exit_here ?_
      refine AW.seq ?_
      refine AW.reg ?_
      refine SeqK.q (q_mvC rfl rfl) rfl rfl rfl ?_
      refine SeqK.r (b_load (r := .g [_, _]) rfl Fx.ty32 rfl rfl rfl rfl rfl rfl) rfl ?_
      refine SeqK.q (q_call _ rfl Fx.fn15 rfl (to_any _ _ hbm) rfl) rfl rfl rfl ?_
      refine SeqK.callE rfl rfl rfl rfl Fx.fn14 rfl (cand_any _ _ _ _ _ .un I (by omega) hbm) (fun _ _ h => by obtain ⟨_, _, _, _, h, _⟩ := h; rw [h]; rfl) (fun x54 H54 q54 => ?_)
      obtain ⟨kc, cs, hkc, hcs, rfl, rfl⟩ := q54
      refine SeqK.q (q_asC rfl rfl) rfl rfl rfl ?_
      refine SeqK.nil ?_
      refine AW.seq ?_
      refine AW.seq ?_
      have hcl60 : cs.length ≤ 60 := by rw [(R.put 1 b).wanted hcs]; have := wantedL_len (l := refPut its 1 b) (b := b); omega
      refine AW.reg ?_
      refine SeqK.q (q_mvC rfl rfl) rfl rfl rfl ?_
      refine SeqK.q (q_lenOs rfl Fx.un36 rfl) rfl rfl rfl ?_
      refine SeqK.q (q_mvC rfl rfl) rfl rfl rfl ?_
      refine SeqK.nil ?_
      refine AW.block ?_
      refine AW.loop (fun (i : Nat) s => ∃ (Hx : Heap) (cells : List A), (i ≤ cs.length ∧ Hx kc = some (.row 2 1 cells) ∧ cells.length = cs.length ∧ Idx Hx c (fput f 1 b) (refPut its 1 b).length) ∧ s = ⟨73, sp [(3, .lp 3 0), (5, .c (.a (.bp c 0))), (6, .c (itL .ne (refPut its 1 b))), (10, .c (.a (.os kc 0 cs.length 1))), (56, iX .i64 ((cs.length : Nat) : Int)), (57, iX .i64 ((i : Nat) : Int))], lv [(3, .box [.t (.v (.int .i64 b.tb)), .t (.sl .un 6 (b.ss.map sdT))])], Hx⟩) (fun i => cs.length - i) 0 ⟨_, Wk.keep 73 [(3, .lp 3 0), (5, .c (.a (.bp c 0))), (6, .c (itL .ne (refPut its 1 b))), (10, .c (.a (.os kc 0 cs.length 1))), (56, iX .i64 ((cs.length : Nat) : Int)), (57, iX .i64 ((((0 : Nat)) : Nat) : Int))] [(3, .box [.t (.v (.int .i64 b.tb)), .t (.sl .un 6 (b.ss.map sdT))])] ((_)) rfl ⟨rfl, rfl, rfl, rfl, rfl, rfl, trivial⟩ ⟨rfl, trivial⟩ (fun _ _ h => h) rfl, _, _, ⟨Nat.zero_le _, upd_same _ _ _, by simp, I.fresh hkc⟩, rfl⟩ (fun i s hs => ?_)
      obtain ⟨Hx, cells, ⟨hi, hrow2, hcl, I⟩, rfl⟩ := hs
      refine AW.seq ?_
      refine AW.reg ?_
      refine SeqK.q (q_lss rfl rfl rfl) rfl rfl rfl ?_
      refine SeqK.nil ?_
      refine AW.seq ?_
      refine AW.condD rfl (fun h58 => ?_) (fun h58 => ?_)
      ·
        have hka : i < cs.length := by simp at h58; omega
        refine AW.skip ?_
        refine AW.seq ?_
        refine AW.block ?_
        refine AW.seq ?_
        refine AW.reg ?_
        refine SeqK.q (q_mvC rfl rfl) rfl rfl rfl ?_
        refine SeqK.q (q_asC rfl rfl) rfl rfl rfl ?_
        refine SeqK.nil ?_
        refine AW.reg ?_
        refine SeqK.q (q_mvC rfl rfl) rfl rfl rfl ?_
        refine SeqK.q (q_mvC rfl rfl) rfl rfl rfl ?_
        refine SeqK.q (q_indexOs _ rfl Fx.sl36 rfl rfl (by omega) (by omega) rfl) rfl rfl rfl ?_
        refine SeqK.r (g_storeR rfl rfl Fx.ty2 rfl rfl (hrow2) (rfl) rfl (by omega) (by decide)) rfl ?_
        refine SeqK.nil ?_
        refine AW.reg ?_
        refine SeqK.q (q_add _ rfl rfl rfl (w64 (by omega) (by omega))) rfl rfl rfl ?_
        refine SeqK.q (q_mvC rfl rfl) rfl rfl rfl ?_
        refine SeqK.nil ?_
        exact ⟨i + 1, _, Wk.keep 73 [(3, .lp 3 0), (5, .c (.a (.bp c 0))), (6, .c (itL .ne (refPut its 1 b))), (10, .c (.a (.os kc 0 cs.length 1))), (56, iX .i64 ((cs.length : Nat) : Int)), (57, iX .i64 (((i + 1) : Nat) : Int))] [(3, .box [.t (.v (.int .i64 b.tb)), .t (.sl .un 6 (b.ss.map sdT))])] ((_)) rfl ⟨rfl, rfl, rfl, rfl, rfl, rfl, trivial⟩ ⟨rfl, trivial⟩ (fun _ _ h => h) rfl, by omega, _, _, ⟨by omega, upd_same _ _ _, splice1 hcl hka rfl, I.turn hrow2⟩, rfl⟩
      ·
        refine AW.exit ?_
        refine eth_e ?_
        refine eth_e ?_
        refine exit_here ?_
        refine AW.seq ?_
        refine AW.draw Fx.mo ?_
        refine LexK.q (q_mvC rfl rfl) rfl rfl rfl ?_
        refine LexK.r (b_load (r := .g [_, _]) rfl Fx.ty32 rfl rfl rfl rfl rfl rfl) rfl ?_
        refine LexK.q (q_call _ rfl Fx.fn15 rfl (to_any _ _ hbm) rfl) rfl rfl rfl ?_
        refine LexK.r (g_call rfl Fx.fn14 rfl (cand_pure _ _ _ _ _ _ _ I (R.put 1 b) (by omega) hbm) rfl rfl rfl) rfl ?_
        refine LexK.q (q_mvC rfl rfl) rfl rfl rfl ?_
        refine LexK.r (b_load (r := .g [_, _]) rfl Fx.ty32 rfl rfl rfl rfl rfl rfl) rfl ?_
        refine LexK.q (q_call _ rfl Fx.fn15 rfl (to_any _ _ hbm) rfl) rfl rfl rfl ?_
        refine LexK.q (q_call _ rfl Fx.fn16 rfl (wanted_any (refPut its 1 b) _ .ne .un (by omega) hit2 hbm) rfl) rfl rfl rfl ?_
        refine LexK.q (q_call _ rfl Fx.fn13 rfl (same_true _ _ _ (Nat.le_trans wantedL_len (by omega))) rfl) rfl rfl rfl ?_
        refine LexK.q (q_asC rfl rfl) rfl rfl rfl ?_
        refine LexK.nil (by kernel_rfl) ?_
        refine AW.ret ?_
        exact fin_x (x := .c _) (_) (.tmp rfl .nil) rfl (fun _ _ h => h) (rfl)

end Go.Proofs.Ytojkjiakkcgfcaa.W
