import Derived.Test.YtojkjiakkcgfcaaW12
namespace Go.Proofs.Ytojkjiakkcgfcaa.W
open Go.RowKit E
set_option linter.unusedVariables false
theorem xw_eb (t : Int) : XW (.c (.g [A.t (.v (.int .i64 t)), litA (.slice none 0 0)])) (.c (bxC .ne ⟨t, []⟩)) := ⟨rfl, fun c v h => by
  obtain ⟨us, rfl, h2⟩ := h
  refine ⟨us, rfl, h2.1, fun i x v h3 h4 => ?_⟩
  match i with
  | 0 => exact h2.2 0 _ v h3 h4
  | 1 =>
    have := h2.2 1 (litA (.slice none 0 0)) v rfl h4
    simp at h3
    subst h3
    cases this with | t h => cases h; exact .t (.nil (by simp))
  | i + 2 => simp at h3⟩
theorem refDel_ins {id : Int} {b : Bx} : ∀ {l : List (Int × Bx)}, refDel (ins id b l) id = refDel l id
  | [] => by simp [ins, refDel]
  | y :: l => by
    have ih := refDel_ins (id := id) (b := b) (l := l)
    unfold ins
    split
    · simp [refDel]
    · simp only [refDel, List.filter_cons] at ih ⊢
      rw [ih]
theorem refDel_put {id : Int} {b : Bx} {l : List (Int × Bx)} : refDel (refPut l id b) id = refDel l id := by
  unfold refPut
  rw [refDel_ins]
  simp [refDel]
theorem fdel_put {f : Int → Option Bx} {id : Int} {b : Bx} : fdel (fput f id b) id = fdel f id := by
  funext i; unfold fdel fput; by_cases h : i = id <;> simp [h]
abbrev eb (b : Bx) : Bx := ⟨b.tb, []⟩
theorem not_found {f : Int → Option Bx} {its : List (Int × Bx)} {id : Int} {b c : Bx} (R : Rel (fput f id (eb b)) its) : ∀ i ∈ wantedL its c, i ≠ id := by
  intro i hi e
  subst e
  unfold wantedL at hi
  obtain ⟨⟨j, b'⟩, h1, h2⟩ := List.mem_map.1 hi
  obtain ⟨h3, h4⟩ := List.mem_filter.1 h1
  have h2 : j = i := h2
  subst h2
  have := (R.get j b').2 h3
  simp [fput] at this
  subst this
  simp [meet] at h4

theorem replaced_law (l : List Opn) (id : Int) (b : Bx) (hl : l.length * 48 ≤ 140737488351232) (hs : ∀ o ∈ l, o.b.ss.length ≤ 140737488351232) (hb : b.ss.length ≤ 140737488351232) (H : Heap) : E.Spec Try.prog 6 [opL l, iC id, bxC .un b] H fun x _ => x = bX true := by
  refine Spec.enter Try.func6 rfl ?_
  refine AW.wk (Wk.keep 84 [(0, .c (opL l)), (1, .c (iC id)), (2, .c (bxC .un b))] [] (H) rfl ⟨rfl, rfl, rfl, trivial⟩ trivial (fun _ _ h => h) rfl) ?_
  refine AW.seq ?_
  refine AW.reg ?_
  refine SeqK.r (b_box (r := [_, _]) rfl rfl rfl rfl rfl rfl) rfl ?_
  refine SeqK.q (q_asC rfl rfl) rfl rfl rfl ?_
  refine SeqK.nil ?_
  refine AW.seq ?_
  refine AW.seq ?_
  refine AW.reg ?_
  refine SeqK.callE rfl rfl rfl rfl Fx.fn9 rfl (awake_any _) (fun _ _ h => by rw [h]; rfl) (fun x14 H14 q14 => ?_)
  obtain rfl := q14
  refine SeqK.q (q_not rfl rfl) rfl rfl rfl ?_
  refine SeqK.nil ?_
  refine AW.condF rfl ?_
  refine AW.skip ?_
  refine AW.seq ?_
  refine AW.seq ?_
  refine AW.draw Fx.mo ?_
  refine LexK.q (q_build0 rfl Fx.el22) rfl rfl rfl ?_
  refine LexK.q (q_mvC rfl rfl) rfl rfl rfl ?_
  refine LexK.r (b_app0 rfl Fx.el22 rfl rfl (by simp; omega) rfl rfl rfl) rfl ?_
  refine LexK.r (b_load (r := .g [_, _]) rfl Fx.ty32 rfl rfl rfl rfl rfl rfl) rfl ?_
  refine LexK.q (q_build2 (zs := [_, _, _, _]) (r := [_, _, _, _]) [(0, 1), (1, 1), (2, 2)] _ rfl Fx.ze34 rfl Fx.bp34 rfl rfl rfl rfl) rfl rfl rfl ?_
  refine LexK.q (q_buildSlice _ rfl Fx.el22 rfl (by decide) rfl) rfl rfl rfl ?_
  refine LexK.r (b_app rfl Fx.el22 rfl rfl rfl ((by simp : _ = (l ++ [(⟨0, 0, b⟩ : Opn)]).map opT)) (by simp; omega) rfl rfl) rfl ?_
  refine LexK.q (q_call _ rfl Fx.fn10 rfl (fair_any _ (l ++ [⟨0, 0, b⟩]) _ (by simp; omega) (app_big hs hb)) rfl) rfl rfl rfl ?_
  refine LexK.q (q_not rfl rfl) rfl rfl rfl ?_
  refine LexK.nil (by kernel_rfl) ?_
  refine AW.cond _ rfl (fun h24 => ?_) (fun h24 => ?_)
  ·
    refine AW.seq ?_
    refine AW.reg ?_
    refine SeqK.q (q_asC rfl rfl) rfl rfl rfl ?_
    refine SeqK.nil ?_
    refine AW.ret ?_
    exact fin_x (x := .c _) (_) (.tmp rfl .nil) rfl (fun _ _ h => h) (rfl)
  ·
    have hfair : fairB (l ++ [⟨0, 0, b⟩]) 41 = true := by simpa using h24
    obtain ⟨hl60, hsm, hbm⟩ := fair_app hfair
    refine AW.skip ?_
    refine AW.seq ?_
    refine AW.reg ?_
    refine SeqK.q (q_mvC rfl rfl) rfl rfl rfl ?_
    refine SeqK.callE rfl rfl rfl rfl Fx.fn11 rfl (play_any l (by omega) hsm _) (fun _ _ h => by obtain ⟨_, _, _, h, _⟩ := h; rw [h]; rfl) (fun x27 H27 q27 => ?_)
    obtain ⟨c, f, its, rfl, I, R, hit, hil⟩ := q27
    refine SeqK.q (q_mvT rfl rfl) rfl rfl rfl ?_
    refine SeqK.q (q_extract _ rfl rfl rfl) rfl rfl rfl ?_
    refine SeqK.q (q_extract _ rfl rfl rfl) rfl rfl rfl ?_
    refine SeqK.q (q_extract _ rfl rfl rfl) rfl rfl rfl ?_
    refine SeqK.q (q_asC rfl rfl) rfl rfl rfl ?_
    refine SeqK.q (q_asC rfl rfl) rfl rfl rfl ?_
    refine SeqK.q (q_asC rfl rfl) rfl rfl rfl ?_
    refine SeqK.nil ?_
    refine AW.seq ?_
    refine AW.seq ?_
    refine AW.reg ?_
    refine SeqK.q (q_mvC rfl rfl) rfl rfl rfl ?_
    refine SeqK.q (q_not rfl rfl) rfl rfl rfl ?_
    refine SeqK.nil ?_
    refine AW.condF rfl ?_
    refine AW.skip ?_
    refine AW.seq ?_
    refine AW.reg ?_
    refine SeqK.q (q_mvC rfl rfl) rfl rfl rfl ?_
    refine SeqK.q (q_mvC rfl rfl) rfl rfl rfl ?_
    refine SeqK.r (b_load (r := .g [_, _]) rfl Fx.ty32 rfl rfl rfl rfl rfl rfl) rfl ?_
    refine SeqK.q (q_call _ rfl Fx.fn15 rfl (to_any _ _ (by assumption)) rfl) rfl rfl rfl ?_
    refine SeqK.callE rfl rfl rfl rfl Fx.fn18 rfl (put_any _ _ _ _ _ _ _ I hbm) (fun _ _ h => by rw [h.1]; rfl) (fun x37 H37 q37 => ?_)
    obtain ⟨rfl, I⟩ := q37
    refine SeqK.nil ?_
    refine AW.seq ?_
    refine AW.reg ?_
    refine SeqK.q (q_mvC rfl rfl) rfl rfl rfl ?_
    refine SeqK.q (q_mvC rfl rfl) rfl rfl rfl ?_
    refine SeqK.q (q_fieldL _ rfl Fx.fl32_0 rfl rfl) rfl rfl rfl ?_
    refine SeqK.r (b_load (r := .a _) rfl Fx.ty3 rfl rfl rfl rfl rfl rfl) rfl ?_
    refine SeqK.q (q_build2 (zs := [_, _]) (r := [_, _]) [(0, 1), (1, 1)] _ rfl Fx.ze40 rfl Fx.bp40 rfl rfl rfl rfl) rfl rfl rfl ?_
    refine SeqK.xw 42 rfl (xw_eb b.tb) ?_
    refine SeqK.callE rfl rfl rfl rfl Fx.fn18 rfl (put_any _ _ _ _ _ _ _ I (by simp)) (fun _ _ h => by rw [h.1]; rfl) (fun x43 H43 q43 => ?_)
    obtain ⟨rfl, I⟩ := q43
    refine SeqK.nil ?_
    refine AW.seq ?_
    refine AW.seq ?_
    have R2 := (R.put id b).put id (eb b)
    have I2 : Idx H43 c (fput (fput f id b) id (eb b)) (refPut (refPut its id b) id (eb b)).length := by rw [(R.put id b).put_len, R.put_len]; exact I
    have hl2 : (refPut (refPut its id b) id (eb b)).length ≤ 60 := by rw [(R.put id b).put_len, R.put_len]; split <;> split <;> omega
    have hrd : refDel (refPut (refPut its id b) id (eb b)) id = refDel its id := by rw [refDel_put, refDel_put]
    have hdl := refDel_len (l := its) (id := id)
    have hnf : ∀ i ∈ wantedL (refPut (refPut its id b) id (eb b)) b, i ≠ id := not_found R2
    generalize refPut (refPut its id b) id (eb b) = its2 at *
    refine AW.reg ?_
    refine SeqK.q (q_mvC rfl rfl) rfl rfl rfl ?_
    refine SeqK.r (b_load (r := .g [_, _]) rfl Fx.ty32 rfl rfl rfl rfl rfl rfl) rfl ?_
    refine SeqK.q (q_call _ rfl Fx.fn15 rfl (to_any _ _ (by assumption)) rfl) rfl rfl rfl ?_
    refine SeqK.r (g_call rfl Fx.fn14 rfl (cand_pure _ _ _ _ _ _ _ I2 R2 (by omega) hbm) rfl rfl rfl) rfl ?_
    refine SeqK.q (q_len rfl Fx.un36 rfl) rfl rfl rfl ?_
    refine SeqK.q (q_mvC rfl rfl) rfl rfl rfl ?_
    refine SeqK.nil ?_
    refine AW.block ?_
    refine AW.loop (fun (i : Nat) s => (i ≤ (wantedL its2 b).length) ∧ s = ⟨84, sp [(1, .c (iC id)), (5, .lp 5 0), (7, .c (.a (.bp c 0))), (8, .c (itL .ne its)), (47, .c (int64Z .un (wantedL its2 b))), (48, iX .i64 (((wantedL its2 b).map i64T).length : Nat)), (49, iX .i64 ((i : Nat) : Int))], lv [(5, .box [.t (.v (.int .i64 b.tb)), .t (.sl .un 6 (b.ss.map sdT))])], H43⟩) (fun i => (wantedL its2 b).length - i) 0 ⟨_, Wk.keep 84 [(1, .c (iC id)), (5, .lp 5 0), (7, .c (.a (.bp c 0))), (8, .c (itL .ne its)), (47, .c (int64Z .un (wantedL its2 b))), (48, iX .i64 (((wantedL its2 b).map i64T).length : Nat)), (49, iX .i64 ((((0 : Nat)) : Nat) : Int))] [(5, .box [.t (.v (.int .i64 b.tb)), .t (.sl .un 6 (b.ss.map sdT))])] (H43) rfl ⟨rfl, rfl, rfl, rfl, rfl, rfl, rfl, trivial⟩ ⟨rfl, trivial⟩ (fun _ _ h => h) rfl, Nat.zero_le _, rfl⟩ (fun i s hs => ?_)
    obtain ⟨hi, rfl⟩ := hs
    refine AW.seq ?_
    refine AW.reg ?_
    refine SeqK.q (q_lss rfl rfl rfl) rfl rfl rfl ?_
    refine SeqK.nil ?_
    refine AW.seq ?_
    refine AW.condD rfl (fun h50 => ?_) (fun h50 => ?_)
    ·
      have hka : i < (wantedL its2 b).length := by simp at h50; omega
      have hwl := wantedL_len (l := its2) (b := b)
      refine AW.skip ?_
      refine AW.seq ?_
      refine AW.block ?_
      refine AW.seq ?_
      refine AW.reg ?_
      refine SeqK.q (q_index _ rfl Fx.sl36 rfl rfl (by omega) (idx_map hka)) rfl rfl rfl ?_
      refine SeqK.q (q_load (.a _) rfl Fx.ty2 rfl rfl rfl) rfl rfl rfl ?_
      refine SeqK.q (q_asC rfl rfl) rfl rfl rfl ?_
      refine SeqK.nil ?_
      refine AW.seq ?_
      refine AW.reg ?_
      refine SeqK.q (q_mvC rfl rfl) rfl rfl rfl ?_
      refine SeqK.q (q_mvC rfl rfl) rfl rfl rfl ?_
      refine SeqK.q (q_eql rfl rfl rfl) rfl rfl rfl ?_
      refine SeqK.nil ?_
      refine AW.condD rfl (fun h55 => ?_) (fun h55 => ?_)
      ·
        exact (hnf _ (List.getElem_mem hka) h55).elim
      ·
        refine AW.skip ?_
        refine AW.reg ?_
        refine SeqK.q (q_add _ rfl rfl rfl (w64 (by omega) (by omega))) rfl rfl rfl ?_
        refine SeqK.q (q_mvC rfl rfl) rfl rfl rfl ?_
        refine SeqK.nil ?_
        exact ⟨i + 1, _, Wk.keep 84 [(1, .c (iC id)), (5, .lp 5 0), (7, .c (.a (.bp c 0))), (8, .c (itL .ne its)), (47, .c (int64Z .un (wantedL its2 b))), (48, iX .i64 (((wantedL its2 b).map i64T).length : Nat)), (49, iX .i64 (((i + 1) : Nat) : Int))] [(5, .box [.t (.v (.int .i64 b.tb)), .t (.sl .un 6 (b.ss.map sdT))])] (H43) rfl ⟨rfl, rfl, rfl, rfl, rfl, rfl, rfl, trivial⟩ ⟨rfl, trivial⟩ (fun _ _ h => h) rfl, by omega, by omega, rfl⟩
    ·
      refine AW.exit ?_
      refine eth_e ?_
      refine eth_e ?_
      refine exit_here ?_
      refine AW.seq ?_
      refine AW.reg ?_
      refine SeqK.q (q_mvC rfl rfl) rfl rfl rfl ?_
      refine SeqK.q (q_mvC rfl rfl) rfl rfl rfl ?_
      refine SeqK.q (q_call _ rfl Fx.fn19 rfl (refDel_any _ _ _ (by omega)) rfl) rfl rfl rfl ?_
      refine SeqK.q (q_mvT rfl rfl) rfl rfl rfl ?_
      refine SeqK.q (q_extract _ rfl rfl rfl) rfl rfl rfl ?_
      refine SeqK.q (q_extract _ rfl rfl rfl) rfl rfl rfl ?_
      refine SeqK.q (q_asC rfl rfl) rfl rfl rfl ?_
      refine SeqK.q (q_asC rfl rfl) rfl rfl rfl ?_
      refine SeqK.nil ?_
      refine AW.seq ?_
      refine AW.draw Fx.mo ?_
      refine LexK.q (q_mvC rfl rfl) rfl rfl rfl ?_
      refine LexK.q (q_mvC rfl rfl) rfl rfl rfl ?_
      refine LexK.callE rfl rfl rfl rfl Fx.fn20 rfl (del_any _ _ _ _ _ I2) (fun _ _ h => by rw [h.1]; rfl) (by kernel_rfl) (by kernel_rfl) (fun x65 H65 q65 => ?_)
      obtain ⟨rfl, I3⟩ := q65
      have I3 : Idx H65 c (fdel f id) (refDel its id).length := by rw [fdel_put, fdel_put] at I3; rw [← hrd, R2.del_len]; exact I3
      have R3 := R.del id
      refine LexK.qB (q_mvC rfl rfl) rfl rfl rfl (fun g66 => ?_) (fun g66 => ?_)
      ·
        refine LexK.on (q_mvC rfl rfl) rfl rfl rfl rfl rfl ?_
        refine LexK.rOn (g_call rfl Fx.fn12 rfl (len_any _ _ _ _ I3) rfl rfl rfl) rfl rfl rfl ?_
        refine LexK.on (q_mvC rfl rfl) rfl rfl rfl rfl rfl ?_
        refine LexK.on (q_len rfl Fx.un26 rfl) rfl rfl rfl rfl rfl ?_
        refine LexK.on (q_eql rfl rfl rfl) rfl rfl rfl rfl rfl ?_
        refine LexK.q (q_pkT rfl rfl rfl) rfl rfl rfl ?_
        refine LexK.qD (q_mvC rfl rfl) rfl rfl rfl (fun g73 => ?_) (fun g73 => ?_)
        ·
          refine LexK.on (q_mvC rfl rfl) rfl rfl rfl rfl rfl ?_
          refine LexK.rOn (b_load (r := .g [_, _]) rfl Fx.ty32 rfl rfl rfl rfl rfl rfl) rfl rfl rfl ?_
          refine LexK.on (q_call _ rfl Fx.fn15 rfl (to_any _ _ (by assumption)) rfl) rfl rfl rfl rfl rfl ?_
          refine LexK.rOn (g_call rfl Fx.fn14 rfl (cand_pure _ _ _ _ _ _ _ I3 R3 (by omega) hbm) rfl rfl rfl) rfl rfl rfl ?_
          refine LexK.on (q_mvC rfl rfl) rfl rfl rfl rfl rfl ?_
          refine LexK.rOn (b_load (r := .g [_, _]) rfl Fx.ty32 rfl rfl rfl rfl rfl rfl) rfl rfl rfl ?_
          refine LexK.on (q_call _ rfl Fx.fn15 rfl (to_any _ _ (by assumption)) rfl) rfl rfl rfl rfl rfl ?_
          refine LexK.on (q_call _ rfl Fx.fn16 rfl (wanted_any (refDel its id) _ .ne .un (by omega) (small_del hit id) hbm) rfl) rfl rfl rfl rfl rfl ?_
          refine LexK.on (q_call _ rfl Fx.fn13 rfl (same_true _ _ _ (Nat.le_trans wantedL_len (by omega))) rfl) rfl rfl rfl rfl rfl ?_
          refine LexK.q (q_pkT rfl rfl rfl) rfl rfl rfl ?_
          refine LexK.q (q_asC rfl rfl) rfl rfl rfl ?_
          refine LexK.nil (by kernel_rfl) ?_
          refine AW.ret ?_
          exact fin_x (x := .c _) (_) (.tmp rfl .nil) rfl (fun _ _ h => h) (rfl)
        ·
          exact (g73 (by simp)).elim
      ·
        simp [fput] at g66

end Go.Proofs.Ytojkjiakkcgfcaa.W
