import Derived.Test.YtojkjiakkcgfcaaW3
namespace Go.Proofs.Ytojkjiakkcgfcaa.W
open Go.RowKit E
set_option linter.unusedVariables false

set_option maxRecDepth 20000 in
theorem refDel_any (l : List (Int × Bx)) (id : Int) (z : Nz) (hl : l.length ≤ 1000000) : Pure Try.prog 19 [itL z l, iC id] (.tup [itL .ne (refDel l id), .a (.t (.v (.bool (refHas l id))))]) := by
  intro H
  refine Spec.enter Try.func19 rfl ?_
  refine AW.wk (Wk.keep 31 [(0, .c (itL z l)), (1, .c (iC id))] [] (H) rfl ⟨rfl, rfl, trivial⟩ trivial (fun _ _ h => h) rfl) ?_
  refine AW.seq ?_
  refine AW.reg ?_
  refine SeqK.q (q_asC rfl rfl) rfl rfl rfl ?_
  refine SeqK.q (q_asC rfl rfl) rfl rfl rfl ?_
  refine SeqK.nil ?_
  refine AW.seq ?_
  refine AW.reg ?_
  refine SeqK.q (q_asC rfl rfl) rfl rfl rfl ?_
  refine SeqK.nil ?_
  refine AW.seq ?_
  refine AW.reg ?_
  refine SeqK.q (q_asC rfl rfl) rfl rfl rfl ?_
  refine SeqK.nil ?_
  refine AW.seq ?_
  refine AW.seq ?_
  refine AW.reg ?_
  refine SeqK.q (q_asC rfl rfl) rfl rfl rfl ?_
  refine SeqK.nil ?_
  refine AW.block ?_
  refine AW.tip 6 47 3 rfl (fun k0 hk0 => ?_)
  refine AW.loop (fun (i : Nat) s => ∃ (k : Nat) (es : List (List T)) (fb : Bool), (H k = none ∧ i ≤ l.length ∧ es.length ≤ i ∧ es = (refDel (l.take i) id).map itT ∧ fb = refHas (l.take i) id) ∧ s = ⟨31, sp [(0, .c (itL z l)), (1, .c (iC id)), (6, .c (.a (.ts k .ne 3 es))), (7, bX fb), (8, iX .i64 ((i : Nat) : Int))], lv [], upd H k (some (.tip 47 3 es.length))⟩) (fun i => l.length - i) 0 ⟨_, Wk.keep 31 [(0, .c (itL z l)), (1, .c (iC id)), (6, .c (.a (.ts (k0) .ne 3 ([])))), (7, bX (false)), (8, iX .i64 ((((0 : Nat)) : Nat) : Int))] [] (upd H (k0) (some (.tip 47 3 ([]).length))) rfl ⟨rfl, rfl, rfl, rfl, rfl, trivial⟩ trivial (fun _ _ h => h) rfl, k0, [], false, ⟨hk0, Nat.zero_le _, Nat.le_refl _, rfl, rfl⟩, rfl⟩ (fun i s hs => ?_)
  obtain ⟨k, es, fb, ⟨hk, hi, hle, hes, hfb⟩, rfl⟩ := hs
  refine AW.seq ?_
  refine AW.seq ?_
  refine AW.reg ?_
  refine SeqK.q (q_mvC rfl rfl) rfl rfl rfl ?_
  refine SeqK.q (q_mvC rfl rfl) rfl rfl rfl ?_
  refine SeqK.q (q_len rfl Fx.un26 rfl) rfl rfl rfl ?_
  refine SeqK.q (q_lss rfl rfl rfl) rfl rfl rfl ?_
  refine SeqK.nil ?_
  refine AW.condD rfl (fun h12 => ?_) (fun h12 => ?_)
  ·
    have hka : i < l.length := by simp at h12; omega
    refine AW.skip ?_
    refine AW.seq ?_
    refine AW.block ?_
    refine AW.seq ?_
    refine AW.reg ?_
    refine SeqK.q (q_mvC rfl rfl) rfl rfl rfl ?_
    refine SeqK.q (q_mvC rfl rfl) rfl rfl rfl ?_
    refine SeqK.q (q_index _ rfl Fx.sl26 rfl rfl (by omega) (idx_map hka)) rfl rfl rfl ?_
    refine SeqK.q (q_fieldP _ rfl Fx.fl47_0 rfl rfl) rfl rfl rfl ?_
    refine SeqK.q (q_load (.a _) rfl Fx.ty2 rfl rfl rfl) rfl rfl rfl ?_
    refine SeqK.q (q_mvC rfl rfl) rfl rfl rfl ?_
    refine SeqK.q (q_eql rfl rfl rfl) rfl rfl rfl ?_
    refine SeqK.nil ?_
    refine AW.condD rfl (fun h21 => ?_) (fun h21 => ?_)
    ·
      refine AW.reg ?_
      refine SeqK.q (q_asC rfl rfl) rfl rfl rfl ?_
      refine SeqK.nil ?_
      refine AW.reg ?_
      refine SeqK.q (q_mvC rfl rfl) rfl rfl rfl ?_
      refine SeqK.q (q_add _ rfl rfl rfl (w64 (by omega) (by omega))) rfl rfl rfl ?_
      refine SeqK.q (q_asC rfl rfl) rfl rfl rfl ?_
      refine SeqK.nil ?_
      exact ⟨i + 1, _, Wk.keep 31 [(0, .c (itL z l)), (1, .c (iC id)), (6, .c (.a (.ts (k) .ne 3 (es)))), (7, bX (true)), (8, iX .i64 (((i + 1) : Nat) : Int))] [] (upd H (k) (some (.tip 47 3 (es).length))) rfl ⟨rfl, rfl, rfl, rfl, rfl, trivial⟩ trivial (fun _ _ h => h) rfl, by omega, k, es, true, ⟨hk, by omega, by omega, by rw [hes, refDel_succ hka, if_pos h21, List.append_nil], by rw [refHas_succ hka, decide_eq_true h21, Bool.or_true]⟩, rfl⟩
    ·
      refine AW.reg ?_
      refine SeqK.q (q_mvC rfl rfl) rfl rfl rfl ?_
      refine SeqK.q (q_mvC rfl rfl) rfl rfl rfl ?_
      refine SeqK.q (q_mvC rfl rfl) rfl rfl rfl ?_
      refine SeqK.q (q_index _ rfl Fx.sl26 rfl rfl (by omega) (idx_map hka)) rfl rfl rfl ?_
      refine SeqK.q (q_load (.g [_, _, _]) rfl Fx.ty47 rfl rfl rfl) rfl rfl rfl ?_
      refine SeqK.q (q_buildSlice _ rfl Fx.el26 rfl (by decide) rfl) rfl rfl rfl ?_
      refine SeqK.app1 rfl (by assumption) rfl Fx.el26 rfl rfl (by simp; omega) rfl rfl (fun k28 hk28 => ?_)
      refine SeqK.q (q_asC rfl rfl) rfl rfl rfl ?_
      refine SeqK.nil ?_
      refine AW.reg ?_
      refine SeqK.q (q_mvC rfl rfl) rfl rfl rfl ?_
      refine SeqK.q (q_add _ rfl rfl rfl (w64 (by omega) (by omega))) rfl rfl rfl ?_
      refine SeqK.q (q_asC rfl rfl) rfl rfl rfl ?_
      refine SeqK.nil ?_
      exact ⟨i + 1, _, Wk.keep 31 [(0, .c (itL z l)), (1, .c (iC id)), (6, .c (.a (.ts (k28) .ne 3 (es ++ [itT l[i]])))), (7, bX (fb)), (8, iX .i64 (((i + 1) : Nat) : Int))] [] (upd H (k28) (some (.tip 47 3 (es ++ [itT l[i]]).length))) rfl ⟨rfl, rfl, rfl, rfl, rfl, trivial⟩ trivial (fun _ _ h => h) rfl, by omega, k28, es ++ [itT l[i]], fb, ⟨hk28, by omega, by simp; omega, by rw [hes, refDel_succ hka, if_neg h21, List.map_append]; rfl, by rw [hfb, refHas_succ hka, decide_eq_false h21, Bool.or_false]⟩, rfl⟩
  ·
    refine AW.exit ?_
    refine eth_e ?_
    refine eth_e ?_
    refine exit_here ?_
    refine AW.seq ?_
    refine AW.reg ?_
    refine SeqK.q (q_mvC rfl rfl) rfl rfl rfl ?_
    refine SeqK.q (q_mvC rfl rfl) rfl rfl rfl ?_
    refine SeqK.q (q_asC rfl rfl) rfl rfl rfl ?_
    refine SeqK.q (q_asC rfl rfl) rfl rfl rfl ?_
    refine SeqK.nil ?_
    refine AW.ret ?_
    have hil : i = l.length := by simp at h12; omega
    subst hil
    exact fin_w (x := .tup [_, _]) (H) (.tmp rfl (.tmp rfl .nil)) rfl (upd_sub hk) (⟨by rw [hes, hfb, List.take_length]; rfl, rfl⟩)

set_option maxRecDepth 20000 in
theorem refPut_any (l : List (Int × Bx)) (id : Int) (b : Bx) (z : Nz) (hl : l.length ≤ 1000000) : Pure Try.prog 21 [itL z l, iC id, bxC .un b] (.c (itL .ne (refPut l id b))) := by
  have hl' := refDel_len (l := l) (id := id)
  intro H
  refine Spec.enter Try.func21 rfl ?_
  refine AW.wk (Wk.keep 55 [(0, .c (itL z l)), (1, .c (iC id)), (2, .c (bxC .un b))] [] (H) rfl ⟨rfl, rfl, rfl, trivial⟩ trivial (fun _ _ h => h) rfl) ?_
  refine AW.seq ?_
  refine AW.reg ?_
  refine SeqK.r (b_box (r := [_, _]) rfl rfl rfl rfl rfl rfl) rfl ?_
  refine SeqK.q (q_asC rfl rfl) rfl rfl rfl ?_
  refine SeqK.nil ?_
  refine AW.seq ?_
  refine AW.reg ?_
  refine SeqK.q (q_mvC rfl rfl) rfl rfl rfl ?_
  refine SeqK.q (q_mvC rfl rfl) rfl rfl rfl ?_
  refine SeqK.q (q_call _ rfl Fx.fn19 rfl (refDel_any _ _ _ (by omega)) rfl) rfl rfl rfl ?_
  refine SeqK.q (q_mvT rfl rfl) rfl rfl rfl ?_
  refine SeqK.q (q_extract _ rfl rfl rfl) rfl rfl rfl ?_
  refine SeqK.q (q_extract _ rfl rfl rfl) rfl rfl rfl ?_
  refine SeqK.q (q_asC rfl rfl) rfl rfl rfl ?_
  refine SeqK.nil ?_
  refine AW.seq ?_
  refine AW.reg ?_
  refine SeqK.q (q_asC rfl rfl) rfl rfl rfl ?_
  refine SeqK.nil ?_
  refine AW.seq ?_
  refine AW.reg ?_
  refine SeqK.q (q_asC rfl rfl) rfl rfl rfl ?_
  refine SeqK.nil ?_
  refine AW.seq ?_
  refine AW.seq ?_
  refine AW.reg ?_
  refine SeqK.q (q_asC rfl rfl) rfl rfl rfl ?_
  refine SeqK.nil ?_
  refine AW.block ?_
  refine AW.tip 7 47 3 rfl (fun k0 hk0 => ?_)
  refine AW.loop (fun (i : Nat) s => ∃ (k : Nat) (es : List (List T)) (pb : Bool), (H k = none ∧ i ≤ (refDel l id).length ∧ es.length ≤ i + 1 ∧ pb = after id ((refDel l id).take i) ∧ es = (if pb = true then ins id b ((refDel l id).take i) else (refDel l id).take i).map itT) ∧ s = ⟨55, sp [(0, .c (itL .ne (refDel l id))), (1, .c (iC id)), (5, .lp 5 0), (7, .c (.a (.ts k .ne 3 es))), (8, bX pb), (9, iX .i64 ((i : Nat) : Int))], lv [(5, .box [.t (.v (.int .i64 b.tb)), .t (.sl .un 6 (b.ss.map sdT))])], upd H k (some (.tip 47 3 es.length))⟩) (fun i => (refDel l id).length - i) 0 ⟨_, Wk.keep 55 [(0, .c (itL .ne (refDel l id))), (1, .c (iC id)), (5, .lp 5 0), (7, .c (.a (.ts (k0) .ne 3 ([])))), (8, bX (false)), (9, iX .i64 ((((0 : Nat)) : Nat) : Int))] [(5, .box [.t (.v (.int .i64 b.tb)), .t (.sl .un 6 (b.ss.map sdT))])] (upd H (k0) (some (.tip 47 3 ([]).length))) rfl ⟨rfl, rfl, rfl, rfl, rfl, rfl, trivial⟩ ⟨rfl, trivial⟩ (fun _ _ h => h) rfl, k0, [], false, ⟨hk0, Nat.zero_le _, by simp, rfl, rfl⟩, rfl⟩ (fun i s hs => ?_)
  obtain ⟨k, es, pb, ⟨hk, hi, hle, hpb, hes⟩, rfl⟩ := hs
  refine AW.seq ?_
  refine AW.seq ?_
  refine AW.reg ?_
  refine SeqK.q (q_mvC rfl rfl) rfl rfl rfl ?_
  refine SeqK.q (q_mvC rfl rfl) rfl rfl rfl ?_
  refine SeqK.q (q_len rfl Fx.un26 rfl) rfl rfl rfl ?_
  refine SeqK.q (q_lss rfl rfl rfl) rfl rfl rfl ?_
  refine SeqK.nil ?_
  refine AW.condD rfl (fun h19 => ?_) (fun h19 => ?_)
  ·
    have hka : i < (refDel l id).length := by simp at h19; omega
    refine AW.skip ?_
    refine AW.seq ?_
    refine AW.block ?_
    refine AW.seq ?_
    refine AW.seq ?_
    refine AW.reg ?_
    refine SeqK.q (q_mvC rfl rfl) rfl rfl rfl ?_
    refine SeqK.q (q_not rfl rfl) rfl rfl rfl ?_
    refine SeqK.qB (q_mvC rfl rfl) rfl rfl rfl (fun g24 => ?_) (fun g24 => ?_)
    ·
      refine SeqK.on (q_mvC rfl rfl) rfl rfl rfl rfl rfl ?_
      refine SeqK.on (q_mvC rfl rfl) rfl rfl rfl rfl rfl ?_
      refine SeqK.on (q_index _ rfl Fx.sl26 rfl rfl (by omega) (idx_map hka)) rfl rfl rfl rfl rfl ?_
      refine SeqK.on (q_fieldP _ rfl Fx.fl47_0 rfl rfl) rfl rfl rfl rfl rfl ?_
      refine SeqK.on (q_load (.a _) rfl Fx.ty2 rfl rfl rfl) rfl rfl rfl rfl rfl ?_
      refine SeqK.on (q_mvC rfl rfl) rfl rfl rfl rfl rfl ?_
      refine SeqK.on (q_gtr rfl rfl rfl) rfl rfl rfl rfl rfl ?_
      refine SeqK.q (q_pkT rfl rfl rfl) rfl rfl rfl ?_
      refine SeqK.nil ?_
      refine AW.condD rfl (fun h32 => ?_) (fun h32 => ?_)
      ·
        refine AW.seq ?_
        refine AW.reg ?_
        refine SeqK.q (q_mvC rfl rfl) rfl rfl rfl ?_
        refine SeqK.q (q_mvC rfl rfl) rfl rfl rfl ?_
        refine SeqK.r (b_load (r := .g [_, _]) rfl Fx.ty32 rfl rfl rfl rfl rfl rfl) rfl ?_
        refine SeqK.q (q_build2 (zs := [_, _, _]) (r := [_, _, _]) [(0, 1), (1, 2)] _ rfl Fx.ze47 rfl Fx.bp47 rfl rfl rfl rfl) rfl rfl rfl ?_
        refine SeqK.q (q_buildSlice _ rfl Fx.el26 rfl (by decide) rfl) rfl rfl rfl ?_
        refine SeqK.app1 rfl (by assumption) rfl Fx.el26 rfl rfl (by simp; omega) rfl rfl (fun k38 hk38 => ?_)
        refine SeqK.q (q_asC rfl rfl) rfl rfl rfl ?_
        refine SeqK.nil ?_
        refine AW.reg ?_
        refine SeqK.q (q_asC rfl rfl) rfl rfl rfl ?_
        refine SeqK.nil ?_
        refine AW.reg ?_
        refine SeqK.q (q_mvC rfl rfl) rfl rfl rfl ?_
        refine SeqK.q (q_mvC rfl rfl) rfl rfl rfl ?_
        refine SeqK.q (q_mvC rfl rfl) rfl rfl rfl ?_
        refine SeqK.q (q_index _ rfl Fx.sl26 rfl rfl (by omega) (idx_map hka)) rfl rfl rfl ?_
        refine SeqK.q (q_load (.g [_, _, _]) rfl Fx.ty47 rfl rfl rfl) rfl rfl rfl ?_
        refine SeqK.q (q_buildSlice _ rfl Fx.el26 rfl (by decide) rfl) rfl rfl rfl ?_
        refine SeqK.app1 rfl (by assumption) rfl Fx.el26 rfl rfl (by simp; omega) rfl rfl (fun k45 hk45 => ?_)
        refine SeqK.q (q_asC rfl rfl) rfl rfl rfl ?_
        refine SeqK.nil ?_
        refine AW.reg ?_
        refine SeqK.q (q_mvC rfl rfl) rfl rfl rfl ?_
        refine SeqK.q (q_add _ rfl rfl rfl (w64 (by omega) (by omega))) rfl rfl rfl ?_
        refine SeqK.q (q_asC rfl rfl) rfl rfl rfl ?_
        refine SeqK.nil ?_
        have hpf : pb = false := by simpa using g24
        have haf : after id ((refDel l id).take i) = false := by rw [← hpb, hpf]
        exact ⟨i + 1, _, Wk.keep 55 [(0, .c (itL .ne (refDel l id))), (1, .c (iC id)), (5, .lp 5 0), (7, .c (.a (.ts (k45) .ne 3 (es ++ [itT (id, b)] ++ [itT (refDel l id)[i]])))), (8, bX (true)), (9, iX .i64 (((i + 1) : Nat) : Int))] [(5, .box [.t (.v (.int .i64 b.tb)), .t (.sl .un 6 (b.ss.map sdT))])] (upd H (k45) (some (.tip 47 3 (es ++ [itT (id, b)] ++ [itT (refDel l id)[i]]).length))) rfl ⟨rfl, rfl, rfl, rfl, rfl, rfl, trivial⟩ ⟨rfl, trivial⟩ (fun _ _ h => h) rfl, by omega, k45, es ++ [itT (id, b)] ++ [itT (refDel l id)[i]], true, ⟨hk45, by omega, by subst hpf; simp at hes; simp [hes]; omega, by rw [List.take_succ_eq_append_getElem hka, after_add, decide_eq_true h32, Bool.or_true], by rw [if_pos rfl, List.take_succ_eq_append_getElem hka, ins_f h32 haf, hes, hpf]; simp⟩, rfl⟩
      ·
        refine AW.skip ?_
        refine AW.reg ?_
        refine SeqK.q (q_mvC rfl rfl) rfl rfl rfl ?_
        refine SeqK.q (q_mvC rfl rfl) rfl rfl rfl ?_
        refine SeqK.q (q_mvC rfl rfl) rfl rfl rfl ?_
        refine SeqK.q (q_index _ rfl Fx.sl26 rfl rfl (by omega) (idx_map hka)) rfl rfl rfl ?_
        refine SeqK.q (q_load (.g [_, _, _]) rfl Fx.ty47 rfl rfl rfl) rfl rfl rfl ?_
        refine SeqK.q (q_buildSlice _ rfl Fx.el26 rfl (by decide) rfl) rfl rfl rfl ?_
        refine SeqK.app1 rfl (by assumption) rfl Fx.el26 rfl rfl (by simp; omega) rfl rfl (fun k45 hk45 => ?_)
        refine SeqK.q (q_asC rfl rfl) rfl rfl rfl ?_
        refine SeqK.nil ?_
        refine AW.reg ?_
        refine SeqK.q (q_mvC rfl rfl) rfl rfl rfl ?_
        refine SeqK.q (q_add _ rfl rfl rfl (w64 (by omega) (by omega))) rfl rfl rfl ?_
        refine SeqK.q (q_asC rfl rfl) rfl rfl rfl ?_
        refine SeqK.nil ?_
        have hpf : pb = false := by simpa using g24
        exact ⟨i + 1, _, Wk.keep 55 [(0, .c (itL .ne (refDel l id))), (1, .c (iC id)), (5, .lp 5 0), (7, .c (.a (.ts (k45) .ne 3 (es ++ [itT (refDel l id)[i]])))), (8, bX (pb)), (9, iX .i64 (((i + 1) : Nat) : Int))] [(5, .box [.t (.v (.int .i64 b.tb)), .t (.sl .un 6 (b.ss.map sdT))])] (upd H (k45) (some (.tip 47 3 (es ++ [itT (refDel l id)[i]]).length))) rfl ⟨rfl, rfl, rfl, rfl, rfl, rfl, trivial⟩ ⟨rfl, trivial⟩ (fun _ _ h => h) rfl, by omega, k45, es ++ [itT (refDel l id)[i]], pb, ⟨hk45, by omega, by simp; omega, by rw [List.take_succ_eq_append_getElem hka, after_add, decide_eq_false h32, Bool.or_false, hpb], by rw [hes, hpf, if_neg (by decide), if_neg (by decide), List.take_succ_eq_append_getElem hka, List.map_append]; rfl⟩, rfl⟩
    ·
      refine SeqK.off rfl rfl rfl rfl rfl rfl ?_
      refine SeqK.off rfl rfl rfl rfl rfl rfl ?_
      refine SeqK.off rfl rfl rfl rfl rfl rfl ?_
      refine SeqK.off rfl rfl rfl rfl rfl rfl ?_
      refine SeqK.off rfl rfl rfl rfl rfl rfl ?_
      refine SeqK.off rfl rfl rfl rfl rfl rfl ?_
      refine SeqK.off rfl rfl rfl rfl rfl rfl ?_
      refine SeqK.q (q_pkF rfl rfl rfl) rfl rfl rfl ?_
      refine SeqK.nil ?_
      refine AW.condF rfl ?_
      refine AW.skip ?_
      refine AW.reg ?_
      refine SeqK.q (q_mvC rfl rfl) rfl rfl rfl ?_
      refine SeqK.q (q_mvC rfl rfl) rfl rfl rfl ?_
      refine SeqK.q (q_mvC rfl rfl) rfl rfl rfl ?_
      refine SeqK.q (q_index _ rfl Fx.sl26 rfl rfl (by omega) (idx_map hka)) rfl rfl rfl ?_
      refine SeqK.q (q_load (.g [_, _, _]) rfl Fx.ty47 rfl rfl rfl) rfl rfl rfl ?_
      refine SeqK.q (q_buildSlice _ rfl Fx.el26 rfl (by decide) rfl) rfl rfl rfl ?_
      refine SeqK.app1 rfl (by assumption) rfl Fx.el26 rfl rfl (by simp; omega) rfl rfl (fun k45 hk45 => ?_)
      refine SeqK.q (q_asC rfl rfl) rfl rfl rfl ?_
      refine SeqK.nil ?_
      refine AW.reg ?_
      refine SeqK.q (q_mvC rfl rfl) rfl rfl rfl ?_
      refine SeqK.q (q_add _ rfl rfl rfl (w64 (by omega) (by omega))) rfl rfl rfl ?_
      refine SeqK.q (q_asC rfl rfl) rfl rfl rfl ?_
      refine SeqK.nil ?_
      have hpt : pb = true := by simpa using g24
      have hat : after id ((refDel l id).take i) = true := by rw [← hpb, hpt]
      exact ⟨i + 1, _, Wk.keep 55 [(0, .c (itL .ne (refDel l id))), (1, .c (iC id)), (5, .lp 5 0), (7, .c (.a (.ts (k45) .ne 3 (es ++ [itT (refDel l id)[i]])))), (8, bX (pb)), (9, iX .i64 (((i + 1) : Nat) : Int))] [(5, .box [.t (.v (.int .i64 b.tb)), .t (.sl .un 6 (b.ss.map sdT))])] (upd H (k45) (some (.tip 47 3 (es ++ [itT (refDel l id)[i]]).length))) rfl ⟨rfl, rfl, rfl, rfl, rfl, rfl, trivial⟩ ⟨rfl, trivial⟩ (fun _ _ h => h) rfl, by omega, k45, es ++ [itT (refDel l id)[i]], pb, ⟨hk45, by omega, by simp; omega, by rw [List.take_succ_eq_append_getElem hka, after_add, ← hpb, hpt, Bool.true_or], by rw [hes, hpt, if_pos rfl, if_pos rfl, List.take_succ_eq_append_getElem hka, ins_t hat]; simp⟩, rfl⟩
  ·
    refine AW.exit ?_
    refine eth_e ?_
    refine eth_e ?_
    refine exit_here ?_
    refine AW.seq ?_
    refine AW.seq ?_
    refine AW.reg ?_
    refine SeqK.q (q_mvC rfl rfl) rfl rfl rfl ?_
    refine SeqK.q (q_not rfl rfl) rfl rfl rfl ?_
    refine SeqK.nil ?_
    refine AW.cond _ rfl (fun h47 => ?_) (fun h47 => ?_)
    ·
      refine AW.reg ?_
      refine SeqK.q (q_mvC rfl rfl) rfl rfl rfl ?_
      refine SeqK.q (q_mvC rfl rfl) rfl rfl rfl ?_
      refine SeqK.r (b_load (r := .g [_, _]) rfl Fx.ty32 rfl rfl rfl rfl rfl rfl) rfl ?_
      refine SeqK.q (q_build2 (zs := [_, _, _]) (r := [_, _, _]) [(0, 1), (1, 2)] _ rfl Fx.ze47 rfl Fx.bp47 rfl rfl rfl rfl) rfl rfl rfl ?_
      refine SeqK.q (q_buildSlice _ rfl Fx.el26 rfl (by decide) rfl) rfl rfl rfl ?_
      refine SeqK.app1 rfl (by assumption) rfl Fx.el26 rfl rfl (by simp; omega) rfl rfl (fun k53 hk53 => ?_)
      refine SeqK.q (q_asC rfl rfl) rfl rfl rfl ?_
      refine SeqK.nil ?_
      refine AW.seq ?_
      refine AW.reg ?_
      refine SeqK.q (q_mvC rfl rfl) rfl rfl rfl ?_
      refine SeqK.q (q_asC rfl rfl) rfl rfl rfl ?_
      refine SeqK.nil ?_
      refine AW.ret ?_
      have hil : i = (refDel l id).length := by simp at h19; omega
      subst hil
      have hpf : pb = false := by simpa using h47
      exact fin_w (x := .c _) (H) (.tmp rfl .nil) rfl (upd_sub hk53) (⟨by rw [List.take_length] at hpb hes; rw [hes, hpf, if_neg (by decide), refPut, ins_not (by rw [← hpb, hpf])]; show _ = X.c (C.a (A.t (T.sl .ne 3 (List.map itT (refDel l id ++ [(id, b)]))))); rw [List.map_append]; rfl, rfl⟩)
    ·
      refine AW.skip ?_
      refine AW.seq ?_
      refine AW.reg ?_
      refine SeqK.q (q_mvC rfl rfl) rfl rfl rfl ?_
      refine SeqK.q (q_asC rfl rfl) rfl rfl rfl ?_
      refine SeqK.nil ?_
      refine AW.ret ?_
      have hil : i = (refDel l id).length := by simp at h19; omega
      subst hil
      have hpt : pb = true := by simpa using h47
      exact fin_w (x := .c _) (H) (.tmp rfl .nil) rfl (upd_sub hk) (⟨by rw [List.take_length] at hes; rw [hes, hpt, if_pos rfl]; rfl, rfl⟩)


theorem arr_load {S : List Int} (h : S.length = 4) {t : Int} (h0 : 0 ≤ t) (h3 : t ≤ 3) : mkC false (((S.map fun n => A.t (.v (.int .i64 n))).drop (0 + t.toNat * 1)).take 1) = .a (.t (.v (.int .i64 (S.getD t.toNat 0)))) := by
  match S, h with
  | [a, b, c, d], _ =>
    have : t = 0 ∨ t = 1 ∨ t = 2 ∨ t = 3 := by omega
    rcases this with rfl | rfl | rfl | rfl <;> rfl
theorem arr_in {S : List Int} (h : S.length = 4) {t : Int} (h0 : 0 ≤ t) (h3 : t ≤ 3) : Nat.ble (0 + t.toNat * 1 + 1) (S.map fun n => A.t (.v (.int .i64 n))).length = true := by
  apply Nat.ble_eq_true_of_le; simp [h]; omega
theorem arr_store {S : List Int} (h : S.length = 4) {t : Int} (h0 : 0 ≤ t) (h3 : t ≤ 3) (n : Int) : splice (S.map fun n => A.t (.v (.int .i64 n))) (0 + t.toNat * 1) (C.cells (.a (.t (.v (.int .i64 n))))) = (S.set t.toNat n).map fun n => A.t (.v (.int .i64 n)) := by
  match S, h with
  | [a, b, c, d], _ =>
    have : t = 0 ∨ t = 1 ∨ t = 2 ∨ t = 3 := by omega
    rcases this with rfl | rfl | rfl | rfl <;> rfl

set_option maxRecDepth 20000 in
theorem fair_any (z : Nz) (l : List Opn) (most : Int) (hl : l.length ≤ 140737488351232) (hs : ∀ o ∈ l, o.b.ss.length ≤ 140737488351232) : Pure Try.prog 10 [opZ z l, iC most] (bX (fairB l most)) := by
  intro H
  refine Spec.enter Try.func10 rfl ?_
  refine AW.wk (Wk.keep 54 [(0, .c (opZ z l)), (1, .c (iC most))] [] (H) rfl ⟨rfl, rfl, trivial⟩ trivial (fun _ _ h => h) rfl) ?_
  refine AW.seq ?_
  refine AW.reg ?_
  refine SeqK.q (q_asC rfl rfl) rfl rfl rfl ?_
  refine SeqK.nil ?_
  refine AW.seq ?_
  refine AW.seq ?_
  refine AW.reg ?_
  refine SeqK.q (q_mvC rfl rfl) rfl rfl rfl ?_
  refine SeqK.q (q_len rfl Fx.un22 rfl) rfl rfl rfl ?_
  refine SeqK.q (q_mvC rfl rfl) rfl rfl rfl ?_
  refine SeqK.q (q_gtr rfl rfl rfl) rfl rfl rfl ?_
  refine SeqK.nil ?_
  refine AW.condD rfl (fun h12 => ?_) (fun h12 => ?_)
  ·
    refine AW.seq ?_
    refine AW.reg ?_
    refine SeqK.q (q_asC rfl rfl) rfl rfl rfl ?_
    refine SeqK.nil ?_
    refine AW.ret ?_
    exact fin_x (x := .c _) H (.tmp rfl .nil) rfl (fun _ _ h => h) ⟨by
      have : most < (l.length : Int) := by simpa using h12
      simp [fairB, this], rfl⟩
  ·
    refine AW.skip ?_
    refine AW.seq ?_
    refine AW.reg ?_
    refine SeqK.r (b_alloc (r := [_, _, _, _]) rfl rfl Fx.ze58 rfl rfl rfl rfl) rfl ?_
    refine SeqK.nil ?_
    refine AW.seq ?_
    refine AW.seq ?_
    refine AW.reg ?_
    refine SeqK.q (q_mvC rfl rfl) rfl rfl rfl ?_
    refine SeqK.q (q_len rfl Fx.un22 rfl) rfl rfl rfl ?_
    refine SeqK.q (q_mvC rfl rfl) rfl rfl rfl ?_
    refine SeqK.nil ?_
    refine AW.block ?_
    refine AW.loop (fun (i : Nat) s => ∃ (S : List Int), (S.length = 4 ∧ i ≤ l.length ∧ fairGo [0, 0, 0, 0] l = fairGo S (l.drop i)) ∧ s = ⟨54, sp [(4, bX false), (5, .lp 5 0), (13, .c (opZ z l)), (14, iX .i64 ((l.map opT).length : Nat)), (15, iX .i64 ((i : Nat) : Int))], lv [(5, .box (S.map fun n => A.t (.v (.int .i64 n))))], H⟩) (fun i => l.length - i) 0 ⟨_, Wk.keep 54 [(4, bX false), (5, .lp 5 0), (13, .c (opZ z l)), (14, iX .i64 ((l.map opT).length : Nat)), (15, iX .i64 ((((0 : Nat)) : Nat) : Int))] [(5, .box (([0, 0, 0, 0]).map fun n => A.t (.v (.int .i64 n))))] (H) rfl ⟨rfl, rfl, rfl, rfl, rfl, trivial⟩ ⟨rfl, trivial⟩ (fun _ _ h => h) rfl, [0, 0, 0, 0], ⟨rfl, Nat.zero_le _, rfl⟩, rfl⟩ (fun i s hs => ?_)
    obtain ⟨S, ⟨hS, hi, hf⟩, rfl⟩ := hs
    refine AW.seq ?_
    refine AW.reg ?_
    refine SeqK.q (q_lss rfl rfl rfl) rfl rfl rfl ?_
    refine SeqK.nil ?_
    refine AW.seq ?_
    refine AW.condD rfl (fun h16 => ?_) (fun h16 => ?_)
    ·
      have hka : i < l.length := by simp at h16; omega
      have hsz := hs _ (List.getElem_mem hka)
      have hdr := List.drop_eq_getElem_cons hka
      refine AW.skip ?_
      refine AW.seq ?_
      refine AW.block ?_
      refine AW.seq ?_
      refine AW.reg ?_
      refine SeqK.q (q_index _ rfl Fx.sl22 rfl rfl (by omega) (idx_map hka)) rfl rfl rfl ?_
      refine SeqK.q (q_load (.g [_, _, _, _]) rfl Fx.ty34 rfl rfl rfl) rfl rfl rfl ?_
      refine SeqK.r (b_alloc (r := [_, _, _, _]) rfl rfl Fx.ze34 rfl rfl rfl rfl) rfl ?_
      refine SeqK.r (b_store (r := [_, _, _, _]) rfl rfl Fx.ty34 rfl rfl rfl rfl rfl rfl) rfl ?_
      refine SeqK.nil ?_
      refine AW.seq ?_
      refine AW.seq ?_
      refine AW.reg ?_
      refine SeqK.q (q_fieldL _ rfl Fx.fl34_2 rfl rfl) rfl rfl rfl ?_
      refine SeqK.r (b_load (r := .g [_, _]) rfl Fx.ty32 rfl rfl rfl rfl rfl rfl) rfl ?_
      refine SeqK.q (q_call _ rfl Fx.fn24 rfl (good_any l[i].b .un hsz) rfl) rfl rfl rfl ?_
      refine SeqK.q (q_not rfl rfl) rfl rfl rfl ?_
      refine SeqK.nil ?_
      refine AW.cond _ rfl (fun h22 => ?_) (fun h22 => ?_)
      ·
        refine AW.seq ?_
        refine AW.reg ?_
        refine SeqK.q (q_asC rfl rfl) rfl rfl rfl ?_
        refine SeqK.nil ?_
        refine AW.ret ?_
        exact fin_x (x := .c _) H (.tmp rfl .nil) rfl (fun _ _ h => h) ⟨by
          have h9 : fairGo S (l.drop i) = false := by rw [hdr]; simp [fairGo]; intro h; simp [h] at h22
          simp [fairB, hf, h9], rfl⟩
      ·
        have hg : goodB l[i].b = true := by simpa using h22
        obtain ⟨h4, ht0, ht3⟩ := goodB_facts hg
        refine AW.skip ?_
        refine AW.seq ?_
        refine AW.reg ?_
        refine SeqK.q (q_fieldL _ rfl Fx.fl34_2 rfl rfl) rfl rfl rfl ?_
        refine SeqK.q (q_fieldL _ rfl Fx.fl32_1 rfl rfl) rfl rfl rfl ?_
        refine SeqK.r (b_load (r := .a _) rfl Fx.ty30 rfl rfl rfl rfl rfl rfl) rfl ?_
        refine SeqK.q (q_len rfl Fx.un30 rfl) rfl rfl rfl ?_
        refine SeqK.q (q_asC rfl rfl) rfl rfl rfl ?_
        refine SeqK.nil ?_
        refine AW.seq ?_
        refine AW.seq ?_
        refine AW.reg ?_
        refine SeqK.q (q_mvC rfl rfl) rfl rfl rfl ?_
        refine SeqK.q (q_gtr rfl rfl rfl) rfl rfl rfl ?_
        refine SeqK.qD (q_mvC rfl rfl) rfl rfl rfl (fun g29 => ?_) (fun g29 => ?_)
        ·
          refine SeqK.on (q_fieldL _ rfl Fx.fl34_2 rfl rfl) rfl rfl rfl rfl rfl ?_
          refine SeqK.on (q_fieldL _ rfl Fx.fl32_0 rfl rfl) rfl rfl rfl rfl rfl ?_
          refine SeqK.rOn (b_load (r := .a _) rfl Fx.ty3 rfl rfl rfl rfl rfl rfl) rfl rfl rfl ?_
          refine SeqK.on (q_indexL _ rfl Fx.ar58 rfl rfl ht0 (by omega) rfl) rfl rfl rfl rfl rfl ?_
          refine SeqK.rOn (b_load (r := .a _) rfl Fx.ty3 rfl rfl (arr_load hS ht0 ht3) (arr_in hS ht0 ht3) rfl rfl) rfl rfl rfl ?_
          refine SeqK.on (q_neq rfl rfl rfl) rfl rfl rfl rfl rfl ?_
          refine SeqK.q (q_pkT rfl rfl rfl) rfl rfl rfl ?_
          refine SeqK.qD (q_mvC rfl rfl) rfl rfl rfl (fun g37 => ?_) (fun g37 => ?_)
          ·
            refine SeqK.on (q_fieldL _ rfl Fx.fl34_2 rfl rfl) rfl rfl rfl rfl rfl ?_
            refine SeqK.on (q_fieldL _ rfl Fx.fl32_0 rfl rfl) rfl rfl rfl rfl rfl ?_
            refine SeqK.rOn (b_load (r := .a _) rfl Fx.ty3 rfl rfl rfl rfl rfl rfl) rfl rfl rfl ?_
            refine SeqK.on (q_indexL _ rfl Fx.ar58 rfl rfl ht0 (by omega) rfl) rfl rfl rfl rfl rfl ?_
            refine SeqK.rOn (b_load (r := .a _) rfl Fx.ty3 rfl rfl (arr_load hS ht0 ht3) (arr_in hS ht0 ht3) rfl rfl) rfl rfl rfl ?_
            refine SeqK.on (q_mvC rfl rfl) rfl rfl rfl rfl rfl ?_
            refine SeqK.on (q_neq rfl rfl rfl) rfl rfl rfl rfl rfl ?_
            refine SeqK.q (q_pkT rfl rfl rfl) rfl rfl rfl ?_
            refine SeqK.nil ?_
            refine AW.condD rfl (fun h45 => ?_) (fun h45 => ?_)
            ·
              refine AW.seq ?_
              refine AW.reg ?_
              refine SeqK.q (q_asC rfl rfl) rfl rfl rfl ?_
              refine SeqK.nil ?_
              refine AW.ret ?_
              exact fin_x (x := .c _) H (.tmp rfl .nil) rfl (fun _ _ h => h) ⟨by
                have h9 : fairHit S l[i].b := by simp only [List.length_map] at *; unfold fairHit; first | omega | grind
                rw [fairB, hf, hdr, fair_stop h9, Bool.and_false], rfl⟩
            ·
              refine AW.skip ?_
              refine AW.seq ?_
              refine AW.reg ?_
              refine SeqK.q (q_mvC rfl rfl) rfl rfl rfl ?_
              refine SeqK.q (q_gtr rfl rfl rfl) rfl rfl rfl ?_
              refine SeqK.nil ?_
              refine AW.condD rfl (fun h47 => ?_) (fun h47 => ?_)
              ·
                refine AW.reg ?_
                refine SeqK.q (q_fieldL _ rfl Fx.fl34_2 rfl rfl) rfl rfl rfl ?_
                refine SeqK.q (q_fieldL _ rfl Fx.fl32_0 rfl rfl) rfl rfl rfl ?_
                refine SeqK.r (b_load (r := .a _) rfl Fx.ty3 rfl rfl rfl rfl rfl rfl) rfl ?_
                refine SeqK.q (q_mvC rfl rfl) rfl rfl rfl ?_
                refine SeqK.q (q_indexL _ rfl Fx.ar58 rfl rfl ht0 (by omega) rfl) rfl rfl rfl ?_
                refine SeqK.r (b_store (r := _) rfl rfl Fx.ty3 rfl rfl rfl (arr_store hS ht0 ht3 _) rfl (arr_in hS ht0 ht3)) rfl ?_
                refine SeqK.nil ?_
                refine AW.reg ?_
                refine SeqK.q (q_add _ rfl rfl rfl (w64 (by omega) (by omega))) rfl rfl rfl ?_
                refine SeqK.q (q_mvC rfl rfl) rfl rfl rfl ?_
                refine SeqK.nil ?_
                exact ⟨i + 1, _, Wk.keep 54 [(4, bX false), (5, .lp 5 0), (13, .c (opZ z l)), (14, iX .i64 ((l.map opT).length : Nat)), (15, iX .i64 (((i + 1) : Nat) : Int))] [(5, .box ((S.set l[i].b.tb.toNat (((l[i].b.ss.map sdT).length : Nat) : Int)).map fun n => A.t (.v (.int .i64 n))))] (H) rfl ⟨rfl, rfl, rfl, rfl, rfl, trivial⟩ ⟨rfl, trivial⟩ (fun _ _ h => h) rfl, by omega, S.set l[i].b.tb.toNat (((l[i].b.ss.map sdT).length : Nat) : Int), ⟨by simp [hS], by omega, by
                  have hp : 0 < l[i].b.ss.length := by simp only [List.length_map] at h47; omega
                  have hn : ¬ fairHit S l[i].b := by simp only [List.length_map] at *; unfold fairHit; first | omega | grind
                  rw [hf, hdr, fair_set hg hn hp, List.length_map]⟩, rfl⟩
              ·
                refine AW.skip ?_
                refine AW.reg ?_
                refine SeqK.q (q_add _ rfl rfl rfl (w64 (by omega) (by omega))) rfl rfl rfl ?_
                refine SeqK.q (q_mvC rfl rfl) rfl rfl rfl ?_
                refine SeqK.nil ?_
                exact ⟨i + 1, _, Wk.keep 54 [(4, bX false), (5, .lp 5 0), (13, .c (opZ z l)), (14, iX .i64 ((l.map opT).length : Nat)), (15, iX .i64 (((i + 1) : Nat) : Int))] [(5, .box ((S).map fun n => A.t (.v (.int .i64 n))))] (H) rfl ⟨rfl, rfl, rfl, rfl, rfl, trivial⟩ ⟨rfl, trivial⟩ (fun _ _ h => h) rfl, by omega, S, ⟨hS, by omega, by
                  have hp : ¬ 0 < l[i].b.ss.length := by simp only [List.length_map] at h47; omega
                  rw [hf, hdr, fair_same hg hp]⟩, rfl⟩
          ·
            refine SeqK.off rfl rfl rfl rfl rfl rfl ?_
            refine SeqK.off rfl rfl rfl rfl rfl rfl ?_
            refine SeqK.off rfl rfl rfl rfl rfl rfl ?_
            refine SeqK.off rfl rfl rfl rfl rfl rfl ?_
            refine SeqK.off rfl rfl rfl rfl rfl rfl ?_
            refine SeqK.off rfl rfl rfl rfl rfl rfl ?_
            refine SeqK.off rfl rfl rfl rfl rfl rfl ?_
            refine SeqK.q (q_pkF rfl rfl rfl) rfl rfl rfl ?_
            refine SeqK.nil ?_
            refine AW.condF rfl ?_
            refine AW.skip ?_
            refine AW.seq ?_
            refine AW.reg ?_
            refine SeqK.q (q_mvC rfl rfl) rfl rfl rfl ?_
            refine SeqK.q (q_gtr rfl rfl rfl) rfl rfl rfl ?_
            refine SeqK.nil ?_
            refine AW.condD rfl (fun h47 => ?_) (fun h47 => ?_)
            ·
              refine AW.reg ?_
              refine SeqK.q (q_fieldL _ rfl Fx.fl34_2 rfl rfl) rfl rfl rfl ?_
              refine SeqK.q (q_fieldL _ rfl Fx.fl32_0 rfl rfl) rfl rfl rfl ?_
              refine SeqK.r (b_load (r := .a _) rfl Fx.ty3 rfl rfl rfl rfl rfl rfl) rfl ?_
              refine SeqK.q (q_mvC rfl rfl) rfl rfl rfl ?_
              refine SeqK.q (q_indexL _ rfl Fx.ar58 rfl rfl ht0 (by omega) rfl) rfl rfl rfl ?_
              refine SeqK.r (b_store (r := _) rfl rfl Fx.ty3 rfl rfl rfl (arr_store hS ht0 ht3 _) rfl (arr_in hS ht0 ht3)) rfl ?_
              refine SeqK.nil ?_
              refine AW.reg ?_
              refine SeqK.q (q_add _ rfl rfl rfl (w64 (by omega) (by omega))) rfl rfl rfl ?_
              refine SeqK.q (q_mvC rfl rfl) rfl rfl rfl ?_
              refine SeqK.nil ?_
              exact ⟨i + 1, _, Wk.keep 54 [(4, bX false), (5, .lp 5 0), (13, .c (opZ z l)), (14, iX .i64 ((l.map opT).length : Nat)), (15, iX .i64 (((i + 1) : Nat) : Int))] [(5, .box ((S.set l[i].b.tb.toNat (((l[i].b.ss.map sdT).length : Nat) : Int)).map fun n => A.t (.v (.int .i64 n))))] (H) rfl ⟨rfl, rfl, rfl, rfl, rfl, trivial⟩ ⟨rfl, trivial⟩ (fun _ _ h => h) rfl, by omega, S.set l[i].b.tb.toNat (((l[i].b.ss.map sdT).length : Nat) : Int), ⟨by simp [hS], by omega, by
                have hp : 0 < l[i].b.ss.length := by simp only [List.length_map] at h47; omega
                have hn : ¬ fairHit S l[i].b := by simp only [List.length_map] at *; unfold fairHit; first | omega | grind
                rw [hf, hdr, fair_set hg hn hp, List.length_map]⟩, rfl⟩
            ·
              refine AW.skip ?_
              refine AW.reg ?_
              refine SeqK.q (q_add _ rfl rfl rfl (w64 (by omega) (by omega))) rfl rfl rfl ?_
              refine SeqK.q (q_mvC rfl rfl) rfl rfl rfl ?_
              refine SeqK.nil ?_
              exact ⟨i + 1, _, Wk.keep 54 [(4, bX false), (5, .lp 5 0), (13, .c (opZ z l)), (14, iX .i64 ((l.map opT).length : Nat)), (15, iX .i64 (((i + 1) : Nat) : Int))] [(5, .box ((S).map fun n => A.t (.v (.int .i64 n))))] (H) rfl ⟨rfl, rfl, rfl, rfl, rfl, trivial⟩ ⟨rfl, trivial⟩ (fun _ _ h => h) rfl, by omega, S, ⟨hS, by omega, by
                have hp : ¬ 0 < l[i].b.ss.length := by simp only [List.length_map] at h47; omega
                rw [hf, hdr, fair_same hg hp]⟩, rfl⟩
        ·
          refine SeqK.off rfl rfl rfl rfl rfl rfl ?_
          refine SeqK.off rfl rfl rfl rfl rfl rfl ?_
          refine SeqK.off rfl rfl rfl rfl rfl rfl ?_
          refine SeqK.off rfl rfl rfl rfl rfl rfl ?_
          refine SeqK.off rfl rfl rfl rfl rfl rfl ?_
          refine SeqK.off rfl rfl rfl rfl rfl rfl ?_
          refine SeqK.q (q_pkF rfl rfl rfl) rfl rfl rfl ?_
          refine SeqK.q (q_mvC rfl rfl) rfl rfl rfl ?_
          refine SeqK.off rfl rfl rfl rfl rfl rfl ?_
          refine SeqK.off rfl rfl rfl rfl rfl rfl ?_
          refine SeqK.off rfl rfl rfl rfl rfl rfl ?_
          refine SeqK.off rfl rfl rfl rfl rfl rfl ?_
          refine SeqK.off rfl rfl rfl rfl rfl rfl ?_
          refine SeqK.off rfl rfl rfl rfl rfl rfl ?_
          refine SeqK.off rfl rfl rfl rfl rfl rfl ?_
          refine SeqK.q (q_pkF rfl rfl rfl) rfl rfl rfl ?_
          refine SeqK.nil ?_
          refine AW.condF rfl ?_
          refine AW.skip ?_
          refine AW.seq ?_
          refine AW.reg ?_
          refine SeqK.q (q_mvC rfl rfl) rfl rfl rfl ?_
          refine SeqK.q (q_gtr rfl rfl rfl) rfl rfl rfl ?_
          refine SeqK.nil ?_
          refine AW.condD rfl (fun h47 => ?_) (fun h47 => ?_)
          ·
            refine AW.reg ?_
            refine SeqK.q (q_fieldL _ rfl Fx.fl34_2 rfl rfl) rfl rfl rfl ?_
            refine SeqK.q (q_fieldL _ rfl Fx.fl32_0 rfl rfl) rfl rfl rfl ?_
            refine SeqK.r (b_load (r := .a _) rfl Fx.ty3 rfl rfl rfl rfl rfl rfl) rfl ?_
            refine SeqK.q (q_mvC rfl rfl) rfl rfl rfl ?_
            refine SeqK.q (q_indexL _ rfl Fx.ar58 rfl rfl ht0 (by omega) rfl) rfl rfl rfl ?_
            refine SeqK.r (b_store (r := _) rfl rfl Fx.ty3 rfl rfl rfl (arr_store hS ht0 ht3 _) rfl (arr_in hS ht0 ht3)) rfl ?_
            refine SeqK.nil ?_
            refine AW.reg ?_
            refine SeqK.q (q_add _ rfl rfl rfl (w64 (by omega) (by omega))) rfl rfl rfl ?_
            refine SeqK.q (q_mvC rfl rfl) rfl rfl rfl ?_
            refine SeqK.nil ?_
            exact ⟨i + 1, _, Wk.keep 54 [(4, bX false), (5, .lp 5 0), (13, .c (opZ z l)), (14, iX .i64 ((l.map opT).length : Nat)), (15, iX .i64 (((i + 1) : Nat) : Int))] [(5, .box ((S.set l[i].b.tb.toNat (((l[i].b.ss.map sdT).length : Nat) : Int)).map fun n => A.t (.v (.int .i64 n))))] (H) rfl ⟨rfl, rfl, rfl, rfl, rfl, trivial⟩ ⟨rfl, trivial⟩ (fun _ _ h => h) rfl, by omega, S.set l[i].b.tb.toNat (((l[i].b.ss.map sdT).length : Nat) : Int), ⟨by simp [hS], by omega, by
              have hp : 0 < l[i].b.ss.length := by simp only [List.length_map] at h47; omega
              have hn : ¬ fairHit S l[i].b := by simp only [List.length_map] at *; unfold fairHit; first | omega | grind
              rw [hf, hdr, fair_set hg hn hp, List.length_map]⟩, rfl⟩
          ·
            refine AW.skip ?_
            refine AW.reg ?_
            refine SeqK.q (q_add _ rfl rfl rfl (w64 (by omega) (by omega))) rfl rfl rfl ?_
            refine SeqK.q (q_mvC rfl rfl) rfl rfl rfl ?_
            refine SeqK.nil ?_
            exact ⟨i + 1, _, Wk.keep 54 [(4, bX false), (5, .lp 5 0), (13, .c (opZ z l)), (14, iX .i64 ((l.map opT).length : Nat)), (15, iX .i64 (((i + 1) : Nat) : Int))] [(5, .box ((S).map fun n => A.t (.v (.int .i64 n))))] (H) rfl ⟨rfl, rfl, rfl, rfl, rfl, trivial⟩ ⟨rfl, trivial⟩ (fun _ _ h => h) rfl, by omega, S, ⟨hS, by omega, by
              have hp : ¬ 0 < l[i].b.ss.length := by simp only [List.length_map] at h47; omega
              rw [hf, hdr, fair_same hg hp]⟩, rfl⟩
    ·
      refine AW.exit ?_
      refine eth_e ?_
      refine eth_e ?_
      refine exit_here ?_
      refine AW.seq ?_
      refine AW.reg ?_
      refine SeqK.q (q_asC rfl rfl) rfl rfl rfl ?_
      refine SeqK.nil ?_
      refine AW.ret ?_
      exact fin_x (x := .c _) H (.tmp rfl .nil) rfl (fun _ _ h => h) ⟨by
        have : i = l.length := by simp at h16; omega
        have hm : ¬ most < (l.length : Int) := by simpa using h12
        rw [this, List.drop_length] at hf
        simp [fairB, hf, fairGo]; omega, rfl⟩

end Go.Proofs.Ytojkjiakkcgfcaa.W
