import Derived.Test.YtojkjiakkcgfcaaW10
import Derived.Test.YtojkjiakkcgfcaaE34
namespace Go.Proofs.Ytojkjiakkcgfcaa.W
open Go.RowKit E
set_option linter.unusedVariables false
def hull1 (x y : Sd) : Sd :=
  if y.oth = false then { x with nul := x.nul || y.nul } else if x.oth = false then ⟨x.nul || y.nul, true, y.lo, y.hi, y.fr, y.to⟩
  else ⟨x.nul || y.nul, x.oth, min x.lo y.lo, max x.hi y.hi, minStr x.fr y.fr, maxStr x.to y.to⟩
def hull (a b : Bx) : Bx := ⟨a.tb, List.zipWith hull1 a.ss b.ss⟩
abbrev rowA (ss : List Sd) : List A := (ss.map sdT).flatten.map .t
theorem rowA_cons (s : Sd) (ss : List Sd) : rowA (s :: ss) = (sdT s).map .t ++ rowA ss := by simp [rowA]
theorem rowA_app (x y : List Sd) : rowA (x ++ y) = rowA x ++ rowA y := by simp [rowA]
theorem rowA_len (ss : List Sd) : (rowA ss).length = ss.length * 6 := flat6 ss
theorem hull_succ {x y : List Sd} {i : Nat} (hx : i < x.length) (hy : i < y.length) : (List.zipWith hull1 x y).take (i + 1) = (List.zipWith hull1 x y).take i ++ [hull1 x[i] y[i]] := by
  rw [List.take_succ_eq_append_getElem (by simp; omega)]; simp

set_option maxRecDepth 20000 in
theorem hull_row (a b : Bx) (ha : a.ss.length ≤ 1000000) (hab : a.ss.length = b.ss.length) (h0 : a.ss.length ≠ 0) (H : Heap) : E.Spec Try.prog 22 [bxC .un a, bxC .un b] H fun x H' => ∃ k, H k = none ∧ x = .c (.g [.t (.v (.int .i64 a.tb)), .os k 0 (hull a b).ss.length 6]) ∧ H' = upd H k (some (.row 55 6 (rowA (hull a b).ss))) := by
  refine Spec.enter Try.func22 rfl ?_
  refine AW.wk (Wk.keep 119 [(0, .c (bxC .un a)), (1, .c (bxC .un b))] [] (H) rfl ⟨rfl, rfl, trivial⟩ trivial (fun _ _ h => h) rfl) ?_
  refine AW.seq ?_
  refine AW.reg ?_
  refine SeqK.r (b_box (r := [_, _]) rfl rfl rfl rfl rfl rfl) rfl ?_
  refine SeqK.r (b_box (r := [_, _]) rfl rfl rfl rfl rfl rfl) rfl ?_
  refine SeqK.r (b_alloc (r := [_, _]) rfl rfl Fx.ze40 rfl rfl rfl rfl) rfl ?_
  refine SeqK.nil ?_
  refine AW.seq ?_
  refine AW.seq ?_
  refine AW.reg ?_
  refine SeqK.q (q_fieldL _ rfl Fx.fl40_1 rfl rfl) rfl rfl rfl ?_
  refine SeqK.r (b_load (r := .a _) rfl Fx.ty38 rfl rfl rfl rfl rfl rfl) rfl ?_
  refine SeqK.q (q_len rfl Fx.un38 rfl) rfl rfl rfl ?_
  refine SeqK.q (q_eql rfl rfl rfl) rfl rfl rfl ?_
  refine SeqK.nil ?_
  refine AW.condD rfl (fun h12 => ?_) (fun h12 => ?_)
  ·
    exact absurd (by simpa using h12) h0
  ·
    refine AW.skip ?_
    refine AW.seq ?_
    refine AW.drawO [0, 1, 2, 3, 6, 4, 5, 7] Fx.mo (by kernel_rfl) ?_
    refine LexO.q rfl (by kernel_rfl) (q_fieldL _ rfl Fx.fl40_0 rfl rfl) rfl rfl rfl ?_
    refine LexO.r rfl (by kernel_rfl) (b_load (r := .a _) rfl Fx.ty3 rfl rfl rfl rfl rfl rfl) rfl ?_
    refine LexO.q rfl (by kernel_rfl) (q_fieldL _ rfl Fx.fl40_1 rfl rfl) rfl rfl rfl ?_
    refine LexO.r rfl (by kernel_rfl) (b_load (r := .a _) rfl Fx.ty38 rfl rfl rfl rfl rfl rfl) rfl ?_
    refine LexO.r rfl (by kernel_rfl) (b_alloc (r := [_, _]) rfl rfl Fx.ze40 rfl rfl rfl rfl) rfl ?_
    refine LexO.appNR rfl (by kernel_rfl) (by kernel_rfl) (by kernel_rfl) rfl rfl Fx.el38 rfl rfl (by simp; omega) rfl rfl (fun k19 hk19 => ?_)
    refine LexO.q rfl (by kernel_rfl) (q_build2 (zs := [_, _]) (r := [_, _]) [(0, 1), (1, 1)] _ rfl Fx.ze40 rfl Fx.bp40 rfl rfl rfl rfl) rfl rfl rfl ?_
    refine LexO.r rfl (by kernel_rfl) (b_store (r := [_, _]) rfl rfl Fx.ty40 rfl rfl rfl rfl rfl rfl) rfl ?_
    refine LexO.nil (by kernel_rfl) ?_
    refine AW.seq ?_
    refine AW.seq ?_
    refine AW.reg ?_
    refine SeqK.q (q_fieldL _ rfl Fx.fl40_1 rfl rfl) rfl rfl rfl ?_
    refine SeqK.r (b_load (r := .a _) rfl Fx.ty38 rfl rfl rfl rfl rfl rfl) rfl ?_
    refine SeqK.q (q_len rfl Fx.un38 rfl) rfl rfl rfl ?_
    refine SeqK.q (q_mvC rfl rfl) rfl rfl rfl ?_
    refine SeqK.nil ?_
    refine AW.block ?_
    refine AW.loop (fun (i : Nat) s => ∃ (P : List A), (i ≤ b.ss.length ∧ P = rowA ((List.zipWith hull1 a.ss b.ss).take i)) ∧ s = ⟨119, sp [(4, .lp 4 0), (5, .lp 5 0), (22, .c (.a (.t (.sl .un 6 (b.ss.map sdT))))), (23, iX .i64 ((b.ss.map sdT).length : Nat)), (24, iX .i64 ((i : Nat) : Int))], lv [(4, .box [.t (.v (.int .i64 0)), .t (.v (.slice none 0 0))]), (5, .box [.t (.v (.int .i64 a.tb)), .os k19 0 (a.ss.map sdT).length 6])], upd H k19 (some (.row 55 6 (P ++ rowA (a.ss.drop i))))⟩) (fun i => b.ss.length - i) 0 ⟨_, Wk.keep 119 [(4, .lp 4 0), (5, .lp 5 0), (22, .c (.a (.t (.sl .un 6 (b.ss.map sdT))))), (23, iX .i64 ((b.ss.map sdT).length : Nat)), (24, iX .i64 ((((0 : Nat)) : Nat) : Int))] [(4, .box [.t (.v (.int .i64 0)), .t (.v (.slice none 0 0))]), (5, .box [.t (.v (.int .i64 a.tb)), .os k19 0 (a.ss.map sdT).length 6])] (upd H k19 (some (.row 55 6 (([]) ++ rowA (a.ss.drop ((0 : Nat))))))) rfl ⟨rfl, rfl, rfl, rfl, rfl, trivial⟩ ⟨rfl, rfl, trivial⟩ (fun _ _ h => h) rfl, [], ⟨Nat.zero_le _, rfl⟩, rfl⟩ (fun i s hs => ?_)
    obtain ⟨P, ⟨hi, hPe⟩, rfl⟩ := hs
    refine AW.seq ?_
    refine AW.reg ?_
    refine SeqK.q (q_lss rfl rfl rfl) rfl rfl rfl ?_
    refine SeqK.nil ?_
    refine AW.seq ?_
    refine AW.condD rfl (fun h25 => ?_) (fun h25 => ?_)
    ·
      have hka : i < b.ss.length := by simp at h25; omega
      have hja : i < a.ss.length := by omega
      rw [show P ++ rowA (a.ss.drop i) = P ++ (sdT a.ss[i]).map A.t ++ rowA (a.ss.drop (i + 1)) from by rw [List.drop_eq_getElem_cons hja, rowA_cons, List.append_assoc]]
      have hP : P.length = 0 + i * 6 := by rw [hPe, rowA_len]; simp; omega
      refine AW.skip ?_
      refine AW.seq ?_
      refine AW.block ?_
      refine AW.seq ?_
      refine AW.reg ?_
      refine SeqK.q (q_mvC rfl rfl) rfl rfl rfl ?_
      refine SeqK.q (q_index _ rfl Fx.sl38 rfl rfl (by omega) (idx_map hka)) rfl rfl rfl ?_
      refine SeqK.q (q_load (.g [_, _, _, _, _, _]) rfl Fx.ty55 rfl rfl rfl) rfl rfl rfl ?_
      refine SeqK.r (b_alloc (r := [_, _, _, _, _, _]) rfl rfl Fx.ze55 rfl rfl rfl rfl) rfl ?_
      refine SeqK.q (q_asC rfl rfl) rfl rfl rfl ?_
      refine SeqK.r (b_store (r := [_, _, _, _, _, _]) rfl rfl Fx.ty55 rfl rfl rfl rfl rfl rfl) rfl ?_
      refine SeqK.nil ?_
      refine AW.seq ?_
      refine AW.reg ?_
      refine SeqK.q (q_fieldL _ rfl Fx.fl40_1 rfl rfl) rfl rfl rfl ?_
      refine SeqK.r (b_load (r := .a _) rfl Fx.ty38 rfl rfl rfl rfl rfl rfl) rfl ?_
      refine SeqK.q (q_mvC rfl rfl) rfl rfl rfl ?_
      refine SeqK.q (q_indexOs _ rfl Fx.sl38 rfl rfl (by omega) (by rw [List.length_map]; omega) rfl) rfl rfl rfl ?_
      refine SeqK.q (q_asC rfl rfl) rfl rfl rfl ?_
      refine SeqK.nil ?_
      refine AW.seq ?_
      refine AW.reg ?_
      refine SeqK.q (q_mvC rfl rfl) rfl rfl rfl ?_
      refine SeqK.q (q_mvC rfl rfl) rfl rfl rfl ?_
      refine SeqK.q (q_nilH rfl rfl) rfl rfl rfl ?_
      refine SeqK.q (q_fieldH _ rfl Fx.fl55_0 rfl rfl) rfl rfl rfl ?_
      refine SeqK.r (g_loadR rfl Fx.ty4 rfl (by (repeat rw [upd_ne _ _ (by first | assumption | exact Ne.symm (by assumption))]); first | assumption | exact upd_same _ _ _) (congrArg (mkC _) (mid_ld hP (Nat.le_of_ble_eq_true rfl))) (by show _ ≤ (P ++ _ ++ rowA (a.ss.drop (i + 1))).length; rw [List.length_append, List.length_append, hP]; show _ ≤ 0 + i * 6 + 6 + _; omega) (by decide) rfl rfl) rfl ?_
      refine SeqK.qB (q_mvC rfl rfl) rfl rfl rfl (fun g38 => ?_) (fun g38 => ?_)
      ·
        refine SeqK.off rfl rfl rfl rfl rfl rfl ?_
        refine SeqK.off rfl rfl rfl rfl rfl rfl ?_
        refine SeqK.q (q_pkT rfl rfl rfl) rfl rfl rfl ?_
        refine SeqK.q (q_nilH rfl rfl) rfl rfl rfl ?_
        refine SeqK.q (q_fieldH _ rfl Fx.fl55_0 rfl rfl) rfl rfl rfl ?_
        refine SeqK.r (g_storeR rfl rfl Fx.ty4 rfl rfl (by (repeat rw [upd_ne _ _ (by first | assumption | exact Ne.symm (by assumption))]); first | assumption | exact upd_same _ _ _) (mid_st hP (Nat.le_of_ble_eq_true rfl)) rfl (by show _ ≤ (P ++ _ ++ rowA (a.ss.drop (i + 1))).length; rw [List.length_append, List.length_append, hP]; show _ ≤ 0 + i * 6 + 6 + _; omega) (by decide)) rfl ?_
        refine SeqK.nil ?_
        refine AW.block ?_
        refine AW.seq ?_
        refine AW.reg ?_
        refine SeqK.q (q_fieldL _ rfl Fx.fl55_1 rfl rfl) rfl rfl rfl ?_
        refine SeqK.r (b_load (r := .a _) rfl Fx.ty4 rfl rfl rfl rfl rfl rfl) rfl ?_
        refine SeqK.q (q_not rfl rfl) rfl rfl rfl ?_
        refine SeqK.q (q_asC rfl rfl) rfl rfl rfl ?_
        refine SeqK.nil ?_
        refine AW.cond _ rfl (fun h84 => ?_) (fun h84 => ?_)
        ·
          simp at h84
          refine AW.skip ?_
          refine AW.reg ?_
          refine SeqK.q (q_add _ rfl rfl rfl (w64 (by omega) (by omega))) rfl rfl rfl ?_
          refine SeqK.q (q_mvC rfl rfl) rfl rfl rfl ?_
          refine SeqK.nil ?_
          exact ⟨i + 1, _, Wk.keep 119 [(4, .lp 4 0), (5, .lp 5 0), (22, .c (.a (.t (.sl .un 6 (b.ss.map sdT))))), (23, iX .i64 ((b.ss.map sdT).length : Nat)), (24, iX .i64 (((i + 1) : Nat) : Int))] [(4, .box [.t (.v (.int .i64 0)), .t (.v (.slice none 0 0))]), (5, .box [.t (.v (.int .i64 a.tb)), .os k19 0 (a.ss.map sdT).length 6])] (upd H k19 (some (.row 55 6 ((P ++ (sdT (hull1 a.ss[i] b.ss[i])).map A.t) ++ rowA (a.ss.drop (i + 1)))))) rfl ⟨rfl, rfl, rfl, rfl, rfl, trivial⟩ ⟨rfl, rfl, trivial⟩ (fun j o h => by
            simp only [upd_upd]
            refine Eq.trans (congrFun (congrArg (upd H k19) (congrArg some (congrArg (AO.row 55 6) ?_))) j) h
            refine congrArg (fun z => z ++ _) (congrArg (fun z => _ ++ z) ?_)
            simp [splice, hull1, C.cells, *]) rfl, by omega, P ++ (sdT (hull1 a.ss[i] b.ss[i])).map A.t, ⟨by omega, by rw [hPe, hull_succ hja hka, rowA_app]; simp [rowA]⟩, rfl⟩
        ·
          simp at h84
          refine AW.seq ?_
          refine AW.reg ?_
          refine SeqK.q (q_mvC rfl rfl) rfl rfl rfl ?_
          refine SeqK.q (q_nilH rfl rfl) rfl rfl rfl ?_
          refine SeqK.q (q_fieldH _ rfl Fx.fl55_1 rfl rfl) rfl rfl rfl ?_
          refine SeqK.r (g_loadR rfl Fx.ty4 rfl (by (repeat rw [upd_ne _ _ (by first | assumption | exact Ne.symm (by assumption))]); first | assumption | exact upd_same _ _ _) (congrArg (mkC _) (mid_ld hP (Nat.le_of_ble_eq_true rfl))) (by show _ ≤ (P ++ _ ++ rowA (a.ss.drop (i + 1))).length; rw [List.length_append, List.length_append, hP]; show _ ≤ 0 + i * 6 + 6 + _; omega) (by decide) rfl rfl) rfl ?_
          refine SeqK.q (q_not rfl rfl) rfl rfl rfl ?_
          refine SeqK.q (q_asC rfl rfl) rfl rfl rfl ?_
          refine SeqK.nil ?_
          refine AW.cond _ rfl (fun h88 => ?_) (fun h88 => ?_)
          ·
            simp at h88
            refine AW.draw Fx.mo ?_
            refine LexK.q (q_mvC rfl rfl) rfl rfl rfl ?_
            refine LexK.q (q_mvC rfl rfl) rfl rfl rfl ?_
            refine LexK.q (q_mvC rfl rfl) rfl rfl rfl ?_
            refine LexK.q (q_mvC rfl rfl) rfl rfl rfl ?_
            refine LexK.q (q_mvC rfl rfl) rfl rfl rfl ?_
            refine LexK.q (q_fieldL _ rfl Fx.fl55_2 rfl rfl) rfl rfl rfl ?_
            refine LexK.r (b_load (r := .a _) rfl Fx.ty2 rfl rfl rfl rfl rfl rfl) rfl ?_
            refine LexK.q (q_fieldL _ rfl Fx.fl55_3 rfl rfl) rfl rfl rfl ?_
            refine LexK.r (b_load (r := .a _) rfl Fx.ty2 rfl rfl rfl rfl rfl rfl) rfl ?_
            refine LexK.q (q_fieldL _ rfl Fx.fl55_4 rfl rfl) rfl rfl rfl ?_
            refine LexK.r (b_load (r := .a _) rfl Fx.ty9 rfl rfl rfl rfl rfl rfl) rfl ?_
            refine LexK.q (q_fieldL _ rfl Fx.fl55_5 rfl rfl) rfl rfl rfl ?_
            refine LexK.r (b_load (r := .a _) rfl Fx.ty9 rfl rfl rfl rfl rfl rfl) rfl ?_
            refine LexK.q (q_nilH rfl rfl) rfl rfl rfl ?_
            refine LexK.q (q_fieldH _ rfl Fx.fl55_1 rfl rfl) rfl rfl rfl ?_
            refine LexK.r (g_storeR rfl rfl Fx.ty4 rfl rfl (by (repeat rw [upd_ne _ _ (by first | assumption | exact Ne.symm (by assumption))]); first | assumption | exact upd_same _ _ _) (mid_st hP (Nat.le_of_ble_eq_true rfl)) rfl (by show _ ≤ (P ++ _ ++ rowA (a.ss.drop (i + 1))).length; rw [List.length_append, List.length_append, hP]; show _ ≤ 0 + i * 6 + 6 + _; omega) (by decide)) rfl ?_
            refine LexK.q (q_nilH rfl rfl) rfl rfl rfl ?_
            refine LexK.q (q_fieldH _ rfl Fx.fl55_2 rfl rfl) rfl rfl rfl ?_
            refine LexK.r (g_storeR rfl rfl Fx.ty2 rfl rfl (by (repeat rw [upd_ne _ _ (by first | assumption | exact Ne.symm (by assumption))]); first | assumption | exact upd_same _ _ _) (mid_st hP (Nat.le_of_ble_eq_true rfl)) rfl (by show _ ≤ (P ++ _ ++ rowA (a.ss.drop (i + 1))).length; rw [List.length_append, List.length_append, hP]; show _ ≤ 0 + i * 6 + 6 + _; omega) (by decide)) rfl ?_
            refine LexK.q (q_nilH rfl rfl) rfl rfl rfl ?_
            refine LexK.q (q_fieldH _ rfl Fx.fl55_3 rfl rfl) rfl rfl rfl ?_
            refine LexK.r (g_storeR rfl rfl Fx.ty2 rfl rfl (by (repeat rw [upd_ne _ _ (by first | assumption | exact Ne.symm (by assumption))]); first | assumption | exact upd_same _ _ _) (mid_st hP (Nat.le_of_ble_eq_true rfl)) rfl (by show _ ≤ (P ++ _ ++ rowA (a.ss.drop (i + 1))).length; rw [List.length_append, List.length_append, hP]; show _ ≤ 0 + i * 6 + 6 + _; omega) (by decide)) rfl ?_
            refine LexK.q (q_nilH rfl rfl) rfl rfl rfl ?_
            refine LexK.q (q_fieldH _ rfl Fx.fl55_4 rfl rfl) rfl rfl rfl ?_
            refine LexK.r (g_storeR rfl rfl Fx.ty9 rfl rfl (by (repeat rw [upd_ne _ _ (by first | assumption | exact Ne.symm (by assumption))]); first | assumption | exact upd_same _ _ _) (mid_st hP (Nat.le_of_ble_eq_true rfl)) rfl (by show _ ≤ (P ++ _ ++ rowA (a.ss.drop (i + 1))).length; rw [List.length_append, List.length_append, hP]; show _ ≤ 0 + i * 6 + 6 + _; omega) (by decide)) rfl ?_
            refine LexK.q (q_nilH rfl rfl) rfl rfl rfl ?_
            refine LexK.q (q_fieldH _ rfl Fx.fl55_5 rfl rfl) rfl rfl rfl ?_
            refine LexK.r (g_storeR rfl rfl Fx.ty9 rfl rfl (by (repeat rw [upd_ne _ _ (by first | assumption | exact Ne.symm (by assumption))]); first | assumption | exact upd_same _ _ _) (mid_st hP (Nat.le_of_ble_eq_true rfl)) rfl (by show _ ≤ (P ++ _ ++ rowA (a.ss.drop (i + 1))).length; rw [List.length_append, List.length_append, hP]; show _ ≤ 0 + i * 6 + 6 + _; omega) (by decide)) rfl ?_
            refine LexK.nil (by kernel_rfl) ?_
            refine AW.reg ?_
            refine SeqK.q (q_add _ rfl rfl rfl (w64 (by omega) (by omega))) rfl rfl rfl ?_
            refine SeqK.q (q_mvC rfl rfl) rfl rfl rfl ?_
            refine SeqK.nil ?_
            exact ⟨i + 1, _, Wk.keep 119 [(4, .lp 4 0), (5, .lp 5 0), (22, .c (.a (.t (.sl .un 6 (b.ss.map sdT))))), (23, iX .i64 ((b.ss.map sdT).length : Nat)), (24, iX .i64 (((i + 1) : Nat) : Int))] [(4, .box [.t (.v (.int .i64 0)), .t (.v (.slice none 0 0))]), (5, .box [.t (.v (.int .i64 a.tb)), .os k19 0 (a.ss.map sdT).length 6])] (upd H k19 (some (.row 55 6 ((P ++ (sdT (hull1 a.ss[i] b.ss[i])).map A.t) ++ rowA (a.ss.drop (i + 1)))))) rfl ⟨rfl, rfl, rfl, rfl, rfl, trivial⟩ ⟨rfl, rfl, trivial⟩ (fun j o h => by
              simp only [upd_upd]
              refine Eq.trans (congrFun (congrArg (upd H k19) (congrArg some (congrArg (AO.row 55 6) ?_))) j) h
              refine congrArg (fun z => z ++ _) (congrArg (fun z => _ ++ z) ?_)
              simp [splice, hull1, C.cells, *]) rfl, by omega, P ++ (sdT (hull1 a.ss[i] b.ss[i])).map A.t, ⟨by omega, by rw [hPe, hull_succ hja hka, rowA_app]; simp [rowA]⟩, rfl⟩
          ·
            simp at h88
            refine AW.draw Fx.mo ?_
            refine LexK.q (q_mvC rfl rfl) rfl rfl rfl ?_
            refine LexK.q (q_mvC rfl rfl) rfl rfl rfl ?_
            refine LexK.q (q_mvC rfl rfl) rfl rfl rfl ?_
            refine LexK.q (q_mvC rfl rfl) rfl rfl rfl ?_
            refine LexK.q (q_mvC rfl rfl) rfl rfl rfl ?_
            refine LexK.q (q_nilH rfl rfl) rfl rfl rfl ?_
            refine LexK.q (q_fieldH _ rfl Fx.fl55_2 rfl rfl) rfl rfl rfl ?_
            refine LexK.r (g_loadR rfl Fx.ty2 rfl (by (repeat rw [upd_ne _ _ (by first | assumption | exact Ne.symm (by assumption))]); first | assumption | exact upd_same _ _ _) (congrArg (mkC _) (mid_ld hP (Nat.le_of_ble_eq_true rfl))) (by show _ ≤ (P ++ _ ++ rowA (a.ss.drop (i + 1))).length; rw [List.length_append, List.length_append, hP]; show _ ≤ 0 + i * 6 + 6 + _; omega) (by decide) rfl rfl) rfl ?_
            refine LexK.q (q_fieldL _ rfl Fx.fl55_2 rfl rfl) rfl rfl rfl ?_
            refine LexK.r (b_load (r := .a _) rfl Fx.ty2 rfl rfl rfl rfl rfl rfl) rfl ?_
            refine LexK.q (q_min rfl rfl rfl) rfl rfl rfl ?_
            refine LexK.q (q_mvC rfl rfl) rfl rfl rfl ?_
            refine LexK.q (q_nilH rfl rfl) rfl rfl rfl ?_
            refine LexK.q (q_fieldH _ rfl Fx.fl55_3 rfl rfl) rfl rfl rfl ?_
            refine LexK.r (g_loadR rfl Fx.ty2 rfl (by (repeat rw [upd_ne _ _ (by first | assumption | exact Ne.symm (by assumption))]); first | assumption | exact upd_same _ _ _) (congrArg (mkC _) (mid_ld hP (Nat.le_of_ble_eq_true rfl))) (by show _ ≤ (P ++ _ ++ rowA (a.ss.drop (i + 1))).length; rw [List.length_append, List.length_append, hP]; show _ ≤ 0 + i * 6 + 6 + _; omega) (by decide) rfl rfl) rfl ?_
            refine LexK.q (q_fieldL _ rfl Fx.fl55_3 rfl rfl) rfl rfl rfl ?_
            refine LexK.r (b_load (r := .a _) rfl Fx.ty2 rfl rfl rfl rfl rfl rfl) rfl ?_
            refine LexK.q (q_max rfl rfl rfl) rfl rfl rfl ?_
            refine LexK.q (q_mvC rfl rfl) rfl rfl rfl ?_
            refine LexK.q (q_nilH rfl rfl) rfl rfl rfl ?_
            refine LexK.q (q_fieldH _ rfl Fx.fl55_4 rfl rfl) rfl rfl rfl ?_
            refine LexK.r (g_loadR rfl Fx.ty9 rfl (by (repeat rw [upd_ne _ _ (by first | assumption | exact Ne.symm (by assumption))]); first | assumption | exact upd_same _ _ _) (congrArg (mkC _) (mid_ld hP (Nat.le_of_ble_eq_true rfl))) (by show _ ≤ (P ++ _ ++ rowA (a.ss.drop (i + 1))).length; rw [List.length_append, List.length_append, hP]; show _ ≤ 0 + i * 6 + 6 + _; omega) (by decide) rfl rfl) rfl ?_
            refine LexK.q (q_fieldL _ rfl Fx.fl55_4 rfl rfl) rfl rfl rfl ?_
            refine LexK.r (b_load (r := .a _) rfl Fx.ty9 rfl rfl rfl rfl rfl rfl) rfl ?_
            refine LexK.q (q_minS rfl rfl rfl) rfl rfl rfl ?_
            refine LexK.q (q_mvC rfl rfl) rfl rfl rfl ?_
            refine LexK.q (q_nilH rfl rfl) rfl rfl rfl ?_
            refine LexK.q (q_fieldH _ rfl Fx.fl55_5 rfl rfl) rfl rfl rfl ?_
            refine LexK.r (g_loadR rfl Fx.ty9 rfl (by (repeat rw [upd_ne _ _ (by first | assumption | exact Ne.symm (by assumption))]); first | assumption | exact upd_same _ _ _) (congrArg (mkC _) (mid_ld hP (Nat.le_of_ble_eq_true rfl))) (by show _ ≤ (P ++ _ ++ rowA (a.ss.drop (i + 1))).length; rw [List.length_append, List.length_append, hP]; show _ ≤ 0 + i * 6 + 6 + _; omega) (by decide) rfl rfl) rfl ?_
            refine LexK.q (q_fieldL _ rfl Fx.fl55_5 rfl rfl) rfl rfl rfl ?_
            refine LexK.r (b_load (r := .a _) rfl Fx.ty9 rfl rfl rfl rfl rfl rfl) rfl ?_
            refine LexK.q (q_maxS rfl rfl rfl) rfl rfl rfl ?_
            refine LexK.q (q_nilH rfl rfl) rfl rfl rfl ?_
            refine LexK.q (q_fieldH _ rfl Fx.fl55_2 rfl rfl) rfl rfl rfl ?_
            refine LexK.r (g_storeR rfl rfl Fx.ty2 rfl rfl (by (repeat rw [upd_ne _ _ (by first | assumption | exact Ne.symm (by assumption))]); first | assumption | exact upd_same _ _ _) (mid_st hP (Nat.le_of_ble_eq_true rfl)) rfl (by show _ ≤ (P ++ _ ++ rowA (a.ss.drop (i + 1))).length; rw [List.length_append, List.length_append, hP]; show _ ≤ 0 + i * 6 + 6 + _; omega) (by decide)) rfl ?_
            refine LexK.q (q_nilH rfl rfl) rfl rfl rfl ?_
            refine LexK.q (q_fieldH _ rfl Fx.fl55_3 rfl rfl) rfl rfl rfl ?_
            refine LexK.r (g_storeR rfl rfl Fx.ty2 rfl rfl (by (repeat rw [upd_ne _ _ (by first | assumption | exact Ne.symm (by assumption))]); first | assumption | exact upd_same _ _ _) (mid_st hP (Nat.le_of_ble_eq_true rfl)) rfl (by show _ ≤ (P ++ _ ++ rowA (a.ss.drop (i + 1))).length; rw [List.length_append, List.length_append, hP]; show _ ≤ 0 + i * 6 + 6 + _; omega) (by decide)) rfl ?_
            refine LexK.q (q_nilH rfl rfl) rfl rfl rfl ?_
            refine LexK.q (q_fieldH _ rfl Fx.fl55_4 rfl rfl) rfl rfl rfl ?_
            refine LexK.r (g_storeR rfl rfl Fx.ty9 rfl rfl (by (repeat rw [upd_ne _ _ (by first | assumption | exact Ne.symm (by assumption))]); first | assumption | exact upd_same _ _ _) (mid_st hP (Nat.le_of_ble_eq_true rfl)) rfl (by show _ ≤ (P ++ _ ++ rowA (a.ss.drop (i + 1))).length; rw [List.length_append, List.length_append, hP]; show _ ≤ 0 + i * 6 + 6 + _; omega) (by decide)) rfl ?_
            refine LexK.q (q_nilH rfl rfl) rfl rfl rfl ?_
            refine LexK.q (q_fieldH _ rfl Fx.fl55_5 rfl rfl) rfl rfl rfl ?_
            refine LexK.r (g_storeR rfl rfl Fx.ty9 rfl rfl (by (repeat rw [upd_ne _ _ (by first | assumption | exact Ne.symm (by assumption))]); first | assumption | exact upd_same _ _ _) (mid_st hP (Nat.le_of_ble_eq_true rfl)) rfl (by show _ ≤ (P ++ _ ++ rowA (a.ss.drop (i + 1))).length; rw [List.length_append, List.length_append, hP]; show _ ≤ 0 + i * 6 + 6 + _; omega) (by decide)) rfl ?_
            refine LexK.nil (by kernel_rfl) ?_
            refine AW.reg ?_
            refine SeqK.q (q_add _ rfl rfl rfl (w64 (by omega) (by omega))) rfl rfl rfl ?_
            refine SeqK.q (q_mvC rfl rfl) rfl rfl rfl ?_
            refine SeqK.nil ?_
            exact ⟨i + 1, _, Wk.keep 119 [(4, .lp 4 0), (5, .lp 5 0), (22, .c (.a (.t (.sl .un 6 (b.ss.map sdT))))), (23, iX .i64 ((b.ss.map sdT).length : Nat)), (24, iX .i64 (((i + 1) : Nat) : Int))] [(4, .box [.t (.v (.int .i64 0)), .t (.v (.slice none 0 0))]), (5, .box [.t (.v (.int .i64 a.tb)), .os k19 0 (a.ss.map sdT).length 6])] (upd H k19 (some (.row 55 6 ((P ++ (sdT (hull1 a.ss[i] b.ss[i])).map A.t) ++ rowA (a.ss.drop (i + 1)))))) rfl ⟨rfl, rfl, rfl, rfl, rfl, trivial⟩ ⟨rfl, rfl, trivial⟩ (fun j o h => by
              simp only [upd_upd]
              refine Eq.trans (congrFun (congrArg (upd H k19) (congrArg some (congrArg (AO.row 55 6) ?_))) j) h
              refine congrArg (fun z => z ++ _) (congrArg (fun z => _ ++ z) ?_)
              simp [splice, hull1, C.cells, *]) rfl, by omega, P ++ (sdT (hull1 a.ss[i] b.ss[i])).map A.t, ⟨by omega, by rw [hPe, hull_succ hja hka, rowA_app]; simp [rowA]⟩, rfl⟩
      ·
        refine SeqK.on (q_fieldL _ rfl Fx.fl55_0 rfl rfl) rfl rfl rfl rfl rfl ?_
        refine SeqK.rOn (b_load (r := .a _) rfl Fx.ty4 rfl rfl rfl rfl rfl rfl) rfl rfl rfl ?_
        refine SeqK.q (q_pkF rfl rfl rfl) rfl rfl rfl ?_
        refine SeqK.q (q_nilH rfl rfl) rfl rfl rfl ?_
        refine SeqK.q (q_fieldH _ rfl Fx.fl55_0 rfl rfl) rfl rfl rfl ?_
        refine SeqK.r (g_storeR rfl rfl Fx.ty4 rfl rfl (by (repeat rw [upd_ne _ _ (by first | assumption | exact Ne.symm (by assumption))]); first | assumption | exact upd_same _ _ _) (mid_st hP (Nat.le_of_ble_eq_true rfl)) rfl (by show _ ≤ (P ++ _ ++ rowA (a.ss.drop (i + 1))).length; rw [List.length_append, List.length_append, hP]; show _ ≤ 0 + i * 6 + 6 + _; omega) (by decide)) rfl ?_
        refine SeqK.nil ?_
        refine AW.block ?_
        refine AW.seq ?_
        refine AW.reg ?_
        refine SeqK.q (q_fieldL _ rfl Fx.fl55_1 rfl rfl) rfl rfl rfl ?_
        refine SeqK.r (b_load (r := .a _) rfl Fx.ty4 rfl rfl rfl rfl rfl rfl) rfl ?_
        refine SeqK.q (q_not rfl rfl) rfl rfl rfl ?_
        refine SeqK.q (q_asC rfl rfl) rfl rfl rfl ?_
        refine SeqK.nil ?_
        refine AW.cond _ rfl (fun h84 => ?_) (fun h84 => ?_)
        ·
          simp at h84
          refine AW.skip ?_
          refine AW.reg ?_
          refine SeqK.q (q_add _ rfl rfl rfl (w64 (by omega) (by omega))) rfl rfl rfl ?_
          refine SeqK.q (q_mvC rfl rfl) rfl rfl rfl ?_
          refine SeqK.nil ?_
          exact ⟨i + 1, _, Wk.keep 119 [(4, .lp 4 0), (5, .lp 5 0), (22, .c (.a (.t (.sl .un 6 (b.ss.map sdT))))), (23, iX .i64 ((b.ss.map sdT).length : Nat)), (24, iX .i64 (((i + 1) : Nat) : Int))] [(4, .box [.t (.v (.int .i64 0)), .t (.v (.slice none 0 0))]), (5, .box [.t (.v (.int .i64 a.tb)), .os k19 0 (a.ss.map sdT).length 6])] (upd H k19 (some (.row 55 6 ((P ++ (sdT (hull1 a.ss[i] b.ss[i])).map A.t) ++ rowA (a.ss.drop (i + 1)))))) rfl ⟨rfl, rfl, rfl, rfl, rfl, trivial⟩ ⟨rfl, rfl, trivial⟩ (fun j o h => by
            simp only [upd_upd]
            refine Eq.trans (congrFun (congrArg (upd H k19) (congrArg some (congrArg (AO.row 55 6) ?_))) j) h
            refine congrArg (fun z => z ++ _) (congrArg (fun z => _ ++ z) ?_)
            simp [splice, hull1, C.cells, *]) rfl, by omega, P ++ (sdT (hull1 a.ss[i] b.ss[i])).map A.t, ⟨by omega, by rw [hPe, hull_succ hja hka, rowA_app]; simp [rowA]⟩, rfl⟩
        ·
          simp at h84
          refine AW.seq ?_
          refine AW.reg ?_
          refine SeqK.q (q_mvC rfl rfl) rfl rfl rfl ?_
          refine SeqK.q (q_nilH rfl rfl) rfl rfl rfl ?_
          refine SeqK.q (q_fieldH _ rfl Fx.fl55_1 rfl rfl) rfl rfl rfl ?_
          refine SeqK.r (g_loadR rfl Fx.ty4 rfl (by (repeat rw [upd_ne _ _ (by first | assumption | exact Ne.symm (by assumption))]); first | assumption | exact upd_same _ _ _) (congrArg (mkC _) (mid_ld hP (Nat.le_of_ble_eq_true rfl))) (by show _ ≤ (P ++ _ ++ rowA (a.ss.drop (i + 1))).length; rw [List.length_append, List.length_append, hP]; show _ ≤ 0 + i * 6 + 6 + _; omega) (by decide) rfl rfl) rfl ?_
          refine SeqK.q (q_not rfl rfl) rfl rfl rfl ?_
          refine SeqK.q (q_asC rfl rfl) rfl rfl rfl ?_
          refine SeqK.nil ?_
          refine AW.cond _ rfl (fun h88 => ?_) (fun h88 => ?_)
          ·
            simp at h88
            refine AW.draw Fx.mo ?_
            refine LexK.q (q_mvC rfl rfl) rfl rfl rfl ?_
            refine LexK.q (q_mvC rfl rfl) rfl rfl rfl ?_
            refine LexK.q (q_mvC rfl rfl) rfl rfl rfl ?_
            refine LexK.q (q_mvC rfl rfl) rfl rfl rfl ?_
            refine LexK.q (q_mvC rfl rfl) rfl rfl rfl ?_
            refine LexK.q (q_fieldL _ rfl Fx.fl55_2 rfl rfl) rfl rfl rfl ?_
            refine LexK.r (b_load (r := .a _) rfl Fx.ty2 rfl rfl rfl rfl rfl rfl) rfl ?_
            refine LexK.q (q_fieldL _ rfl Fx.fl55_3 rfl rfl) rfl rfl rfl ?_
            refine LexK.r (b_load (r := .a _) rfl Fx.ty2 rfl rfl rfl rfl rfl rfl) rfl ?_
            refine LexK.q (q_fieldL _ rfl Fx.fl55_4 rfl rfl) rfl rfl rfl ?_
            refine LexK.r (b_load (r := .a _) rfl Fx.ty9 rfl rfl rfl rfl rfl rfl) rfl ?_
            refine LexK.q (q_fieldL _ rfl Fx.fl55_5 rfl rfl) rfl rfl rfl ?_
            refine LexK.r (b_load (r := .a _) rfl Fx.ty9 rfl rfl rfl rfl rfl rfl) rfl ?_
            refine LexK.q (q_nilH rfl rfl) rfl rfl rfl ?_
            refine LexK.q (q_fieldH _ rfl Fx.fl55_1 rfl rfl) rfl rfl rfl ?_
            refine LexK.r (g_storeR rfl rfl Fx.ty4 rfl rfl (by (repeat rw [upd_ne _ _ (by first | assumption | exact Ne.symm (by assumption))]); first | assumption | exact upd_same _ _ _) (mid_st hP (Nat.le_of_ble_eq_true rfl)) rfl (by show _ ≤ (P ++ _ ++ rowA (a.ss.drop (i + 1))).length; rw [List.length_append, List.length_append, hP]; show _ ≤ 0 + i * 6 + 6 + _; omega) (by decide)) rfl ?_
            refine LexK.q (q_nilH rfl rfl) rfl rfl rfl ?_
            refine LexK.q (q_fieldH _ rfl Fx.fl55_2 rfl rfl) rfl rfl rfl ?_
            refine LexK.r (g_storeR rfl rfl Fx.ty2 rfl rfl (by (repeat rw [upd_ne _ _ (by first | assumption | exact Ne.symm (by assumption))]); first | assumption | exact upd_same _ _ _) (mid_st hP (Nat.le_of_ble_eq_true rfl)) rfl (by show _ ≤ (P ++ _ ++ rowA (a.ss.drop (i + 1))).length; rw [List.length_append, List.length_append, hP]; show _ ≤ 0 + i * 6 + 6 + _; omega) (by decide)) rfl ?_
            refine LexK.q (q_nilH rfl rfl) rfl rfl rfl ?_
            refine LexK.q (q_fieldH _ rfl Fx.fl55_3 rfl rfl) rfl rfl rfl ?_
            refine LexK.r (g_storeR rfl rfl Fx.ty2 rfl rfl (by (repeat rw [upd_ne _ _ (by first | assumption | exact Ne.symm (by assumption))]); first | assumption | exact upd_same _ _ _) (mid_st hP (Nat.le_of_ble_eq_true rfl)) rfl (by show _ ≤ (P ++ _ ++ rowA (a.ss.drop (i + 1))).length; rw [List.length_append, List.length_append, hP]; show _ ≤ 0 + i * 6 + 6 + _; omega) (by decide)) rfl ?_
            refine LexK.q (q_nilH rfl rfl) rfl rfl rfl ?_
            refine LexK.q (q_fieldH _ rfl Fx.fl55_4 rfl rfl) rfl rfl rfl ?_
            refine LexK.r (g_storeR rfl rfl Fx.ty9 rfl rfl (by (repeat rw [upd_ne _ _ (by first | assumption | exact Ne.symm (by assumption))]); first | assumption | exact upd_same _ _ _) (mid_st hP (Nat.le_of_ble_eq_true rfl)) rfl (by show _ ≤ (P ++ _ ++ rowA (a.ss.drop (i + 1))).length; rw [List.length_append, List.length_append, hP]; show _ ≤ 0 + i * 6 + 6 + _; omega) (by decide)) rfl ?_
            refine LexK.q (q_nilH rfl rfl) rfl rfl rfl ?_
            refine LexK.q (q_fieldH _ rfl Fx.fl55_5 rfl rfl) rfl rfl rfl ?_
            refine LexK.r (g_storeR rfl rfl Fx.ty9 rfl rfl (by (repeat rw [upd_ne _ _ (by first | assumption | exact Ne.symm (by assumption))]); first | assumption | exact upd_same _ _ _) (mid_st hP (Nat.le_of_ble_eq_true rfl)) rfl (by show _ ≤ (P ++ _ ++ rowA (a.ss.drop (i + 1))).length; rw [List.length_append, List.length_append, hP]; show _ ≤ 0 + i * 6 + 6 + _; omega) (by decide)) rfl ?_
            refine LexK.nil (by kernel_rfl) ?_
            refine AW.reg ?_
            refine SeqK.q (q_add _ rfl rfl rfl (w64 (by omega) (by omega))) rfl rfl rfl ?_
            refine SeqK.q (q_mvC rfl rfl) rfl rfl rfl ?_
            refine SeqK.nil ?_
            exact ⟨i + 1, _, Wk.keep 119 [(4, .lp 4 0), (5, .lp 5 0), (22, .c (.a (.t (.sl .un 6 (b.ss.map sdT))))), (23, iX .i64 ((b.ss.map sdT).length : Nat)), (24, iX .i64 (((i + 1) : Nat) : Int))] [(4, .box [.t (.v (.int .i64 0)), .t (.v (.slice none 0 0))]), (5, .box [.t (.v (.int .i64 a.tb)), .os k19 0 (a.ss.map sdT).length 6])] (upd H k19 (some (.row 55 6 ((P ++ (sdT (hull1 a.ss[i] b.ss[i])).map A.t) ++ rowA (a.ss.drop (i + 1)))))) rfl ⟨rfl, rfl, rfl, rfl, rfl, trivial⟩ ⟨rfl, rfl, trivial⟩ (fun j o h => by
              simp only [upd_upd]
              refine Eq.trans (congrFun (congrArg (upd H k19) (congrArg some (congrArg (AO.row 55 6) ?_))) j) h
              refine congrArg (fun z => z ++ _) (congrArg (fun z => _ ++ z) ?_)
              simp [splice, hull1, C.cells, *]) rfl, by omega, P ++ (sdT (hull1 a.ss[i] b.ss[i])).map A.t, ⟨by omega, by rw [hPe, hull_succ hja hka, rowA_app]; simp [rowA]⟩, rfl⟩
          ·
            simp at h88
            refine AW.draw Fx.mo ?_
            refine LexK.q (q_mvC rfl rfl) rfl rfl rfl ?_
            refine LexK.q (q_mvC rfl rfl) rfl rfl rfl ?_
            refine LexK.q (q_mvC rfl rfl) rfl rfl rfl ?_
            refine LexK.q (q_mvC rfl rfl) rfl rfl rfl ?_
            refine LexK.q (q_mvC rfl rfl) rfl rfl rfl ?_
            refine LexK.q (q_nilH rfl rfl) rfl rfl rfl ?_
            refine LexK.q (q_fieldH _ rfl Fx.fl55_2 rfl rfl) rfl rfl rfl ?_
            refine LexK.r (g_loadR rfl Fx.ty2 rfl (by (repeat rw [upd_ne _ _ (by first | assumption | exact Ne.symm (by assumption))]); first | assumption | exact upd_same _ _ _) (congrArg (mkC _) (mid_ld hP (Nat.le_of_ble_eq_true rfl))) (by show _ ≤ (P ++ _ ++ rowA (a.ss.drop (i + 1))).length; rw [List.length_append, List.length_append, hP]; show _ ≤ 0 + i * 6 + 6 + _; omega) (by decide) rfl rfl) rfl ?_
            refine LexK.q (q_fieldL _ rfl Fx.fl55_2 rfl rfl) rfl rfl rfl ?_
            refine LexK.r (b_load (r := .a _) rfl Fx.ty2 rfl rfl rfl rfl rfl rfl) rfl ?_
            refine LexK.q (q_min rfl rfl rfl) rfl rfl rfl ?_
            refine LexK.q (q_mvC rfl rfl) rfl rfl rfl ?_
            refine LexK.q (q_nilH rfl rfl) rfl rfl rfl ?_
            refine LexK.q (q_fieldH _ rfl Fx.fl55_3 rfl rfl) rfl rfl rfl ?_
            refine LexK.r (g_loadR rfl Fx.ty2 rfl (by (repeat rw [upd_ne _ _ (by first | assumption | exact Ne.symm (by assumption))]); first | assumption | exact upd_same _ _ _) (congrArg (mkC _) (mid_ld hP (Nat.le_of_ble_eq_true rfl))) (by show _ ≤ (P ++ _ ++ rowA (a.ss.drop (i + 1))).length; rw [List.length_append, List.length_append, hP]; show _ ≤ 0 + i * 6 + 6 + _; omega) (by decide) rfl rfl) rfl ?_
            refine LexK.q (q_fieldL _ rfl Fx.fl55_3 rfl rfl) rfl rfl rfl ?_
            refine LexK.r (b_load (r := .a _) rfl Fx.ty2 rfl rfl rfl rfl rfl rfl) rfl ?_
            refine LexK.q (q_max rfl rfl rfl) rfl rfl rfl ?_
            refine LexK.q (q_mvC rfl rfl) rfl rfl rfl ?_
            refine LexK.q (q_nilH rfl rfl) rfl rfl rfl ?_
            refine LexK.q (q_fieldH _ rfl Fx.fl55_4 rfl rfl) rfl rfl rfl ?_
            refine LexK.r (g_loadR rfl Fx.ty9 rfl (by (repeat rw [upd_ne _ _ (by first | assumption | exact Ne.symm (by assumption))]); first | assumption | exact upd_same _ _ _) (congrArg (mkC _) (mid_ld hP (Nat.le_of_ble_eq_true rfl))) (by show _ ≤ (P ++ _ ++ rowA (a.ss.drop (i + 1))).length; rw [List.length_append, List.length_append, hP]; show _ ≤ 0 + i * 6 + 6 + _; omega) (by decide) rfl rfl) rfl ?_
            refine LexK.q (q_fieldL _ rfl Fx.fl55_4 rfl rfl) rfl rfl rfl ?_
            refine LexK.r (b_load (r := .a _) rfl Fx.ty9 rfl rfl rfl rfl rfl rfl) rfl ?_
            refine LexK.q (q_minS rfl rfl rfl) rfl rfl rfl ?_
            refine LexK.q (q_mvC rfl rfl) rfl rfl rfl ?_
            refine LexK.q (q_nilH rfl rfl) rfl rfl rfl ?_
            refine LexK.q (q_fieldH _ rfl Fx.fl55_5 rfl rfl) rfl rfl rfl ?_
            refine LexK.r (g_loadR rfl Fx.ty9 rfl (by (repeat rw [upd_ne _ _ (by first | assumption | exact Ne.symm (by assumption))]); first | assumption | exact upd_same _ _ _) (congrArg (mkC _) (mid_ld hP (Nat.le_of_ble_eq_true rfl))) (by show _ ≤ (P ++ _ ++ rowA (a.ss.drop (i + 1))).length; rw [List.length_append, List.length_append, hP]; show _ ≤ 0 + i * 6 + 6 + _; omega) (by decide) rfl rfl) rfl ?_
            refine LexK.q (q_fieldL _ rfl Fx.fl55_5 rfl rfl) rfl rfl rfl ?_
            refine LexK.r (b_load (r := .a _) rfl Fx.ty9 rfl rfl rfl rfl rfl rfl) rfl ?_
            refine LexK.q (q_maxS rfl rfl rfl) rfl rfl rfl ?_
            refine LexK.q (q_nilH rfl rfl) rfl rfl rfl ?_
            refine LexK.q (q_fieldH _ rfl Fx.fl55_2 rfl rfl) rfl rfl rfl ?_
            refine LexK.r (g_storeR rfl rfl Fx.ty2 rfl rfl (by (repeat rw [upd_ne _ _ (by first | assumption | exact Ne.symm (by assumption))]); first | assumption | exact upd_same _ _ _) (mid_st hP (Nat.le_of_ble_eq_true rfl)) rfl (by show _ ≤ (P ++ _ ++ rowA (a.ss.drop (i + 1))).length; rw [List.length_append, List.length_append, hP]; show _ ≤ 0 + i * 6 + 6 + _; omega) (by decide)) rfl ?_
            refine LexK.q (q_nilH rfl rfl) rfl rfl rfl ?_
            refine LexK.q (q_fieldH _ rfl Fx.fl55_3 rfl rfl) rfl rfl rfl ?_
            refine LexK.r (g_storeR rfl rfl Fx.ty2 rfl rfl (by (repeat rw [upd_ne _ _ (by first | assumption | exact Ne.symm (by assumption))]); first | assumption | exact upd_same _ _ _) (mid_st hP (Nat.le_of_ble_eq_true rfl)) rfl (by show _ ≤ (P ++ _ ++ rowA (a.ss.drop (i + 1))).length; rw [List.length_append, List.length_append, hP]; show _ ≤ 0 + i * 6 + 6 + _; omega) (by decide)) rfl ?_
            refine LexK.q (q_nilH rfl rfl) rfl rfl rfl ?_
            refine LexK.q (q_fieldH _ rfl Fx.fl55_4 rfl rfl) rfl rfl rfl ?_
            refine LexK.r (g_storeR rfl rfl Fx.ty9 rfl rfl (by (repeat rw [upd_ne _ _ (by first | assumption | exact Ne.symm (by assumption))]); first | assumption | exact upd_same _ _ _) (mid_st hP (Nat.le_of_ble_eq_true rfl)) rfl (by show _ ≤ (P ++ _ ++ rowA (a.ss.drop (i + 1))).length; rw [List.length_append, List.length_append, hP]; show _ ≤ 0 + i * 6 + 6 + _; omega) (by decide)) rfl ?_
            refine LexK.q (q_nilH rfl rfl) rfl rfl rfl ?_
            refine LexK.q (q_fieldH _ rfl Fx.fl55_5 rfl rfl) rfl rfl rfl ?_
            refine LexK.r (g_storeR rfl rfl Fx.ty9 rfl rfl (by (repeat rw [upd_ne _ _ (by first | assumption | exact Ne.symm (by assumption))]); first | assumption | exact upd_same _ _ _) (mid_st hP (Nat.le_of_ble_eq_true rfl)) rfl (by show _ ≤ (P ++ _ ++ rowA (a.ss.drop (i + 1))).length; rw [List.length_append, List.length_append, hP]; show _ ≤ 0 + i * 6 + 6 + _; omega) (by decide)) rfl ?_
            refine LexK.nil (by kernel_rfl) ?_
            refine AW.reg ?_
            refine SeqK.q (q_add _ rfl rfl rfl (w64 (by omega) (by omega))) rfl rfl rfl ?_
            refine SeqK.q (q_mvC rfl rfl) rfl rfl rfl ?_
            refine SeqK.nil ?_
            exact ⟨i + 1, _, Wk.keep 119 [(4, .lp 4 0), (5, .lp 5 0), (22, .c (.a (.t (.sl .un 6 (b.ss.map sdT))))), (23, iX .i64 ((b.ss.map sdT).length : Nat)), (24, iX .i64 (((i + 1) : Nat) : Int))] [(4, .box [.t (.v (.int .i64 0)), .t (.v (.slice none 0 0))]), (5, .box [.t (.v (.int .i64 a.tb)), .os k19 0 (a.ss.map sdT).length 6])] (upd H k19 (some (.row 55 6 ((P ++ (sdT (hull1 a.ss[i] b.ss[i])).map A.t) ++ rowA (a.ss.drop (i + 1)))))) rfl ⟨rfl, rfl, rfl, rfl, rfl, trivial⟩ ⟨rfl, rfl, trivial⟩ (fun j o h => by
              simp only [upd_upd]
              refine Eq.trans (congrFun (congrArg (upd H k19) (congrArg some (congrArg (AO.row 55 6) ?_))) j) h
              refine congrArg (fun z => z ++ _) (congrArg (fun z => _ ++ z) ?_)
              simp [splice, hull1, C.cells, *]) rfl, by omega, P ++ (sdT (hull1 a.ss[i] b.ss[i])).map A.t, ⟨by omega, by rw [hPe, hull_succ hja hka, rowA_app]; simp [rowA]⟩, rfl⟩
    ·
      refine AW.exit ?_
      refine eth_e ?_
      refine eth_e ?_
      refine exit_here ?_
      refine AW.seq ?_
      refine AW.reg ?_
      refine SeqK.r (b_load (r := .g [_, _]) rfl Fx.ty40 rfl rfl rfl rfl rfl rfl) rfl ?_
      refine SeqK.r (b_store (r := [_, _]) rfl rfl Fx.ty40 rfl rfl rfl rfl rfl rfl) rfl ?_
      refine SeqK.nil ?_
      refine AW.ret ?_
      have hil : i = b.ss.length := by simp at h25; omega
      subst hil
      exact fin_x (x := .c _) (_) (.cellL rfl rfl Fx.ty40 rfl rfl .nil) rfl (fun _ _ h => h) (⟨k19, hk19, by simp [hull, hab, mkC], by rw [hPe, List.take_of_length_le (by simp; omega), List.drop_eq_nil_of_le (by omega)]; simp [rowA, hull]⟩)

theorem hull_any (a b : Bx) (ha : a.ss.length ≤ 1000000) (hab : a.ss.length = b.ss.length) (h0 : a.ss.length ≠ 0) : Pure Try.prog 22 [bxC .un a, bxC .un b] (.c (bxC .un (hull a b))) := fun H =>
  (hull_row a b ha hab h0 H).freeze fun x H' ⟨k, h1, h2, h3⟩ => by
    subst h2 h3
    refine ⟨k, 6, 55, (hull a b).ss.map sdT, upd_same _ _ _, by simp, by omega, ?_, upd_back h1⟩
    simp [fzX, fzC, fzA, hull, bxC, Nat.beq_refl]
end Go.Proofs.Ytojkjiakkcgfcaa.W
