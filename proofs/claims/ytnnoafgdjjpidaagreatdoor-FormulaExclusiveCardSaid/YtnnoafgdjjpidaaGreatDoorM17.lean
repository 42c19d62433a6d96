import Derived.Test.YtnnoafgdjjpidaaGreatDoorM16
set_option maxRecDepth 20000
set_option maxHeartbeats 8000000
set_option linter.unusedSectionVars false
set_option linter.unusedSimpArgs false
set_option linter.unusedVariables false
namespace Go.Proofs.YtnnoafgdjjpidaaGreatDoor.W
open Go.RowKit E M
theorem vld_p {t : Tm} (h : vldT t = true) {i : Nat} (hi : i < t.ps.length) : finP t.ps[i] ∧ t.ps[i].coef.natAbs ≤ 2 ^ 20 := ⟨vldP_fin' (vld_parts h _ (List.getElem_mem hi)), (vld_coef h).2 _ (List.getElem_mem hi)⟩
theorem map_put {zs : List (List E.T)} {out : List Pt} {p : Pt} (h : zs = out.map ptT) : zs ++ [ptT p] = (out ++ [p]).map ptT := by rw [h]; simp
theorem add_any (a b : Tm) (ha : vldT a = true) (hb : vldT b = true) (hN : a.cnt + b.cnt ≤ 100000) : Pure Tryz.prog 140 [tmC a, tmC b] (trC (add a b)) := by
 intro H
 refine Spec.enter Tryz.func140 rfl ?_
 refine AW.wk (Wk.keep 97 [(0, .c (tmC a)), (1, .c (tmC b))] [] (H) rfl ⟨rfl, rfl, trivial⟩ trivial (fun _ _ h => h) rfl) ?_
 refine sR (Z20 (r := [_, _]) ?_)
 refine Z20 (r := [_, _]) ?_
 refine Z16 (r := [_, _]) Fx.ze32 ?_
 refine sB ?_
 refine AW.seq ?_
 have hla := len_ps a
 have hlb := len_ps b
 have hca := vld_coef ha
 have hcb := vld_coef hb
 refine AW.reg (Z1 Fx.fl32_0 ?_)
 refine Z0 Fx.ty2 ?_
 refine Z1 Fx.fl32_0 ?_
 refine Z0 Fx.ty2 ?_
 refine Z13 ?_
 refine Z11 (zs := [_, _]) (r := [_, _]) [(0, 1), (1, 1)] Fx.ze32 Fx.bp32 ?_
 refine Z16 (r := [_, _]) Fx.ze32 ?_
 refine Z2 (r := [_, _]) Fx.ty32 ?_
 refine Z7 (AW.seq (sR (sA ?_)))
 refine sB ?_
 refine AW.block ?_
 refine AW.tipL 6 1 89 5 rfl rfl (fun k0 hk0 => ?_)
 refine AW.loop (fun (c : Nat) s => ∃ (kt : Nat) (i j : Nat) (out : List Pt) (zs : List (List E.T)), (i ≤ a.ps.length ∧ j ≤ b.ps.length ∧ c = (a.ps.length - i) + (b.ps.length - j) ∧ H kt = none ∧ out.length ≤ i + j ∧ zs = out.map ptT ∧ out ++ mrg (a.ps.drop i) (b.ps.drop j) = mrg a.ps b.ps) ∧ s = ⟨97, sp [(2, .lp 2 0), (3, .lp 3 0), (4, .lp 4 0), (5, .c (iC 0)), (6, .lp 6 0), (7, iX .i64 ((i : Nat) : Int)), (8, iX .i64 ((j : Nat) : Int))], lv [(2, .box (zTm a)), (3, .box (zTm b)), (4, .box [.t (.v (.int .i64 0)), .t (.v (.slice none 0 0))]), (6, .box [.t (.v (.int .i64 (a.c + b.c))), .ts kt .ne 5 zs])], upd H kt (some (.tip 89 5 zs.length))⟩) (fun c => c) ((a.ps.length - 0) + (b.ps.length - 0)) ⟨_, by exact Wk.keep 97 _ _ _ rfl ⟨rfl, rfl, rfl, rfl, rfl, rfl, rfl, trivial⟩ ⟨rfl, rfl, rfl, rfl, trivial⟩ (fun _ _ h => h) rfl, k0, 0, 0, [], [], ⟨Nat.zero_le _, Nat.zero_le _, rfl, hk0, by simp, rfl, rfl⟩, rfl⟩ (fun c s hs => ?_)
 obtain ⟨kt, i, j, out, zs, ⟨hi0, hj0, hc, hkt, hol, hzs, hI⟩, rfl⟩ := hs
 refine AW.seq (sR (sM ?_))
 refine Z1 Fx.fl32_1 ?_
 refine Z0 Fx.ty30 ?_
 refine Z22 Fx.un30 ?_
 refine Z30 ?_
 refine Z17 ?_ ?_ <;> intro g25
 rotate_left
 ·
  refine Z14 ?_
  refine Z5 Fx.fl32_1 ?_
  refine Z3 Fx.ty30 ?_
  refine Z50 Fx.un30 ?_
  refine SeqK.on (q_lss rfl rfl rfl) rfl rfl rfl rfl rfl ?_
  refine Z4 ?_
  refine Z7 ?_
  refine cD ?_ ?_ <;> intro h31
  rotate_left
  ·
   refine AW.exit ?_
   refine eth_e ?_
   refine eth_e ?_
   refine exit_here ?_
   refine AW.seq ?_
   have hij : i = a.ps.length ∧ j = b.ps.length := by rw [List.length_map] at g25 h31; omega
   obtain ⟨rfl, rfl⟩ := hij
   rw [List.drop_length, List.drop_length, mrg, List.append_nil] at hI
   subst hI
   subst hzs
   refine AW.reg (Z10 (r := .g [_, _]) Fx.ty32 ?_)
   refine Z47 90 (XW.tmA XW.ts) ?_
   refine Z47 90 (XW.tmA XW.un) ?_
   refine SeqK.q (q_call _ rfl Fx.fn166 rfl (checked_any (sumT a b) (sum_bok ha hb).1 (by have := sum_cnt a b; omega)) rfl) rfl rfl rfl ?_
   refine Z39 ?_
   refine Z6 ?_
   refine Z6 ?_
   refine Z16 (r := [_, _]) Fx.ze32 ?_
   refine Z2 (r := [_, _]) Fx.ty32 ?_
   refine sB ?_
   refine sR (Z10 (r := .g [_, _]) Fx.ty32 ?_)
   refine SeqK.q (q_call _ rfl Fx.fn165 rfl (clone_any _ (lim_one (sum_bok ha hb).2) (lim_cnt (by have := sum_cnt a b; omega))) rfl) rfl rfl rfl ?_
   refine sM ?_
   refine Z2 (r := [_, _]) Fx.ty32 ?_
   refine sB ?_
   exact aR (fin_x (x := .tup [_, _]) (H) (.cellL rfl rfl Fx.ty32 rfl rfl (.tmp rfl .nil)) rfl (fun j o h => by show upd H kt _ j = _; rw [upd_ne _ _ (fun e => by subst e; rw [hkt] at h; cases h)]; exact h) (⟨rfl, rfl⟩))
  have hi2 : i = a.ps.length := by rw [List.length_map] at g25; omega
  have hj : j < b.ps.length := by rw [List.length_map] at h31; omega
  have hpj := vld_p hb hj
  refine AW.skip (AW.block (sR (sB ?_)))
  refine AW.seq (AW.block (sR (sM ?_)))
  refine Z1 Fx.fl32_1 ?_
  refine Z0 Fx.ty30 ?_
  refine Z22 Fx.un30 ?_
  refine Z9 ?_
  refine sB ?_
  refine cD ?_ ?_ <;> intro h43
  rotate_left
  ·
   exact absurd (by rw [List.length_map]; omega) h43
  refine AW.reg (sB ?_)
  refine sR (Z16 (r := [_, _, _, _, _]) Fx.ze89 ?_)
  refine Z7 (AW.seq (sR (sM ?_)))
  refine SeqK.q (q_leq rfl rfl rfl) rfl rfl rfl ?_
  refine Z7 ?_
  refine cD ?_ ?_ <;> intro h56
  ·
   exact absurd h56 (by omega)
  refine AW.skip (AW.seq (sR (sM ?_)))
  refine SeqK.q (q_geq rfl rfl rfl) rfl rfl rfl ?_
  refine Z7 ?_
  refine cD ?_ ?_ <;> intro h65
  rotate_left
  ·
   exact absurd (by omega) h65
  refine sR (Z1 Fx.fl89_0 ?_)
  refine Z0 Fx.ty2 ?_
  refine sB ?_
  refine sR (Z1 Fx.fl32_1 ?_)
  refine Z0 Fx.ty30 ?_
  refine sM ?_
  refine Z24 Fx.sl30 (idx_map (f := ptT) hj) ?_
  refine Z28 (.g [_, _, _, _, _]) Fx.ty89 ?_
  refine Z2 (r := [_, _, _, _, _]) Fx.ty89 ?_
  refine Z7 (sR (Z1 Fx.fl89_0 ?_))
  refine Z0 Fx.ty2 ?_
  refine sM ?_
  refine SeqK.q (q_add _ rfl rfl rfl ((by rw [w64 (by omega) (by omega)]; omega : IntKind.i64.wrap _ = b.ps[j].coef))) rfl rfl rfl ?_
  refine Z1 Fx.fl89_0 ?_
  refine Z2 (r := [_, _, _, _, _]) Fx.ty2 ?_
  refine Z7 (AW.reg (sM ?_))
  refine Z13 ?_
  refine sB ?_
  refine sR (Z1 Fx.fl89_0 ?_)
  refine Z0 Fx.ty2 ?_
  refine Z26 ?_
  refine Z7 ?_
  refine cD ?_ ?_ <;> intro h82
  ·
   refine AW.reg (Z1 Fx.fl32_1 ?_)
   refine Z0 Fx.ty30 ?_
   refine Z10 (r := .g [_, _, _, _, _]) Fx.ty89 ?_
   refine Z27 Fx.el30 ?_
   refine SeqK.app1 rfl (hkt) rfl Fx.el30 rfl rfl (by have hzl : zs.length = out.length := (by rw [hzs, List.length_map]); constructor <;> (simp; omega)) rfl rfl (fun k87 hk87 => ?_)
   refine Z1 Fx.fl32_1 ?_
   refine Z2 (r := [_, _]) Fx.ty30 ?_
   refine Z7 ?_
   exact ⟨((a.ps.length - (i)) + (b.ps.length - (j + 1))), _, by exact Wk.keep 97 _ _ _ rfl ⟨rfl, rfl, rfl, rfl, rfl, rfl, rfl, trivial⟩ ⟨rfl, rfl, rfl, rfl, trivial⟩ (fun _ _ h => h) rfl, by omega, k87, i, j + 1, out ++ [b.ps[j]], zs ++ [ptT (b.ps[j])], ⟨by omega, by omega, rfl, hk87, by simp; omega, map_put hzs, put_nz (mrg_r hi2 hj) hI h82⟩, rfl⟩
  refine AW.skip ?_
  exact ⟨((a.ps.length - (i)) + (b.ps.length - (j + 1))), _, by exact Wk.keep 97 _ _ _ rfl ⟨rfl, rfl, rfl, rfl, rfl, rfl, rfl, trivial⟩ ⟨rfl, rfl, rfl, rfl, trivial⟩ (fun _ _ h => h) rfl, by omega, kt, i, j + 1, out, zs, ⟨by omega, by omega, rfl, hkt, by omega, hzs, put_z (mrg_r hi2 hj) hI h82⟩, rfl⟩
 have hi : i < a.ps.length := by rw [List.length_map] at g25; omega
 have hpi := vld_p ha hi
 iterate 5 refine oF ?_
 refine Z8 ?_
 refine Z7 (AW.condT rfl ?_)
 refine AW.skip (AW.block (sR (sB ?_)))
 refine AW.seq (AW.block (sR (sM ?_)))
 refine Z1 Fx.fl32_1 ?_
 refine Z0 Fx.ty30 ?_
 refine Z22 Fx.un30 ?_
 refine Z9 ?_
 refine sB ?_
 refine cD ?_ ?_ <;> intro h43
 ·
  exact absurd h43 (by rw [List.length_map]; omega)
 refine sR (sM ?_)
 refine Z1 Fx.fl32_1 ?_
 refine Z0 Fx.ty30 ?_
 refine Z22 Fx.un30 ?_
 refine Z9 ?_
 refine sB ?_
 refine cD ?_ ?_ <;> intro h49
 ·
  refine AW.reg (sB ?_)
  refine sR (Z16 (r := [_, _, _, _, _]) Fx.ze89 ?_)
  refine Z7 (AW.seq (sR (sM ?_)))
  refine SeqK.q (q_leq rfl rfl rfl) rfl rfl rfl ?_
  refine Z7 ?_
  refine cD ?_ ?_ <;> intro h56
  rotate_left
  ·
   exact absurd (by omega) h56
  refine sR (Z1 Fx.fl32_1 ?_)
  refine Z0 Fx.ty30 ?_
  refine sM ?_
  refine Z24 Fx.sl30 (idx_map (f := ptT) hi) ?_
  refine Z28 (.g [_, _, _, _, _]) Fx.ty89 ?_
  refine Z2 (r := [_, _, _, _, _]) Fx.ty89 ?_
  refine Z7 (AW.reg (sM ?_))
  refine Z13 ?_
  refine sB ?_
  refine AW.seq (sR (sM ?_))
  refine SeqK.q (q_geq rfl rfl rfl) rfl rfl rfl ?_
  refine Z7 ?_
  refine cD ?_ ?_ <;> intro h65
  ·
   exact absurd h65 (by omega)
  refine AW.skip (sR (Z1 Fx.fl89_0 ?_))
  refine Z0 Fx.ty2 ?_
  refine Z26 ?_
  refine Z7 ?_
  refine cD ?_ ?_ <;> intro h82
  ·
   refine AW.reg (Z1 Fx.fl32_1 ?_)
   refine Z0 Fx.ty30 ?_
   refine Z10 (r := .g [_, _, _, _, _]) Fx.ty89 ?_
   refine Z27 Fx.el30 ?_
   refine SeqK.app1 rfl (hkt) rfl Fx.el30 rfl rfl (by have hzl : zs.length = out.length := (by rw [hzs, List.length_map]); constructor <;> (simp; omega)) rfl rfl (fun k87 hk87 => ?_)
   refine Z1 Fx.fl32_1 ?_
   refine Z2 (r := [_, _]) Fx.ty30 ?_
   refine Z7 ?_
   exact ⟨((a.ps.length - (i + 1)) + (b.ps.length - (j))), _, by exact Wk.keep 97 _ _ _ rfl ⟨rfl, rfl, rfl, rfl, rfl, rfl, rfl, trivial⟩ ⟨rfl, rfl, rfl, rfl, trivial⟩ (fun _ _ h => h) rfl, by omega, k87, i + 1, j, out ++ [a.ps[i]], zs ++ [ptT (a.ps[i])], ⟨by omega, by omega, rfl, hk87, by simp; omega, map_put hzs, put_nz (mrg_l hi (by rw [List.length_map] at h49; omega)) hI h82⟩, rfl⟩
  refine AW.skip ?_
  exact ⟨((a.ps.length - (i + 1)) + (b.ps.length - (j))), _, by exact Wk.keep 97 _ _ _ rfl ⟨rfl, rfl, rfl, rfl, rfl, rfl, rfl, trivial⟩ ⟨rfl, rfl, rfl, rfl, trivial⟩ (fun _ _ h => h) rfl, by omega, kt, i + 1, j, out, zs, ⟨by omega, by omega, rfl, hkt, by omega, hzs, put_z (mrg_l hi (by rw [List.length_map] at h49; omega)) hI h82⟩, rfl⟩
 have hj : j < b.ps.length := by rw [List.length_map] at h49; omega
 have hpj := vld_p hb hj
 refine AW.draw Fx.mo ?_
 refine Z23 Fx.fl32_1 ?_
 refine Z18 Fx.ty30 ?_
 refine Z44 ?_
 refine Z29 Fx.sl30 (idx_map (f := ptT) hi) ?_
 refine Z32 (.g [_, _, _, _, _]) Fx.ty89 ?_
 refine Z23 Fx.fl32_1 ?_
 refine Z18 Fx.ty30 ?_
 refine Z44 ?_
 refine Z29 Fx.sl30 (idx_map (f := ptT) hj) ?_
 refine Z32 (.g [_, _, _, _, _]) Fx.ty89 ?_
 refine LexK.q (q_call _ rfl Fx.fn74 rfl (cmpPart_any _ _ hpi.1 hpj.1 (by have := cnt_p (List.getElem_mem hi); omega)) rfl) rfl rfl rfl ?_
 refine Z52 ?_
 refine Z48 ?_
 refine sR (Z16 (r := [_, _, _, _, _]) Fx.ze89 ?_)
 refine Z7 (AW.seq (sR (sM ?_)))
 refine SeqK.q (q_leq rfl rfl rfl) rfl rfl rfl ?_
 refine Z7 ?_
 refine cD ?_ ?_ <;> intro h56
 rotate_left
 ·
  refine AW.skip (AW.seq (sR (sM ?_)))
  refine SeqK.q (q_geq rfl rfl rfl) rfl rfl rfl ?_
  refine Z7 ?_
  refine cD ?_ ?_ <;> intro h65
  rotate_left
  ·
   exact absurd (by omega) h65
  refine sR (Z1 Fx.fl89_0 ?_)
  refine Z0 Fx.ty2 ?_
  refine sB ?_
  refine sR (Z1 Fx.fl32_1 ?_)
  refine Z0 Fx.ty30 ?_
  refine sM ?_
  refine Z24 Fx.sl30 (idx_map (f := ptT) hj) ?_
  refine Z28 (.g [_, _, _, _, _]) Fx.ty89 ?_
  refine Z2 (r := [_, _, _, _, _]) Fx.ty89 ?_
  refine Z7 (sR (Z1 Fx.fl89_0 ?_))
  refine Z0 Fx.ty2 ?_
  refine sM ?_
  refine SeqK.q (q_add _ rfl rfl rfl ((by rw [w64 (by omega) (by omega)]; omega : IntKind.i64.wrap _ = b.ps[j].coef))) rfl rfl rfl ?_
  refine Z1 Fx.fl89_0 ?_
  refine Z2 (r := [_, _, _, _, _]) Fx.ty2 ?_
  refine Z7 (AW.reg (sM ?_))
  refine Z13 ?_
  refine sB ?_
  refine sR (Z1 Fx.fl89_0 ?_)
  refine Z0 Fx.ty2 ?_
  refine Z26 ?_
  refine Z7 ?_
  refine cD ?_ ?_ <;> intro h82
  ·
   refine AW.reg (Z1 Fx.fl32_1 ?_)
   refine Z0 Fx.ty30 ?_
   refine Z10 (r := .g [_, _, _, _, _]) Fx.ty89 ?_
   refine Z27 Fx.el30 ?_
   refine SeqK.app1 rfl (hkt) rfl Fx.el30 rfl rfl (by have hzl : zs.length = out.length := (by rw [hzs, List.length_map]); constructor <;> (simp; omega)) rfl rfl (fun k87 hk87 => ?_)
   refine Z1 Fx.fl32_1 ?_
   refine Z2 (r := [_, _]) Fx.ty30 ?_
   refine Z7 ?_
   exact ⟨((a.ps.length - (i)) + (b.ps.length - (j + 1))), _, by exact Wk.keep 97 _ _ _ rfl ⟨rfl, rfl, rfl, rfl, rfl, rfl, rfl, trivial⟩ ⟨rfl, rfl, rfl, rfl, trivial⟩ (fun _ _ h => h) rfl, by omega, k87, i, j + 1, out ++ [b.ps[j]], zs ++ [ptT (b.ps[j])], ⟨by omega, by omega, rfl, hk87, by simp; omega, map_put hzs, put_nz (mrg_gt hi hj (by omega)) hI h82⟩, rfl⟩
  refine AW.skip ?_
  exact ⟨((a.ps.length - (i)) + (b.ps.length - (j + 1))), _, by exact Wk.keep 97 _ _ _ rfl ⟨rfl, rfl, rfl, rfl, rfl, rfl, rfl, trivial⟩ ⟨rfl, rfl, rfl, rfl, trivial⟩ (fun _ _ h => h) rfl, by omega, kt, i, j + 1, out, zs, ⟨by omega, by omega, rfl, hkt, by omega, hzs, put_z (mrg_gt hi hj (by omega)) hI h82⟩, rfl⟩
 refine sR (Z1 Fx.fl32_1 ?_)
 refine Z0 Fx.ty30 ?_
 refine sM ?_
 refine Z24 Fx.sl30 (idx_map (f := ptT) hi) ?_
 refine Z28 (.g [_, _, _, _, _]) Fx.ty89 ?_
 refine Z2 (r := [_, _, _, _, _]) Fx.ty89 ?_
 refine Z7 (AW.reg (sM ?_))
 refine Z13 ?_
 refine sB ?_
 refine AW.seq (sR (sM ?_))
 refine SeqK.q (q_geq rfl rfl rfl) rfl rfl rfl ?_
 refine Z7 ?_
 refine cD ?_ ?_ <;> intro h65
 rotate_left
 ·
  refine AW.skip (sR (Z1 Fx.fl89_0 ?_))
  refine Z0 Fx.ty2 ?_
  refine Z26 ?_
  refine Z7 ?_
  refine cD ?_ ?_ <;> intro h82
  ·
   refine AW.reg (Z1 Fx.fl32_1 ?_)
   refine Z0 Fx.ty30 ?_
   refine Z10 (r := .g [_, _, _, _, _]) Fx.ty89 ?_
   refine Z27 Fx.el30 ?_
   refine SeqK.app1 rfl (hkt) rfl Fx.el30 rfl rfl (by have hzl : zs.length = out.length := (by rw [hzs, List.length_map]); constructor <;> (simp; omega)) rfl rfl (fun k87 hk87 => ?_)
   refine Z1 Fx.fl32_1 ?_
   refine Z2 (r := [_, _]) Fx.ty30 ?_
   refine Z7 ?_
   exact ⟨((a.ps.length - (i + 1)) + (b.ps.length - (j))), _, by exact Wk.keep 97 _ _ _ rfl ⟨rfl, rfl, rfl, rfl, rfl, rfl, rfl, trivial⟩ ⟨rfl, rfl, rfl, rfl, trivial⟩ (fun _ _ h => h) rfl, by omega, k87, i + 1, j, out ++ [a.ps[i]], zs ++ [ptT (a.ps[i])], ⟨by omega, by omega, rfl, hk87, by simp; omega, map_put hzs, put_nz (mrg_lt hi hj (by omega)) hI h82⟩, rfl⟩
  refine AW.skip ?_
  exact ⟨((a.ps.length - (i + 1)) + (b.ps.length - (j))), _, by exact Wk.keep 97 _ _ _ rfl ⟨rfl, rfl, rfl, rfl, rfl, rfl, rfl, trivial⟩ ⟨rfl, rfl, rfl, rfl, trivial⟩ (fun _ _ h => h) rfl, by omega, kt, i + 1, j, out, zs, ⟨by omega, by omega, rfl, hkt, by omega, hzs, put_z (mrg_lt hi hj (by omega)) hI h82⟩, rfl⟩
 refine sR (Z1 Fx.fl89_0 ?_)
 refine Z0 Fx.ty2 ?_
 refine sB ?_
 refine sR (Z1 Fx.fl32_1 ?_)
 refine Z0 Fx.ty30 ?_
 refine sM ?_
 refine Z24 Fx.sl30 (idx_map (f := ptT) hj) ?_
 refine Z28 (.g [_, _, _, _, _]) Fx.ty89 ?_
 refine Z2 (r := [_, _, _, _, _]) Fx.ty89 ?_
 refine Z7 (sR (Z1 Fx.fl89_0 ?_))
 refine Z0 Fx.ty2 ?_
 refine sM ?_
 refine Z13 ?_
 refine Z1 Fx.fl89_0 ?_
 refine Z2 (r := [_, _, _, _, _]) Fx.ty2 ?_
 refine Z7 (AW.reg (sM ?_))
 refine Z13 ?_
 refine sB ?_
 refine sR (Z1 Fx.fl89_0 ?_)
 refine Z0 Fx.ty2 ?_
 refine Z26 ?_
 refine Z7 ?_
 refine cD ?_ ?_ <;> intro h82
 ·
  refine AW.reg (Z1 Fx.fl32_1 ?_)
  refine Z0 Fx.ty30 ?_
  refine Z10 (r := .g [_, _, _, _, _]) Fx.ty89 ?_
  refine Z27 Fx.el30 ?_
  refine SeqK.app1 rfl (hkt) rfl Fx.el30 rfl rfl (by have hzl : zs.length = out.length := (by rw [hzs, List.length_map]); constructor <;> (simp; omega)) rfl rfl (fun k87 hk87 => ?_)
  refine Z1 Fx.fl32_1 ?_
  refine Z2 (r := [_, _]) Fx.ty30 ?_
  refine Z7 ?_
  exact ⟨((a.ps.length - (i + 1)) + (b.ps.length - (j + 1))), _, by exact Wk.keep 97 _ _ _ rfl ⟨rfl, rfl, rfl, rfl, rfl, rfl, rfl, trivial⟩ ⟨rfl, rfl, rfl, rfl, trivial⟩ (fun _ _ h => h) rfl, by omega, k87, i + 1, j + 1, out ++ [addP a.ps[i] b.ps[j]], zs ++ [ptT (addP a.ps[i] b.ps[j])], ⟨by omega, by omega, rfl, hk87, by simp; omega, map_put hzs, put_nz (mrg_eq hi hj (by omega)) hI h82⟩, rfl⟩
 refine AW.skip ?_
 exact ⟨((a.ps.length - (i + 1)) + (b.ps.length - (j + 1))), _, by exact Wk.keep 97 _ _ _ rfl ⟨rfl, rfl, rfl, rfl, rfl, rfl, rfl, trivial⟩ ⟨rfl, rfl, rfl, rfl, trivial⟩ (fun _ _ h => h) rfl, by omega, kt, i + 1, j + 1, out, zs, ⟨by omega, by omega, rfl, hkt, by omega, hzs, put_z (mrg_eq hi hj (by omega)) hI h82⟩, rfl⟩
inductive Ex where
  | mk (op : Int) (tb nm : ByteArray) (ix vk vn : Int) (vs : ByteArray) (args : List Ex)
@[reducible] def Ex.op : Ex → Int | .mk a _ _ _ _ _ _ _ => a
@[reducible] def Ex.tb : Ex → ByteArray | .mk _ a _ _ _ _ _ _ => a
@[reducible] def Ex.nm : Ex → ByteArray | .mk _ _ a _ _ _ _ _ => a
@[reducible] def Ex.ix : Ex → Int | .mk _ _ _ a _ _ _ _ => a
@[reducible] def Ex.vk : Ex → Int | .mk _ _ _ _ a _ _ _ => a
@[reducible] def Ex.vn : Ex → Int | .mk _ _ _ _ _ a _ _ => a
@[reducible] def Ex.vs : Ex → ByteArray | .mk _ _ _ _ _ _ a _ => a
@[reducible] def Ex.args : Ex → List Ex | .mk _ _ _ _ _ _ _ a => a
mutual
def exT' : Ex → List E.T
  | .mk op tb nm ix vk vn vs args => [.v (.int .i64 op), .v (.string tb), .v (.string nm), .v (.int .i64 ix), .v (.int .i64 vk), .v (.int .i64 vn), .v (.string vs), .sl .un 8 (exTs args)]
def exTs : List Ex → List (List E.T)
  | [] => []
  | e :: r => exT' e :: exTs r
end
theorem exTs_map : ∀ l, exTs l = l.map exT'
  | [] => rfl
  | t :: r => by rw [exTs, exTs_map r, List.map_cons]
abbrev exL (e : Ex) : List E.T := [.v (.int .i64 e.op), .v (.string e.tb), .v (.string e.nm), .v (.int .i64 e.ix), .v (.int .i64 e.vk), .v (.int .i64 e.vn), .v (.string e.vs), .sl .un 8 (e.args.map exT')]
theorem exT_eq (e : Ex) : exT' e = exL e := by cases e; rw [exT', exTs_map]
abbrev exC (e : Ex) : C := .g [.t (.v (.int .i64 e.op)), .t (.v (.string e.tb)), .t (.v (.string e.nm)), .t (.v (.int .i64 e.ix)), .t (.v (.int .i64 e.vk)), .t (.v (.int .i64 e.vn)), .t (.v (.string e.vs)), .t (.sl .un 8 (e.args.map exT'))]
theorem idx_ex {l : List Ex} {i : Nat} (h : i < l.length) : (l.map exT')[i]? = some (exL l[i]) := by rw [List.getElem?_map, List.getElem?_eq_getElem h, Option.map_some, exT_eq]
def comb (op : Int) (a b : Tm) : Tm × Int :=
  if op = 4 then add a b
  else if op = 5 then (if (scale b (-1)).2 ≠ 0 then (tm0, (scale b (-1)).2) else add a (scale b (-1)).1)
  else if op = 6 then (if a.ps.length = 0 then scale b a.c else if b.ps.length = 0 then scale a b.c else (tm0, 7))
  else if 0 < b.ps.length ∨ b.c < 1 ∨ b.c > 1000 then (tm0, 7)
  else if (div a b.c).2 ≠ 0 ∨ op = 7 then div a b.c
  else if (scale (div a b.c).1 (-b.c)).2 ≠ 0 then (tm0, (scale (div a b.c).1 (-b.c)).2)
  else add a (scale (div a b.c).1 (-b.c)).1
def opsR : List (Tm × Int) → Tm × Int
  | [] => (tm0, 6)
  | r :: l => if r.2 ≠ 0 then (tm0, r.2) else opsR l
def lenE (a : Ex) (rs : List (Tm × Int)) : Tm × Int :=
  if 0 < a.args.length then opsR rs
  else if a.op = 1 ∧ a.vk = 2 then lim ⟨(a.vs.size : Int), []⟩
  else if a.op = 2 ∧ 0 ≤ a.ix then lim ⟨0, [⟨1, 1, a.ix, 0, []⟩]⟩
  else opsR rs
def lenL (rs : List (Tm × Int)) : List Ex → Tm × Int
  | [a] => lenE a rs
  | _ => opsR rs
def leafE (op ix vk vn : Int) (args : List Ex) (rs : List (Tm × Int)) : Tm × Int :=
  if op = 9 then lenL rs args
  else if 0 < args.length then opsR rs
  else if op = 1 ∧ vk = 1 then lim ⟨vn, []⟩
  else if op = 2 ∧ 0 ≤ ix then lim ⟨0, [⟨1, 0, ix, 0, []⟩]⟩
  else (tm0, 6)
def unR : List (Tm × Int) → Tm × Int
  | [r] => if r.2 ≠ 0 then (tm0, r.2) else scale r.1 (-1)
  | rs => opsR rs
def binR (op : Int) : List (Tm × Int) → Tm × Int
  | [r, q] => if r.2 ≠ 0 then (tm0, r.2) else if q.2 ≠ 0 then (tm0, q.2) else comb op r.1 q.1
  | rs => opsR rs
def stepE (op ix vk vn : Int) (args : List Ex) (rs : List (Tm × Int)) : Tm × Int :=
  if op = 1 ∨ op = 2 ∨ op = 9 then leafE op ix vk vn args rs
  else if op = 3 then unR rs
  else if op = 4 ∨ op = 5 ∨ op = 6 ∨ op = 7 ∨ op = 8 then binR op rs
  else opsR rs
theorem unR_ne {rs : List (Tm × Int)} (h : rs.length ≠ 1) : unR rs = opsR rs := by
  match rs, h with
  | [], _ => rfl
  | [r], h => simp at h
  | _ :: _ :: _, _ => rfl
theorem unR_one {rs : List (Tm × Int)} (h0 : 0 < rs.length) (h : rs.length = 1) : unR rs = if rs[0].2 ≠ 0 then (tm0, rs[0].2) else scale rs[0].1 (-1) := by
  match rs, h with
  | [r], _ => rfl
theorem binR_ne {op : Int} {rs : List (Tm × Int)} (h : rs.length ≠ 2) : binR op rs = opsR rs := by
  match rs, h with
  | [], _ => rfl
  | [r], _ => rfl
  | [r, q], h => simp at h
  | _ :: _ :: _ :: _, _ => rfl
theorem binR_two {op : Int} {rs : List (Tm × Int)} (h0 : 0 < rs.length) (h1 : 1 < rs.length) (h : rs.length = 2) : binR op rs = if rs[0].2 ≠ 0 then (tm0, rs[0].2) else if rs[1].2 ≠ 0 then (tm0, rs[1].2) else comb op rs[0].1 rs[1].1 := by
  match rs, h with
  | [r, q], _ => rfl
theorem leaf9_ne {ix vk vn : Int} {args : List Ex} {rs : List (Tm × Int)} {op : Int} (ho : op = 9) (h : args.length ≠ 1) : leafE op ix vk vn args rs = opsR rs := by
  unfold leafE
  rw [if_pos ho]
  match args, h with
  | [], _ => rfl
  | [r], h => simp at h
  | _ :: _ :: _, _ => rfl
theorem leaf9_one {ix vk vn : Int} {args : List Ex} {rs : List (Tm × Int)} {op : Int} (ho : op = 9) (h0 : 0 < args.length) (h : args.length = 1) : leafE op ix vk vn args rs = lenE args[0] rs := by
  unfold leafE
  rw [if_pos ho]
  match args, h with
  | [r], _ => rfl
mutual
def ofE : Ex → Tm × Int
  | .mk op _ _ ix vk vn _ args => stepE op ix vk vn args (resE args)
def resE : List Ex → List (Tm × Int)
  | [] => []
  | a :: r => ofE a :: resE r
end
theorem resE_map : ∀ l, resE l = l.map ofE
  | [] => rfl
  | a :: r => by rw [resE, resE_map r, List.map_cons]
theorem ofE_eq (e : Ex) : ofE e = stepE e.op e.ix e.vk e.vn e.args (e.args.map ofE) := by cases e; rw [ofE, resE_map]
mutual
def Ex.dep : Ex → Nat
  | .mk _ _ _ _ _ _ _ args => depEs args + 1
def depEs : List Ex → Nat
  | [] => 0
  | a :: r => max a.dep (depEs r)
end
theorem dep_arg {a : Ex} : ∀ {l : List Ex}, a ∈ l → a.dep ≤ depEs l
  | b :: r, h => by
    rcases List.mem_cons.1 h with rfl | h
    · simp only [depEs]; omega
    · have := dep_arg h; simp only [depEs]; omega
theorem Ex.ind {motive : Ex → Prop} (h : ∀ e, (∀ a ∈ e.args, motive a) → motive e) (e : Ex) : motive e := by
  have key : ∀ n (e : Ex), e.dep < n → motive e := by
    intro n
    induction n with
    | zero => intro e he; omega
    | succ n ih =>
      intro e he
      refine h e fun a ha => ih a ?_
      cases e with | mk op tb nm ix vk vn vs args =>
      have := dep_arg ha
      simp only [Ex.dep, Ex.args] at *; omega
  exact key _ e (Nat.lt_succ_self _)
theorem opsR_no {rs : List (Tm × Int)} {i : Nat} (hi : i < rs.length) (h0 : ∀ r ∈ rs.take i, r.2 = 0) (h : rs[i].2 ≠ 0) : opsR rs = (tm0, rs[i].2) := by
  induction rs generalizing i with
  | nil => simp at hi
  | cons r l ih =>
    cases i with
    | zero =>
      have h' : r.2 ≠ 0 := h
      rw [opsR, if_pos h']; rfl
    | succ i =>
      have : r.2 = 0 := h0 r (by simp)
      rw [opsR, if_neg (by omega)]
      exact ih (by simpa using hi) (fun x hx => h0 x (by simp [hx])) (by simpa using h)
theorem ops_step {l : List Ex} {i : Nat} (hi : i < l.length) (h0 : ∀ r ∈ (l.map ofE).take i, r.2 = 0) (h : (ofE l[i]).2 = 0) : ∀ r ∈ (l.map ofE).take (i + 1), r.2 = 0 := by
  rw [List.take_succ_eq_append_getElem (by simpa using hi)]
  intro r hr
  rcases List.mem_append.1 hr with h1 | h1
  · exact h0 r h1
  · simp at h1; rw [h1]; exact h
theorem opsR_end {rs : List (Tm × Int)} (h0 : ∀ r ∈ rs, r.2 = 0) : opsR rs = (tm0, 6) := by
  induction rs with
  | nil => rfl
  | cons r l ih =>
    have : r.2 = 0 := h0 r (by simp)
    rw [opsR, if_neg (by omega)]
    exact ih fun x hx => h0 x (by simp [hx])
theorem ops_of (e : Ex) (hL : e.args.length ≤ 1000000) (ih : ∀ a ∈ e.args, Pure Tryz.prog 138 [exC a] (trC (ofE a))) : Pure Tryz.prog 163 [exC e] (trC (opsR (e.args.map ofE))) := by
 intro H
 refine Spec.enter Tryz.func163 rfl ?_
 refine AW.wk (Wk.keep 26 [(0, .c (exC e))] [] (H) rfl ⟨rfl, trivial⟩ trivial (fun _ _ h => h) rfl) ?_
 refine sR (Z20 (r := [_, _, _, _, _, _, _, _]) ?_)
 refine Z16 (r := [_, _]) Fx.ze32 ?_
 refine sB ?_
 refine AW.seq (sR (Z1 Fx.fl26_5 ?_))
 refine Z0 Fx.ty24 ?_
 refine Z22 Fx.un24 ?_
 refine sM ?_
 refine Z7 (AW.block ?_)
 refine AW.loop (fun (i : Nat) s => (i ≤ e.args.length ∧ ∀ r ∈ (e.args.map ofE).take i, r.2 = 0) ∧ s = ⟨26, sp [(2, .lp 2 0), (3, .c (iC 0)), (9, .c (.a (.t (.sl .un 8 (e.args.map exT'))))), (10, iX .i64 (((e.args.map exT').length : Nat) : Int)), (11, iX .i64 ((i : Nat) : Int))], lv [(2, .box [.t (.v (.int .i64 0)), .t (.v (.slice none 0 0))])], H⟩) (fun i => e.args.length - i) 0 ⟨_, by exact Wk.keep 26 _ _ _ rfl ⟨rfl, rfl, rfl, rfl, rfl, trivial⟩ ⟨rfl, trivial⟩ (fun _ _ h => h) rfl, ⟨Nat.zero_le _, by simp⟩, rfl⟩ (fun i s hs => ?_)
 obtain ⟨⟨hi0, h0⟩, rfl⟩ := hs
 refine sR (Z30 ?_)
 refine Z7 (AW.seq ?_)
 refine cD ?_ ?_ <;> intro h12
 rotate_left
 ·
  refine AW.exit ?_
  refine eth_e ?_
  refine eth_e ?_
  refine exit_here ?_
  refine sR (Z11 (zs := [_, _]) (r := [_, _]) [(0, 1), (1, 1)] Fx.ze32 Fx.bp32 ?_)
  refine Z47 25 XW.tm0 ?_
  refine Z2 (r := [_, _]) Fx.ty32 ?_
  refine sB ?_
  exact aR (f2 (.cellL rfl rfl Fx.ty32 rfl rfl (.tmp rfl .nil)) (⟨by rw [opsR_end (fun r hr => h0 r (by rw [List.take_of_length_le (by rw [List.length_map] at *; omega)]; exact hr))]; rfl, rfl⟩))
 have hi : i < e.args.length := by rw [List.length_map] at h12; omega
 refine AW.skip (AW.seq (AW.block (sR (Z24 Fx.sl24 (idx_ex hi) ?_))))
 refine Z28 (.g [_, _, _, _, _, _, _, _]) Fx.ty26 ?_
 refine Z16 (r := [_, _, _, _, _, _, _, _]) Fx.ze26 ?_
 refine Z2 (r := [_, _, _, _, _, _, _, _]) Fx.ty26 ?_
 refine Z7 (sR (Z10 (r := .g [_, _, _, _, _, _, _, _]) Fx.ty26 ?_))
 refine Z12 Fx.fn138 (ih _ (List.getElem_mem hi)) ?_
 refine Z39 ?_
 refine Z6 ?_
 refine Z6 ?_
 refine Z16 (r := [_, _]) Fx.ze32 ?_
 refine Z2 (r := [_, _]) Fx.ty32 ?_
 refine sB ?_
 refine sR (sM ?_)
 refine Z26 ?_
 refine Z7 ?_
 refine cD ?_ ?_ <;> intro h21
 ·
  refine sR (Z11 (zs := [_, _]) (r := [_, _]) [(0, 1), (1, 1)] Fx.ze32 Fx.bp32 ?_)
  refine Z47 22 XW.tm0 ?_
  refine sM ?_
  refine Z2 (r := [_, _]) Fx.ty32 ?_
  refine sB ?_
  exact aR (f2 (.cellL rfl rfl Fx.ty32 rfl rfl (.tmp rfl .nil)) (⟨by rw [opsR_no (i := i) (by simpa using hi) h0 (by rw [List.getElem_map]; exact h21), List.getElem_map]; rfl, rfl⟩))
 refine AW.skip (AW.reg (Z13 ?_))
 refine sM ?_
 refine Z7 ?_
 exact ⟨i + 1, _, by exact Wk.keep 26 _ _ _ rfl ⟨rfl, rfl, rfl, rfl, rfl, trivial⟩ ⟨rfl, trivial⟩ (fun _ _ h => h) rfl, by omega, ⟨hi, ops_step hi h0 (Classical.not_not.1 h21)⟩, rfl⟩
theorem lim_ok {t : Tm} (h : (lim t).2 = 0) : lim t = (t, 0) ∧ smallB t = true := by
  unfold lim at h ⊢
  split at h
  · rename_i hs; exact ⟨by rw [if_pos hs], hs⟩
  · cases h
theorem cmpP_mul (p q : Pt) (n : Int) : cmpP (mulP p n) (mulP q n) = cmpP p q := by rw [cmpP_eq, cmpP_eq]; rfl
theorem ascB_mul (n : Int) : ∀ l : List Pt, ascB (l.map fun p => mulP p n) = ascB l
  | [] => rfl
  | [p] => rfl
  | p :: q :: r => by
    have := ascB_mul n (q :: r)
    simp only [List.map_cons, ascB, cmpP_mul] at this ⊢
    rw [this]
theorem vldP_mul {p : Pt} {n : Int} (hn : n ≠ 0) (h : vldP p = true) : vldP (mulP p n) = true := by
  rw [vldP_eq] at h ⊢
  simp only [Bool.and_eq_true, decide_eq_true_eq] at h
  obtain ⟨h1, h2⟩ := h
  rw [show decide ((mulP p n).coef ≠ 0) = true from decide_eq_true (Int.mul_ne_zero h1 hn)]
  exact h2
theorem vld0 : vldT tm0 = true := by decide
theorem scale_vld {t : Tm} {n : Int} (h : vldT t = true) (hs : (scale t n).2 = 0) : vldT (scale t n).1 = true := by
  unfold scale at hs ⊢
  by_cases hn : n = 0
  · rw [if_pos hn]; exact vld0
  · rw [if_neg hn] at hs ⊢
    obtain ⟨h1, h2⟩ := lim_ok hs
    rw [h1]
    rw [vldT_eq] at h ⊢
    simp only [Bool.and_eq_true] at h ⊢
    refine ⟨⟨vldPs_iff.2 fun p hp => ?_, ?_⟩, h2⟩
    · obtain ⟨q, hq, rfl⟩ := List.mem_map.1 hp
      exact vldP_mul hn (vldPs_iff.1 h.1.1 q hq)
    · exact (ascB_mul n t.ps).trans h.1.2
theorem lim_cnt' {t : Tm} : (lim t).1.cnt ≤ t.cnt := by
  unfold lim; split
  · exact Nat.le_refl _
  · have := t.cnt_pos; simpa [tm0, Tm.cnt, cntPs] using this
theorem scale_cnt (t : Tm) (n : Int) : (scale t n).1.cnt ≤ t.cnt := by
  unfold scale; split
  · have := t.cnt_pos; simpa [tm0, Tm.cnt, cntPs] using this
  · have := lim_cnt' (t := mulT t n); rw [mul_cnt] at this; exact this
theorem div_cnt (t : Tm) (b : Int) : (div t b).1.cnt ≤ t.cnt + 2 := by
  have h1 := t.cnt_pos
  unfold div
  split
  · simp [tm0, Tm.cnt, cntPs]
  · split
    · exact Nat.le_add_right _ _
    · split
      · simp [Tm.cnt, cntPs]
      · have := lim_cnt' (t := divT t b); rw [divT_cnt] at this; exact this
theorem div_vld {t : Tm} {b : Int} (h : vldT t = true) (hs : (div t b).2 = 0) : vldT (div t b).1 = true := by
  unfold div at hs ⊢
  split at hs
  · cases hs
  · rename_i h1
    rw [if_neg h1]
    split at hs
    · rename_i h2; rw [if_pos h2]; exact h
    · rename_i h2
      rw [if_neg h2]
      split at hs
      · rename_i h3
        rw [if_pos h3]
        have hc := (vld_coef h).1
        have hd : (t.c / b).natAbs ≤ 2 ^ 40 := by
          have h4 := Int.ediv_mul_add_emod t.c b
          have h5 := Int.emod_nonneg t.c (show b ≠ 0 by omega)
          have h6 := Int.emod_lt_of_pos t.c (show 0 < b by omega)
          have h7 : -(2 ^ 40) ≤ t.c / b := (Int.le_ediv_iff_mul_le (show 0 < b by omega)).2 (by omega)
          have h8 : t.c / b ≤ 2 ^ 40 := Int.ediv_le_of_le_mul (show 0 < b by omega) (by omega)
          omega
        rw [vldT_eq]
        simp only [vldPs, ascB, Bool.true_and]
        exact smallB_iff.2 ⟨hd, by simp, by simp only [bndT, bndPs]; omega⟩
      · rename_i h3
        rw [if_neg h3]
        obtain ⟨e1, e2⟩ := lim_ok hs
        rw [e1, vldT_eq, e2]
        have hne : t.ps.isEmpty = false := by cases hp : t.ps with | nil => rw [hp] at h3; simp at h3 | cons => rfl
        simp [divT, vldPs, vldP, vldO, ascB, h, hne]
        omega
theorem comb_any (op : Int) (a b : Tm) (ha : vldT a = true) (hb : vldT b = true) (hN : a.cnt + b.cnt ≤ 40000) : Pure Tryz.prog 164 [iC op, tmC a, tmC b] (trC (comb op a b)) := by
 intro H
 refine Spec.enter Tryz.func164 rfl ?_
 refine AW.wk (Wk.keep 108 [(0, .c (iC op)), (1, .c (tmC a)), (2, .c (tmC b))] [] (H) rfl ⟨rfl, rfl, rfl, trivial⟩ trivial (fun _ _ h => h) rfl) ?_
 refine sR (Z20 (r := [_, _]) ?_)
 refine Z20 (r := [_, _]) ?_
 refine Z16 (r := [_, _]) Fx.ze32 ?_
 refine sB ?_
 refine AW.seq (AW.seq ?_)
 have hca := vld_coef ha
 have hcb := vld_coef hb
 have k1 := scale_cnt b (-1)
 have k2 := div_cnt a b.c
 have k3 := scale_cnt (div a b.c).1 (-b.c)
 refine AW.reg (sM ?_)
 refine Z7 (AW.block (sR (Z9 ?_)))
 refine sB ?_
 refine cD ?_ ?_ <;> intro h13
 ·
  refine sR (Z10 (r := .g [_, _]) Fx.ty32 ?_)
  refine Z10 (r := .g [_, _]) Fx.ty32 ?_
  refine SeqK.q (q_call _ rfl Fx.fn140 rfl (add_any a b ha hb (by omega)) rfl) rfl rfl rfl ?_
  refine Z6 ?_
  refine Z6 ?_
  refine Z2 (r := [_, _]) Fx.ty32 ?_
  refine sB ?_
  exact aR (f2 (.cellL rfl rfl Fx.ty32 rfl rfl (.tmp rfl .nil)) (⟨by rw [comb, if_pos h13]; rfl, rfl⟩))
 refine sR (Z9 ?_)
 refine sB ?_
 refine cD ?_ ?_ <;> intro h20
 ·
  refine sR (Z10 (r := .g [_, _]) Fx.ty32 ?_)
  refine SeqK.q (q_call _ rfl Fx.fn139 rfl (scale_any b (-1) (vldT_bok hb) (vldT_one hb) (by decide) (by omega)) rfl) rfl rfl rfl ?_
  refine Z39 ?_
  refine Z6 ?_
  refine Z6 ?_
  refine Z16 (r := [_, _]) Fx.ze32 ?_
  refine Z2 (r := [_, _]) Fx.ty32 ?_
  refine sB ?_
  refine AW.seq (sR (sM ?_))
  refine Z26 ?_
  refine Z7 ?_
  refine cD ?_ ?_ <;> intro h28
  ·
   refine sR (Z11 (zs := [_, _]) (r := [_, _]) [(0, 1), (1, 1)] Fx.ze32 Fx.bp32 ?_)
   refine Z47 29 XW.tm0 ?_
   refine sM ?_
   refine Z2 (r := [_, _]) Fx.ty32 ?_
   refine sB ?_
   exact aR (f2 (.cellL rfl rfl Fx.ty32 rfl rfl (.tmp rfl .nil)) (⟨by rw [comb, if_neg h13, if_pos h20, if_pos h28]; rfl, rfl⟩))
  have hs0 : (scale b (-1)).2 = 0 := Classical.not_not.1 h28
  refine AW.skip (sR (Z10 (r := .g [_, _]) Fx.ty32 ?_))
  refine Z10 (r := .g [_, _]) Fx.ty32 ?_
  refine SeqK.q (q_call _ rfl Fx.fn140 rfl (add_any a _ ha (scale_vld hb hs0) (by omega)) rfl) rfl rfl rfl ?_
  refine Z6 ?_
  refine Z6 ?_
  refine Z2 (r := [_, _]) Fx.ty32 ?_
  refine sB ?_
  exact aR (f2 (.cellL rfl rfl Fx.ty32 rfl rfl (.tmp rfl .nil)) (⟨by rw [comb, if_neg h13, if_pos h20, if_neg h28]; rfl, rfl⟩))
 refine sR (Z9 ?_)
 refine sB ?_
 refine cD ?_ ?_ <;> intro h36
 ·
  refine AW.seq (AW.block (sR (Z1 Fx.fl32_1 ?_)))
  refine Z0 Fx.ty30 ?_
  refine Z22 Fx.un30 ?_
  refine Z9 ?_
  refine sB ?_
  refine cD ?_ ?_ <;> intro h38
  ·
   refine sR (Z10 (r := .g [_, _]) Fx.ty32 ?_)
   refine Z1 Fx.fl32_0 ?_
   refine Z0 Fx.ty2 ?_
   refine SeqK.q (q_call _ rfl Fx.fn139 rfl (scale_any b a.c (vldT_bok hb) (vldT_one hb) (by omega) (by omega)) rfl) rfl rfl rfl ?_
   refine Z6 ?_
   refine Z6 ?_
   refine Z2 (r := [_, _]) Fx.ty32 ?_
   refine sB ?_
   exact aR (f2 (.cellL rfl rfl Fx.ty32 rfl rfl (.tmp rfl .nil)) (⟨by rw [comb, if_neg h13, if_neg h20, if_pos h36, if_pos (by simp only [List.length_map] at *; omega)]; rfl, rfl⟩))
  refine sR (Z1 Fx.fl32_1 ?_)
  refine Z0 Fx.ty30 ?_
  refine Z22 Fx.un30 ?_
  refine Z9 ?_
  refine sB ?_
  refine cD ?_ ?_ <;> intro h49
  ·
   refine sR (Z10 (r := .g [_, _]) Fx.ty32 ?_)
   refine Z1 Fx.fl32_0 ?_
   refine Z0 Fx.ty2 ?_
   refine SeqK.q (q_call _ rfl Fx.fn139 rfl (scale_any a b.c (vldT_bok ha) (vldT_one ha) (by omega) (by omega)) rfl) rfl rfl rfl ?_
   refine Z6 ?_
   refine Z6 ?_
   refine Z2 (r := [_, _]) Fx.ty32 ?_
   refine sB ?_
   exact aR (f2 (.cellL rfl rfl Fx.ty32 rfl rfl (.tmp rfl .nil)) (⟨by rw [comb, if_neg h13, if_neg h20, if_pos h36, if_neg (by simp only [List.length_map] at *; omega), if_pos (by simp only [List.length_map] at *; omega)]; rfl, rfl⟩))
  refine AW.skip (sR (Z11 (zs := [_, _]) (r := [_, _]) [(0, 1), (1, 1)] Fx.ze32 Fx.bp32 ?_))
  refine Z47 60 XW.tm0 ?_
  refine Z2 (r := [_, _]) Fx.ty32 ?_
  refine sB ?_
  exact aR (f2 (.cellL rfl rfl Fx.ty32 rfl rfl (.tmp rfl .nil)) (⟨by rw [comb, if_neg h13, if_neg h20, if_pos h36, if_neg (by simp only [List.length_map] at *; omega), if_neg (by simp only [List.length_map] at *; omega)]; rfl, rfl⟩))
 refine AW.skip (AW.seq (sR (Z1 Fx.fl32_1 ?_)))
 refine Z0 Fx.ty30 ?_
 refine Z22 Fx.un30 ?_
 refine Z43 ?_
 refine Z17 ?_ ?_ <;> intro g65
 ·
  iterate 3 refine oF ?_
  refine Z8 ?_
  refine sM ?_
  iterate 3 refine oF ?_
  refine Z8 ?_
  refine Z7 (AW.condT rfl ?_)
  refine sR (Z11 (zs := [_, _]) (r := [_, _]) [(0, 1), (1, 1)] Fx.ze32 Fx.bp32 ?_)
  refine Z47 75 XW.tm0 ?_
  refine Z2 (r := [_, _]) Fx.ty32 ?_
  refine sB ?_
  exact aR (f2 (.cellL rfl rfl Fx.ty32 rfl rfl (.tmp rfl .nil)) (⟨by rw [comb, if_neg h13, if_neg h20, if_neg h36, if_pos (by simp only [List.length_map] at *; omega)]; rfl, rfl⟩))
 refine Z5 Fx.fl32_0 ?_
 refine Z3 Fx.ty2 ?_
 refine SeqK.on (q_lss rfl rfl rfl) rfl rfl rfl rfl rfl ?_
 refine Z4 ?_
 refine Z17 ?_ ?_ <;> intro g70
 ·
  iterate 3 refine oF ?_
  refine Z8 ?_
  refine Z7 (AW.condT rfl ?_)
  refine sR (Z11 (zs := [_, _]) (r := [_, _]) [(0, 1), (1, 1)] Fx.ze32 Fx.bp32 ?_)
  refine Z47 75 XW.tm0 ?_
  refine Z2 (r := [_, _]) Fx.ty32 ?_
  refine sB ?_
  exact aR (f2 (.cellL rfl rfl Fx.ty32 rfl rfl (.tmp rfl .nil)) (⟨by rw [comb, if_neg h13, if_neg h20, if_neg h36, if_pos (by simp only [List.length_map] at *; omega)]; rfl, rfl⟩))
 refine Z5 Fx.fl32_0 ?_
 refine Z3 Fx.ty2 ?_
 refine SeqK.on (q_gtr rfl rfl rfl) rfl rfl rfl rfl rfl ?_
 refine Z4 ?_
 refine Z7 ?_
 refine cD ?_ ?_ <;> intro h74
 ·
  refine sR (Z11 (zs := [_, _]) (r := [_, _]) [(0, 1), (1, 1)] Fx.ze32 Fx.bp32 ?_)
  refine Z47 75 XW.tm0 ?_
  refine Z2 (r := [_, _]) Fx.ty32 ?_
  refine sB ?_
  exact aR (f2 (.cellL rfl rfl Fx.ty32 rfl rfl (.tmp rfl .nil)) (⟨by rw [comb, if_neg h13, if_neg h20, if_neg h36, if_pos (by simp only [List.length_map] at *; omega)]; rfl, rfl⟩))
 refine AW.skip (sR (Z10 (r := .g [_, _]) Fx.ty32 ?_))
 refine Z1 Fx.fl32_0 ?_
 refine Z0 Fx.ty2 ?_
 refine SeqK.q (q_call _ rfl Fx.fn181 rfl (div_any a b.c ha (by omega)) rfl) rfl rfl rfl ?_
 refine Z39 ?_
 refine Z6 ?_
 refine Z6 ?_
 refine Z16 (r := [_, _]) Fx.ze32 ?_
 refine Z2 (r := [_, _]) Fx.ty32 ?_
 refine sB ?_
 refine AW.seq (sR (sM ?_))
 refine Z26 ?_
 refine Z17 ?_ ?_ <;> intro g85
 ·
  iterate 2 refine oF ?_
  refine Z8 ?_
  refine Z7 (AW.condT rfl ?_)
  refine sR (Z10 (r := .g [_, _]) Fx.ty32 ?_)
  refine sM ?_
  refine Z2 (r := [_, _]) Fx.ty32 ?_
  refine sB ?_
  exact aR (f2 (.cellL rfl rfl Fx.ty32 rfl rfl (.tmp rfl .nil)) (⟨by rw [comb, if_neg h13, if_neg h20, if_neg h36, if_neg (by simp only [List.length_map] at *; omega), if_pos (by first | exact .inl g85 | exact .inr h88)]; rfl, rfl⟩))
 have hd0 : (div a b.c).2 = 0 := Classical.not_not.1 g85
 refine Z14 ?_
 refine Z21 ?_
 refine Z4 ?_
 refine Z7 ?_
 refine cD ?_ ?_ <;> intro h88
 ·
  refine sR (Z10 (r := .g [_, _]) Fx.ty32 ?_)
  refine sM ?_
  refine Z2 (r := [_, _]) Fx.ty32 ?_
  refine sB ?_
  exact aR (f2 (.cellL rfl rfl Fx.ty32 rfl rfl (.tmp rfl .nil)) (⟨by rw [comb, if_neg h13, if_neg h20, if_neg h36, if_neg (by simp only [List.length_map] at *; omega), if_pos (by first | exact .inl g85 | exact .inr h88)]; rfl, rfl⟩))
 refine AW.skip (sR (Z10 (r := .g [_, _]) Fx.ty32 ?_))
 refine Z1 Fx.fl32_0 ?_
 refine Z0 Fx.ty2 ?_
 refine SeqK.q (q_neg _ rfl rfl ((by rw [w64 (by omega) (by omega)]; omega : IntKind.i64.wrap _ = -b.c))) rfl rfl rfl ?_
 refine SeqK.q (q_call _ rfl Fx.fn139 rfl (scale_any _ (-b.c) (vldT_bok (div_vld ha hd0)) (vldT_one (div_vld ha hd0)) (by omega) (by omega)) rfl) rfl rfl rfl ?_
 refine Z39 ?_
 refine Z6 ?_
 refine Z6 ?_
 refine Z2 (r := [_, _]) Fx.ty32 ?_
 refine sB ?_
 refine AW.seq (sR (sM ?_))
 refine Z26 ?_
 refine Z7 ?_
 refine cD ?_ ?_ <;> intro h100
 ·
  refine sR (Z11 (zs := [_, _]) (r := [_, _]) [(0, 1), (1, 1)] Fx.ze32 Fx.bp32 ?_)
  refine Z47 101 XW.tm0 ?_
  refine sM ?_
  refine Z2 (r := [_, _]) Fx.ty32 ?_
  refine sB ?_
  exact aR (f2 (.cellL rfl rfl Fx.ty32 rfl rfl (.tmp rfl .nil)) (⟨by rw [comb, if_neg h13, if_neg h20, if_neg h36, if_neg (by simp only [List.length_map] at *; omega), if_neg (by omega), if_pos h100]; rfl, rfl⟩))
 have hs1 : (scale (div a b.c).1 (-b.c)).2 = 0 := Classical.not_not.1 h100
 refine AW.skip (sR (Z10 (r := .g [_, _]) Fx.ty32 ?_))
 refine Z10 (r := .g [_, _]) Fx.ty32 ?_
 refine SeqK.q (q_call _ rfl Fx.fn140 rfl (add_any a _ ha (scale_vld (div_vld ha hd0) hs1) (by omega)) rfl) rfl rfl rfl ?_
 refine Z6 ?_
 refine Z6 ?_
 refine Z2 (r := [_, _]) Fx.ty32 ?_
 refine sB ?_
 exact aR (f2 (.cellL rfl rfl Fx.ty32 rfl rfl (.tmp rfl .nil)) (⟨by rw [comb, if_neg h13, if_neg h20, if_neg h36, if_neg (by simp only [List.length_map] at *; omega), if_neg (by omega), if_neg h100]; rfl, rfl⟩))
theorem XW.pt0 {a b c d : A} : XW (.c (.g [a, b, c, d, .t (.v (.slice none 0 0))])) (.c (.g [a, b, c, d, .t (.sl .un 2 [])])) := ⟨rfl, fun cx v h => by
  obtain ⟨us, rfl, h1, h2⟩ := h
  refine ⟨us, rfl, by simpa using h1, fun i x v hx hv => ?_⟩
  match i with
  | 0 => simp at hx; subst hx; exact h2 0 _ v rfl hv
  | 1 => simp at hx; subst hx; exact h2 1 _ v rfl hv
  | 2 => simp at hx; subst hx; exact h2 2 _ v rfl hv
  | 3 => simp at hx; subst hx; exact h2 3 _ v rfl hv
  | 4 =>
    simp at hx; subst hx
    exact XW.nilU.2 cx v (h2 4 _ v rfl hv)
  | i + 5 => simp at hx⟩
theorem bok_c {n : Int} (h : R64 n) : bokT ⟨n, []⟩ := ⟨h, by simp, by simp⟩
theorem bok_v {k v : Int} (hk : k ≠ 2) : bokT ⟨0, [⟨1, k, v, 0, []⟩]⟩ := by
  refine ⟨by show -9223372036854775808 ≤ (0 : Int) ∧ (0 : Int) ≤ 9223372036854775807; decide, fun p hp => ?_, fun p hp => ?_⟩
  · obtain rfl : p = ⟨1, k, v, 0, []⟩ := by simpa using hp
    show -9223372036854775808 ≤ (1 : Int) ∧ (1 : Int) ≤ 9223372036854775807
    decide
  · obtain rfl : p = ⟨1, k, v, 0, []⟩ := by simpa using hp
    exact fun h => absurd h hk
theorem cnt_c {n : Int} : (⟨n, []⟩ : Tm).cnt ≤ 100000 := by simp [Tm.cnt, cntPs]
theorem cnt_v {k v : Int} : (⟨0, [⟨1, k, v, 0, []⟩]⟩ : Tm).cnt ≤ 100000 := by simp [Tm.cnt, cntPs, Pt.cnt, cntTs]
structure rgE (e : Ex) : Prop where
  vn : R64 e.vn
  len : e.args.length ≤ 1000000
  vs : ∀ a ∈ e.args, a.vs.size ≤ 1152921504606846976
theorem leaf_of (e : Ex) (hr : rgE e) (ih : ∀ a ∈ e.args, Pure Tryz.prog 138 [exC a] (trC (ofE a))) : Pure Tryz.prog 162 [exC e] (trC (leafE e.op e.ix e.vk e.vn e.args (e.args.map ofE))) := by
 intro H
 refine Spec.enter Tryz.func162 rfl ?_
 refine AW.wk (Wk.keep 114 [(0, .c (exC e))] [] (H) rfl ⟨rfl, trivial⟩ trivial (fun _ _ h => h) rfl) ?_
 refine sR (Z20 (r := [_, _, _, _, _, _, _, _]) ?_)
 refine Z16 (r := [_, _]) Fx.ze32 ?_
 refine sB ?_
 refine sR (Z1 Fx.fl26_3 ?_)
 refine Z0 Fx.ty3 ?_
 refine Z11 (zs := [_, _, _, _, _]) (r := [_, _, _, _, _]) [(0, 1), (1, 1), (2, 1), (3, 1), (4, 1)] Fx.ze89 Fx.bp89 ?_
 refine Z47 8 XW.pt0 ?_
 refine Z16 (r := [_, _, _, _, _]) Fx.ze89 ?_
 refine Z2 (r := [_, _, _, _, _]) Fx.ty89 ?_
 refine Z7 (AW.seq (sR (Z1 Fx.fl26_0 ?_)))
 refine Z0 Fx.ty3 ?_
 refine Z9 ?_
 refine Z7 ?_
 refine cD ?_ ?_ <;> intro h11
 rotate_left
 ·
  refine AW.skip (AW.seq (sR (Z1 Fx.fl26_5 ?_)))
  refine Z0 Fx.ty24 ?_
  refine Z22 Fx.un24 ?_
  refine Z43 ?_
  refine Z7 ?_
  refine cD ?_ ?_ <;> intro h76
  ·
   refine sR (Z10 (r := .g [_, _, _, _, _, _, _, _]) Fx.ty26 ?_)
   refine Z12 Fx.fn163 (ops_of e hr.len ih) ?_
   refine Z6 ?_
   refine Z6 ?_
   refine Z2 (r := [_, _]) Fx.ty32 ?_
   refine sB ?_
   exact aR (f2 (.cellL rfl rfl Fx.ty32 rfl rfl (.tmp rfl .nil)) (⟨by rw [leafE, if_neg h11, if_pos (by simp only [List.length_map] at *; omega)]; rfl, rfl⟩))
  refine AW.skip (AW.seq (AW.block (sR (Z1 Fx.fl26_0 ?_))))
  refine Z0 Fx.ty3 ?_
  refine Z9 ?_
  refine Z17 ?_ ?_ <;> intro g85
  ·
   refine Z5 Fx.fl26_4 ?_
   refine Z5 Fx.fl23_0 ?_
   refine Z3 Fx.ty3 ?_
   refine Z21 ?_
   refine Z8 ?_
   refine sB ?_
   refine cD ?_ ?_ <;> intro h81
   ·
    refine sR (Z1 Fx.fl26_4 ?_)
    refine Z1 Fx.fl23_1 ?_
    refine Z0 Fx.ty2 ?_
    refine Z11 (zs := [_, _]) (r := [_, _]) [(0, 1), (1, 1)] Fx.ze32 Fx.bp32 ?_
    refine Z47 94 XW.tm0 ?_
    refine Z12 Fx.fn166 (checked_any ⟨e.vn, []⟩ (bok_c hr.vn) cnt_c) ?_
    refine Z6 ?_
    refine Z6 ?_
    refine Z2 (r := [_, _]) Fx.ty32 ?_
    refine sB ?_
    exact aR (f2 (.cellL rfl rfl Fx.ty32 rfl rfl (.tmp rfl .nil)) (⟨by rw [leafE, if_neg h11, if_neg (by simp only [List.length_map] at *; omega), if_pos ⟨g85, h81⟩]; rfl, rfl⟩))
   refine sR (Z1 Fx.fl26_0 ?_)
   refine Z0 Fx.ty3 ?_
   refine Z9 ?_
   refine Z17 ?_ ?_ <;> intro g102
   ·
    refine Z5 Fx.fl26_3 ?_
    refine Z3 Fx.ty3 ?_
    refine SeqK.on (q_geq rfl rfl rfl) rfl rfl rfl rfl rfl ?_
    refine Z8 ?_
    refine sB ?_
    refine cD ?_ ?_ <;> intro h98
    ·
     refine sR (Z10 (r := .g [_, _, _, _, _]) Fx.ty89 ?_)
     refine Z27 Fx.el30 ?_
     refine Z47 108 .un ?_
     refine Z11 (zs := [_, _]) (r := [_, _]) [(0, 1), (1, 1)] Fx.ze32 Fx.bp32 ?_
     refine SeqK.q (q_call _ rfl Fx.fn166 rfl (checked_any ⟨0, [⟨1, 0, e.ix, 0, []⟩]⟩ (bok_v (by decide)) cnt_v) rfl) rfl rfl rfl ?_
     refine Z6 ?_
     refine Z6 ?_
     refine Z2 (r := [_, _]) Fx.ty32 ?_
     refine sB ?_
     exact aR (f2 (.cellL rfl rfl Fx.ty32 rfl rfl (.tmp rfl .nil)) (⟨by rw [leafE, if_neg h11, if_neg (by simp only [List.length_map] at *; omega), if_neg (by omega), if_pos ⟨g102, h98⟩]; rfl, rfl⟩))
    refine AW.skip (sR (Z11 (zs := [_, _]) (r := [_, _]) [(0, 1), (1, 1)] Fx.ze32 Fx.bp32 ?_))
    refine Z47 113 XW.tm0 ?_
    refine Z2 (r := [_, _]) Fx.ty32 ?_
    refine sB ?_
    exact aR (f2 (.cellL rfl rfl Fx.ty32 rfl rfl (.tmp rfl .nil)) (⟨by rw [leafE, if_neg h11, if_neg (by simp only [List.length_map] at *; omega), if_neg (by omega), if_neg (by omega)]; rfl, rfl⟩))
   iterate 3 refine oF ?_
   refine Z4 ?_
   refine sB ?_
   refine AW.condF rfl ?_
   refine AW.skip (sR (Z11 (zs := [_, _]) (r := [_, _]) [(0, 1), (1, 1)] Fx.ze32 Fx.bp32 ?_))
   refine Z47 113 XW.tm0 ?_
   refine Z2 (r := [_, _]) Fx.ty32 ?_
   refine sB ?_
   exact aR (f2 (.cellL rfl rfl Fx.ty32 rfl rfl (.tmp rfl .nil)) (⟨by rw [leafE, if_neg h11, if_neg (by simp only [List.length_map] at *; omega), if_neg (by omega), if_neg (by omega)]; rfl, rfl⟩))
  iterate 4 refine oF ?_
  refine Z4 ?_
  refine sB ?_
  refine AW.condF rfl ?_
  refine sR (Z1 Fx.fl26_0 ?_)
  refine Z0 Fx.ty3 ?_
  refine Z9 ?_
  refine Z17 ?_ ?_ <;> intro g102
  ·
   refine Z5 Fx.fl26_3 ?_
   refine Z3 Fx.ty3 ?_
   refine SeqK.on (q_geq rfl rfl rfl) rfl rfl rfl rfl rfl ?_
   refine Z8 ?_
   refine sB ?_
   refine cD ?_ ?_ <;> intro h98
   ·
    refine sR (Z10 (r := .g [_, _, _, _, _]) Fx.ty89 ?_)
    refine Z27 Fx.el30 ?_
    refine Z47 108 .un ?_
    refine Z11 (zs := [_, _]) (r := [_, _]) [(0, 1), (1, 1)] Fx.ze32 Fx.bp32 ?_
    refine SeqK.q (q_call _ rfl Fx.fn166 rfl (checked_any ⟨0, [⟨1, 0, e.ix, 0, []⟩]⟩ (bok_v (by decide)) cnt_v) rfl) rfl rfl rfl ?_
    refine Z6 ?_
    refine Z6 ?_
    refine Z2 (r := [_, _]) Fx.ty32 ?_
    refine sB ?_
    exact aR (f2 (.cellL rfl rfl Fx.ty32 rfl rfl (.tmp rfl .nil)) (⟨by rw [leafE, if_neg h11, if_neg (by simp only [List.length_map] at *; omega), if_neg (by omega), if_pos ⟨g102, h98⟩]; rfl, rfl⟩))
   refine AW.skip (sR (Z11 (zs := [_, _]) (r := [_, _]) [(0, 1), (1, 1)] Fx.ze32 Fx.bp32 ?_))
   refine Z47 113 XW.tm0 ?_
   refine Z2 (r := [_, _]) Fx.ty32 ?_
   refine sB ?_
   exact aR (f2 (.cellL rfl rfl Fx.ty32 rfl rfl (.tmp rfl .nil)) (⟨by rw [leafE, if_neg h11, if_neg (by simp only [List.length_map] at *; omega), if_neg (by omega), if_neg (by omega)]; rfl, rfl⟩))
  iterate 3 refine oF ?_
  refine Z4 ?_
  refine sB ?_
  refine AW.condF rfl ?_
  refine AW.skip (sR (Z11 (zs := [_, _]) (r := [_, _]) [(0, 1), (1, 1)] Fx.ze32 Fx.bp32 ?_))
  refine Z47 113 XW.tm0 ?_
  refine Z2 (r := [_, _]) Fx.ty32 ?_
  refine sB ?_
  exact aR (f2 (.cellL rfl rfl Fx.ty32 rfl rfl (.tmp rfl .nil)) (⟨by rw [leafE, if_neg h11, if_neg (by simp only [List.length_map] at *; omega), if_neg (by omega), if_neg (by omega)]; rfl, rfl⟩))
 refine AW.seq (sR (Z1 Fx.fl26_5 ?_))
 refine Z0 Fx.ty24 ?_
 refine Z22 Fx.un24 ?_
 refine Z26 ?_
 refine Z7 ?_
 refine cD ?_ ?_ <;> intro h15
 ·
  refine sR (Z10 (r := .g [_, _, _, _, _, _, _, _]) Fx.ty26 ?_)
  refine Z12 Fx.fn163 (ops_of e hr.len ih) ?_
  refine Z6 ?_
  refine Z6 ?_
  refine Z2 (r := [_, _]) Fx.ty32 ?_
  refine sB ?_
  exact aR (f2 (.cellL rfl rfl Fx.ty32 rfl rfl (.tmp rfl .nil)) (⟨by rw [leaf9_ne h11 (by simp only [List.length_map] at *; omega)]; rfl, rfl⟩))
 have hl1 : e.args.length = 1 := by rw [List.length_map] at h15; omega
 have h01 : 0 < e.args.length := by omega
 have hvs := hr.vs _ (List.getElem_mem h01)
 refine AW.skip (sR (Z1 Fx.fl26_5 ?_))
 refine Z0 Fx.ty24 ?_
 refine Z24 Fx.sl24 (idx_ex h01) ?_
 refine Z28 (.g [_, _, _, _, _, _, _, _]) Fx.ty26 ?_
 refine Z16 (r := [_, _, _, _, _, _, _, _]) Fx.ze26 ?_
 refine Z2 (r := [_, _, _, _, _, _, _, _]) Fx.ty26 ?_
 refine Z7 (AW.seq (sR (Z1 Fx.fl26_5 ?_)))
 refine Z0 Fx.ty24 ?_
 refine Z22 Fx.un24 ?_
 refine Z43 ?_
 refine Z7 ?_
 refine cD ?_ ?_ <;> intro h27
 ·
  refine sR (Z10 (r := .g [_, _, _, _, _, _, _, _]) Fx.ty26 ?_)
  refine Z12 Fx.fn163 (ops_of e hr.len ih) ?_
  refine Z6 ?_
  refine Z6 ?_
  refine Z2 (r := [_, _]) Fx.ty32 ?_
  refine sB ?_
  exact aR (f2 (.cellL rfl rfl Fx.ty32 rfl rfl (.tmp rfl .nil)) (⟨by rw [leaf9_one h11 h01 hl1, lenE, if_pos (by simp only [List.length_map] at *; omega)]; rfl, rfl⟩))
 refine AW.skip (AW.seq (AW.block (sR (Z1 Fx.fl26_0 ?_))))
 refine Z0 Fx.ty3 ?_
 refine Z9 ?_
 refine Z17 ?_ ?_ <;> intro g36
 ·
  refine Z5 Fx.fl26_4 ?_
  refine Z5 Fx.fl23_0 ?_
  refine Z3 Fx.ty3 ?_
  refine Z21 ?_
  refine Z8 ?_
  refine sB ?_
  refine cD ?_ ?_ <;> intro h32
  ·
   refine sR (Z1 Fx.fl26_4 ?_)
   refine Z1 Fx.fl23_2 ?_
   refine Z0 Fx.ty9 ?_
   refine SeqK.q (q_lenS rfl Fx.un9 rfl) rfl rfl rfl ?_
   refine Z11 (zs := [_, _]) (r := [_, _]) [(0, 1), (1, 1)] Fx.ze32 Fx.bp32 ?_
   refine Z47 46 XW.tm0 ?_
   refine SeqK.q (q_call _ rfl Fx.fn166 rfl (checked_any ⟨(e.args[0].vs.size : Int), []⟩ (bok_c (by omega)) cnt_c) rfl) rfl rfl rfl ?_
   refine Z6 ?_
   refine Z6 ?_
   refine Z2 (r := [_, _]) Fx.ty32 ?_
   refine sB ?_
   exact aR (f2 (.cellL rfl rfl Fx.ty32 rfl rfl (.tmp rfl .nil)) (⟨by rw [leaf9_one h11 h01 hl1, lenE, if_neg (by simp only [List.length_map] at *; omega), if_pos ⟨g36, h32⟩]; rfl, rfl⟩))
  refine sR (Z1 Fx.fl26_0 ?_)
  refine Z0 Fx.ty3 ?_
  refine Z9 ?_
  refine Z17 ?_ ?_ <;> intro g54
  rotate_left
  ·
   iterate 3 refine oF ?_
   refine Z4 ?_
   refine sB ?_
   refine AW.condF rfl ?_
   refine AW.skip (sR (Z10 (r := .g [_, _, _, _, _, _, _, _]) Fx.ty26 ?_))
   refine Z12 Fx.fn163 (ops_of e hr.len ih) ?_
   refine Z6 ?_
   refine Z6 ?_
   refine Z2 (r := [_, _]) Fx.ty32 ?_
   refine sB ?_
   exact aR (f2 (.cellL rfl rfl Fx.ty32 rfl rfl (.tmp rfl .nil)) (⟨by rw [leaf9_one h11 h01 hl1, lenE, if_neg (by simp only [List.length_map] at *; omega), if_neg (by omega), if_neg (by omega)]; rfl, rfl⟩))
  refine Z5 Fx.fl26_3 ?_
  refine Z3 Fx.ty3 ?_
  refine SeqK.on (q_geq rfl rfl rfl) rfl rfl rfl rfl rfl ?_
  refine Z8 ?_
  refine sB ?_
  refine cD ?_ ?_ <;> intro h50
  ·
   refine AW.seq (AW.draw Fx.mo ?_)
   refine Z23 Fx.fl26_3 ?_
   refine Z18 Fx.ty3 ?_
   refine Z23 Fx.fl89_1 ?_
   refine Z40 (r := [_, _, _, _, _]) Fx.ty3 ?_
   refine Z23 Fx.fl89_2 ?_
   refine Z40 (r := [_, _, _, _, _]) Fx.ty3 ?_
   refine Z48 ?_
   refine sR (Z10 (r := .g [_, _, _, _, _]) Fx.ty89 ?_)
   refine Z27 Fx.el30 ?_
   refine Z47 64 .un ?_
   refine Z11 (zs := [_, _]) (r := [_, _]) [(0, 1), (1, 1)] Fx.ze32 Fx.bp32 ?_
   refine SeqK.q (q_call _ rfl Fx.fn166 rfl (checked_any ⟨0, [⟨1, 1, e.args[0].ix, 0, []⟩]⟩ (bok_v (by decide)) cnt_v) rfl) rfl rfl rfl ?_
   refine Z6 ?_
   refine Z6 ?_
   refine Z2 (r := [_, _]) Fx.ty32 ?_
   refine sB ?_
   exact aR (f2 (.cellL rfl rfl Fx.ty32 rfl rfl (.tmp rfl .nil)) (⟨by rw [leaf9_one h11 h01 hl1, lenE, if_neg (by simp only [List.length_map] at *; omega), if_neg (by omega), if_pos ⟨g54, h50⟩]; rfl, rfl⟩))
  refine AW.skip (sR (Z10 (r := .g [_, _, _, _, _, _, _, _]) Fx.ty26 ?_))
  refine Z12 Fx.fn163 (ops_of e hr.len ih) ?_
  refine Z6 ?_
  refine Z6 ?_
  refine Z2 (r := [_, _]) Fx.ty32 ?_
  refine sB ?_
  exact aR (f2 (.cellL rfl rfl Fx.ty32 rfl rfl (.tmp rfl .nil)) (⟨by rw [leaf9_one h11 h01 hl1, lenE, if_neg (by simp only [List.length_map] at *; omega), if_neg (by omega), if_neg (by omega)]; rfl, rfl⟩))
 iterate 4 refine oF ?_
 refine Z4 ?_
 refine sB ?_
 refine AW.condF rfl ?_
 refine sR (Z1 Fx.fl26_0 ?_)
 refine Z0 Fx.ty3 ?_
 refine Z9 ?_
 refine Z17 ?_ ?_ <;> intro g54
 rotate_left
 ·
  iterate 3 refine oF ?_
  refine Z4 ?_
  refine sB ?_
  refine AW.condF rfl ?_
  refine AW.skip (sR (Z10 (r := .g [_, _, _, _, _, _, _, _]) Fx.ty26 ?_))
  refine Z12 Fx.fn163 (ops_of e hr.len ih) ?_
  refine Z6 ?_
  refine Z6 ?_
  refine Z2 (r := [_, _]) Fx.ty32 ?_
  refine sB ?_
  exact aR (f2 (.cellL rfl rfl Fx.ty32 rfl rfl (.tmp rfl .nil)) (⟨by rw [leaf9_one h11 h01 hl1, lenE, if_neg (by simp only [List.length_map] at *; omega), if_neg (by omega), if_neg (by omega)]; rfl, rfl⟩))
 refine Z5 Fx.fl26_3 ?_
 refine Z3 Fx.ty3 ?_
 refine SeqK.on (q_geq rfl rfl rfl) rfl rfl rfl rfl rfl ?_
 refine Z8 ?_
 refine sB ?_
 refine cD ?_ ?_ <;> intro h50
 ·
  refine AW.seq (AW.draw Fx.mo ?_)
  refine Z23 Fx.fl26_3 ?_
  refine Z18 Fx.ty3 ?_
  refine Z23 Fx.fl89_1 ?_
  refine Z40 (r := [_, _, _, _, _]) Fx.ty3 ?_
  refine Z23 Fx.fl89_2 ?_
  refine Z40 (r := [_, _, _, _, _]) Fx.ty3 ?_
  refine Z48 ?_
  refine sR (Z10 (r := .g [_, _, _, _, _]) Fx.ty89 ?_)
  refine Z27 Fx.el30 ?_
  refine Z47 64 .un ?_
  refine Z11 (zs := [_, _]) (r := [_, _]) [(0, 1), (1, 1)] Fx.ze32 Fx.bp32 ?_
  refine SeqK.q (q_call _ rfl Fx.fn166 rfl (checked_any ⟨0, [⟨1, 1, e.args[0].ix, 0, []⟩]⟩ (bok_v (by decide)) cnt_v) rfl) rfl rfl rfl ?_
  refine Z6 ?_
  refine Z6 ?_
  refine Z2 (r := [_, _]) Fx.ty32 ?_
  refine sB ?_
  exact aR (f2 (.cellL rfl rfl Fx.ty32 rfl rfl (.tmp rfl .nil)) (⟨by rw [leaf9_one h11 h01 hl1, lenE, if_neg (by simp only [List.length_map] at *; omega), if_neg (by omega), if_pos ⟨g54, h50⟩]; rfl, rfl⟩))
 refine AW.skip (sR (Z10 (r := .g [_, _, _, _, _, _, _, _]) Fx.ty26 ?_))
 refine Z12 Fx.fn163 (ops_of e hr.len ih) ?_
 refine Z6 ?_
 refine Z6 ?_
 refine Z2 (r := [_, _]) Fx.ty32 ?_
 refine sB ?_
 exact aR (f2 (.cellL rfl rfl Fx.ty32 rfl rfl (.tmp rfl .nil)) (⟨by rw [leaf9_one h11 h01 hl1, lenE, if_neg (by simp only [List.length_map] at *; omega), if_neg (by omega), if_neg (by omega)]; rfl, rfl⟩))
abbrev gd (r : Tm × Int) : Prop := r.2 = 0 → vldT r.1 = true ∧ r.1.cnt ≤ 20000
theorem of_of (e : Ex) (hr : rgE e) (hgd : ∀ a ∈ e.args, gd (ofE a)) (ih : ∀ a ∈ e.args, Pure Tryz.prog 138 [exC a] (trC (ofE a))) : Pure Tryz.prog 138 [exC e] (trC (ofE e)) := by
 intro H
 refine Spec.enter Tryz.func138 rfl ?_
 refine AW.wk (Wk.keep 94 [(0, .c (exC e))] [] (H) rfl ⟨rfl, trivial⟩ trivial (fun _ _ h => h) rfl) ?_
 refine sR (Z20 (r := [_, _, _, _, _, _, _, _]) ?_)
 refine Z16 (r := [_, _]) Fx.ze32 ?_
 refine sB ?_
 refine AW.seq (sR (Z1 Fx.fl26_0 ?_))
 refine Z0 Fx.ty3 ?_
 refine Z7 (AW.block (AW.seq (sR (Z9 ?_))))
 refine sB ?_
 refine cD ?_ ?_ <;> intro h11
 ·
  refine AW.skip ?_
  refine cD ?_ ?_ <;> intro h11
  ·
   refine sR (Z10 (r := .g [_, _, _, _, _, _, _, _]) Fx.ty26 ?_)
   refine Z12 Fx.fn162 (leaf_of e hr ih) ?_
   refine Z6 ?_
   refine Z6 ?_
   refine Z2 (r := [_, _]) Fx.ty32 ?_
   refine sB ?_
   exact aR (f2 (.cellL rfl rfl Fx.ty32 rfl rfl (.tmp rfl .nil)) (⟨by rw [ofE_eq e, stepE, if_pos (by omega)]; rfl, rfl⟩))
  exact absurd (by omega) h11
 refine sR (Z9 ?_)
 refine sB ?_
 refine cD ?_ ?_ <;> intro h11
 ·
  refine AW.skip ?_
  refine cD ?_ ?_ <;> intro h11
  ·
   refine sR (Z10 (r := .g [_, _, _, _, _, _, _, _]) Fx.ty26 ?_)
   refine Z12 Fx.fn162 (leaf_of e hr ih) ?_
   refine Z6 ?_
   refine Z6 ?_
   refine Z2 (r := [_, _]) Fx.ty32 ?_
   refine sB ?_
   exact aR (f2 (.cellL rfl rfl Fx.ty32 rfl rfl (.tmp rfl .nil)) (⟨by rw [ofE_eq e, stepE, if_pos (by omega)]; rfl, rfl⟩))
  exact absurd (by omega) h11
 refine AW.reg (Z9 ?_)
 refine sB ?_
 refine cD ?_ ?_ <;> intro h11
 ·
  refine sR (Z10 (r := .g [_, _, _, _, _, _, _, _]) Fx.ty26 ?_)
  refine Z12 Fx.fn162 (leaf_of e hr ih) ?_
  refine Z6 ?_
  refine Z6 ?_
  refine Z2 (r := [_, _]) Fx.ty32 ?_
  refine sB ?_
  exact aR (f2 (.cellL rfl rfl Fx.ty32 rfl rfl (.tmp rfl .nil)) (⟨by rw [ofE_eq e, stepE, if_pos (by omega)]; rfl, rfl⟩))
 refine sR (Z9 ?_)
 refine sB ?_
 refine cD ?_ ?_ <;> intro h19
 ·
  refine AW.seq (sR (Z1 Fx.fl26_5 ?_))
  refine Z0 Fx.ty24 ?_
  refine Z22 Fx.un24 ?_
  refine Z26 ?_
  refine Z7 ?_
  refine cD ?_ ?_ <;> intro h24
  ·
   refine sR (Z10 (r := .g [_, _, _, _, _, _, _, _]) Fx.ty26 ?_)
   refine Z12 Fx.fn163 (ops_of e hr.len ih) ?_
   refine Z6 ?_
   refine Z6 ?_
   refine Z2 (r := [_, _]) Fx.ty32 ?_
   refine sB ?_
   exact aR (f2 (.cellL rfl rfl Fx.ty32 rfl rfl (.tmp rfl .nil)) (⟨by rw [ofE_eq e, stepE, if_neg (by omega), if_pos h19, unR_ne (by rw [List.length_map]; rw [List.length_map] at h24; omega)]; rfl, rfl⟩))
  have hl1 : e.args.length = 1 := by rw [List.length_map] at h24; omega
  have h01 : 0 < e.args.length := by omega
  refine AW.skip (sR (Z1 Fx.fl26_5 ?_))
  refine Z0 Fx.ty24 ?_
  refine Z24 Fx.sl24 (idx_ex h01) ?_
  refine Z28 (.g [_, _, _, _, _, _, _, _]) Fx.ty26 ?_
  refine Z12 Fx.fn138 (ih _ (List.getElem_mem h01)) ?_
  refine Z39 ?_
  refine Z6 ?_
  refine Z6 ?_
  refine Z16 (r := [_, _]) Fx.ze32 ?_
  refine Z2 (r := [_, _]) Fx.ty32 ?_
  refine sB ?_
  refine AW.seq (sR (sM ?_))
  refine Z26 ?_
  refine Z7 ?_
  refine cD ?_ ?_ <;> intro h38
  ·
   refine sR (Z11 (zs := [_, _]) (r := [_, _]) [(0, 1), (1, 1)] Fx.ze32 Fx.bp32 ?_)
   refine Z47 39 XW.tm0 ?_
   refine sM ?_
   refine Z2 (r := [_, _]) Fx.ty32 ?_
   refine sB ?_
   exact aR (f2 (.cellL rfl rfl Fx.ty32 rfl rfl (.tmp rfl .nil)) (⟨by rw [ofE_eq e, stepE, if_neg (by omega), if_pos h19, unR_one (by simpa using h01) (by simpa using hl1)]; simp only [List.getElem_map]; rw [if_pos h38]; rfl, rfl⟩))
  have hg0 := hgd _ (List.getElem_mem h01) (Classical.not_not.1 h38)
  refine AW.skip (sR (Z10 (r := .g [_, _]) Fx.ty32 ?_))
  refine SeqK.q (q_call _ rfl Fx.fn139 rfl (scale_any _ (-1) (vldT_bok hg0.1) (vldT_one hg0.1) (by decide) (by omega)) rfl) rfl rfl rfl ?_
  refine Z6 ?_
  refine Z6 ?_
  refine Z2 (r := [_, _]) Fx.ty32 ?_
  refine sB ?_
  exact aR (f2 (.cellL rfl rfl Fx.ty32 rfl rfl (.tmp rfl .nil)) (⟨by rw [ofE_eq e, stepE, if_neg (by omega), if_pos h19, unR_one (by simpa using h01) (by simpa using hl1)]; simp only [List.getElem_map]; rw [if_neg h38]; rfl, rfl⟩))
 refine AW.seq (sR (Z9 ?_))
 refine sB ?_
 refine cD ?_ ?_ <;> intro h45
 ·
  refine AW.skip ?_
  refine cD ?_ ?_ <;> intro h45
  rotate_left
  ·
   exact absurd (by omega) h45
  refine AW.seq (sR (Z1 Fx.fl26_5 ?_))
  refine Z0 Fx.ty24 ?_
  refine Z22 Fx.un24 ?_
  refine Z26 ?_
  refine Z7 ?_
  refine cD ?_ ?_ <;> intro h54
  ·
   refine sR (Z10 (r := .g [_, _, _, _, _, _, _, _]) Fx.ty26 ?_)
   refine Z12 Fx.fn163 (ops_of e hr.len ih) ?_
   refine Z6 ?_
   refine Z6 ?_
   refine Z2 (r := [_, _]) Fx.ty32 ?_
   refine sB ?_
   exact aR (f2 (.cellL rfl rfl Fx.ty32 rfl rfl (.tmp rfl .nil)) (⟨by rw [ofE_eq e, stepE, if_neg (by omega), if_neg h19, if_pos (by omega), binR_ne (by rw [List.length_map]; rw [List.length_map] at h54; omega)]; rfl, rfl⟩))
  have hl2 : e.args.length = 2 := by rw [List.length_map] at h54; omega
  have h01 : 0 < e.args.length := by omega
  have h12 : 1 < e.args.length := by omega
  refine AW.skip (sR (Z1 Fx.fl26_5 ?_))
  refine Z0 Fx.ty24 ?_
  refine Z24 Fx.sl24 (idx_ex h01) ?_
  refine Z28 (.g [_, _, _, _, _, _, _, _]) Fx.ty26 ?_
  refine Z12 Fx.fn138 (ih _ (List.getElem_mem h01)) ?_
  refine Z39 ?_
  refine Z6 ?_
  refine Z6 ?_
  refine Z16 (r := [_, _]) Fx.ze32 ?_
  refine Z2 (r := [_, _]) Fx.ty32 ?_
  refine sB ?_
  refine AW.seq (sR (sM ?_))
  refine Z26 ?_
  refine Z7 ?_
  refine cD ?_ ?_ <;> intro h68
  ·
   refine sR (Z11 (zs := [_, _]) (r := [_, _]) [(0, 1), (1, 1)] Fx.ze32 Fx.bp32 ?_)
   refine Z47 69 XW.tm0 ?_
   refine sM ?_
   refine Z2 (r := [_, _]) Fx.ty32 ?_
   refine sB ?_
   exact aR (f2 (.cellL rfl rfl Fx.ty32 rfl rfl (.tmp rfl .nil)) (⟨by rw [ofE_eq e, stepE, if_neg (by omega), if_neg h19, if_pos (by omega), binR_two (by simpa using h01) (by simpa using h12) (by simpa using hl2)]; simp only [List.getElem_map]; rw [if_pos h68]; rfl, rfl⟩))
  have hg0 := hgd _ (List.getElem_mem h01) (Classical.not_not.1 h68)
  refine AW.skip (sR (Z1 Fx.fl26_5 ?_))
  refine Z0 Fx.ty24 ?_
  refine Z24 Fx.sl24 (idx_ex h12) ?_
  refine Z28 (.g [_, _, _, _, _, _, _, _]) Fx.ty26 ?_
  refine Z12 Fx.fn138 (ih _ (List.getElem_mem h12)) ?_
  refine Z39 ?_
  refine Z6 ?_
  refine Z6 ?_
  refine Z16 (r := [_, _]) Fx.ze32 ?_
  refine Z2 (r := [_, _]) Fx.ty32 ?_
  refine sB ?_
  refine AW.seq (sR (sM ?_))
  refine Z26 ?_
  refine Z7 ?_
  refine cD ?_ ?_ <;> intro h80
  ·
   refine sR (Z11 (zs := [_, _]) (r := [_, _]) [(0, 1), (1, 1)] Fx.ze32 Fx.bp32 ?_)
   refine Z47 81 XW.tm0 ?_
   refine sM ?_
   refine Z2 (r := [_, _]) Fx.ty32 ?_
   refine sB ?_
   exact aR (f2 (.cellL rfl rfl Fx.ty32 rfl rfl (.tmp rfl .nil)) (⟨by rw [ofE_eq e, stepE, if_neg (by omega), if_neg h19, if_pos (by omega), binR_two (by simpa using h01) (by simpa using h12) (by simpa using hl2)]; simp only [List.getElem_map]; rw [if_neg h68, if_pos h80]; rfl, rfl⟩))
  have hg1 := hgd _ (List.getElem_mem h12) (Classical.not_not.1 h80)
  refine AW.skip (sR (Z1 Fx.fl26_0 ?_))
  refine Z0 Fx.ty3 ?_
  refine Z10 (r := .g [_, _]) Fx.ty32 ?_
  refine Z10 (r := .g [_, _]) Fx.ty32 ?_
  refine SeqK.q (q_call _ rfl Fx.fn164 rfl (comb_any e.op _ _ hg0.1 hg1.1 (by omega)) rfl) rfl rfl rfl ?_
  refine Z6 ?_
  refine Z6 ?_
  refine Z2 (r := [_, _]) Fx.ty32 ?_
  refine sB ?_
  exact aR (f2 (.cellL rfl rfl Fx.ty32 rfl rfl (.tmp rfl .nil)) (⟨by rw [ofE_eq e, stepE, if_neg (by omega), if_neg h19, if_pos (by omega), binR_two (by simpa using h01) (by simpa using h12) (by simpa using hl2)]; simp only [List.getElem_map]; rw [if_neg h68, if_neg h80]; rfl, rfl⟩))
 refine sR (Z9 ?_)
 refine sB ?_
 refine cD ?_ ?_ <;> intro h45
 ·
  refine AW.skip ?_
  refine cD ?_ ?_ <;> intro h45
  rotate_left
  ·
   exact absurd (by omega) h45
  refine AW.seq (sR (Z1 Fx.fl26_5 ?_))
  refine Z0 Fx.ty24 ?_
  refine Z22 Fx.un24 ?_
  refine Z26 ?_
  refine Z7 ?_
  refine cD ?_ ?_ <;> intro h54
  ·
   refine sR (Z10 (r := .g [_, _, _, _, _, _, _, _]) Fx.ty26 ?_)
   refine Z12 Fx.fn163 (ops_of e hr.len ih) ?_
   refine Z6 ?_
   refine Z6 ?_
   refine Z2 (r := [_, _]) Fx.ty32 ?_
   refine sB ?_
   exact aR (f2 (.cellL rfl rfl Fx.ty32 rfl rfl (.tmp rfl .nil)) (⟨by rw [ofE_eq e, stepE, if_neg (by omega), if_neg h19, if_pos (by omega), binR_ne (by rw [List.length_map]; rw [List.length_map] at h54; omega)]; rfl, rfl⟩))
  have hl2 : e.args.length = 2 := by rw [List.length_map] at h54; omega
  have h01 : 0 < e.args.length := by omega
  have h12 : 1 < e.args.length := by omega
  refine AW.skip (sR (Z1 Fx.fl26_5 ?_))
  refine Z0 Fx.ty24 ?_
  refine Z24 Fx.sl24 (idx_ex h01) ?_
  refine Z28 (.g [_, _, _, _, _, _, _, _]) Fx.ty26 ?_
  refine Z12 Fx.fn138 (ih _ (List.getElem_mem h01)) ?_
  refine Z39 ?_
  refine Z6 ?_
  refine Z6 ?_
  refine Z16 (r := [_, _]) Fx.ze32 ?_
  refine Z2 (r := [_, _]) Fx.ty32 ?_
  refine sB ?_
  refine AW.seq (sR (sM ?_))
  refine Z26 ?_
  refine Z7 ?_
  refine cD ?_ ?_ <;> intro h68
  ·
   refine sR (Z11 (zs := [_, _]) (r := [_, _]) [(0, 1), (1, 1)] Fx.ze32 Fx.bp32 ?_)
   refine Z47 69 XW.tm0 ?_
   refine sM ?_
   refine Z2 (r := [_, _]) Fx.ty32 ?_
   refine sB ?_
   exact aR (f2 (.cellL rfl rfl Fx.ty32 rfl rfl (.tmp rfl .nil)) (⟨by rw [ofE_eq e, stepE, if_neg (by omega), if_neg h19, if_pos (by omega), binR_two (by simpa using h01) (by simpa using h12) (by simpa using hl2)]; simp only [List.getElem_map]; rw [if_pos h68]; rfl, rfl⟩))
  have hg0 := hgd _ (List.getElem_mem h01) (Classical.not_not.1 h68)
  refine AW.skip (sR (Z1 Fx.fl26_5 ?_))
  refine Z0 Fx.ty24 ?_
  refine Z24 Fx.sl24 (idx_ex h12) ?_
  refine Z28 (.g [_, _, _, _, _, _, _, _]) Fx.ty26 ?_
  refine Z12 Fx.fn138 (ih _ (List.getElem_mem h12)) ?_
  refine Z39 ?_
  refine Z6 ?_
  refine Z6 ?_
  refine Z16 (r := [_, _]) Fx.ze32 ?_
  refine Z2 (r := [_, _]) Fx.ty32 ?_
  refine sB ?_
  refine AW.seq (sR (sM ?_))
  refine Z26 ?_
  refine Z7 ?_
  refine cD ?_ ?_ <;> intro h80
  ·
   refine sR (Z11 (zs := [_, _]) (r := [_, _]) [(0, 1), (1, 1)] Fx.ze32 Fx.bp32 ?_)
   refine Z47 81 XW.tm0 ?_
   refine sM ?_
   refine Z2 (r := [_, _]) Fx.ty32 ?_
   refine sB ?_
   exact aR (f2 (.cellL rfl rfl Fx.ty32 rfl rfl (.tmp rfl .nil)) (⟨by rw [ofE_eq e, stepE, if_neg (by omega), if_neg h19, if_pos (by omega), binR_two (by simpa using h01) (by simpa using h12) (by simpa using hl2)]; simp only [List.getElem_map]; rw [if_neg h68, if_pos h80]; rfl, rfl⟩))
  have hg1 := hgd _ (List.getElem_mem h12) (Classical.not_not.1 h80)
  refine AW.skip (sR (Z1 Fx.fl26_0 ?_))
  refine Z0 Fx.ty3 ?_
  refine Z10 (r := .g [_, _]) Fx.ty32 ?_
  refine Z10 (r := .g [_, _]) Fx.ty32 ?_
  refine SeqK.q (q_call _ rfl Fx.fn164 rfl (comb_any e.op _ _ hg0.1 hg1.1 (by omega)) rfl) rfl rfl rfl ?_
  refine Z6 ?_
  refine Z6 ?_
  refine Z2 (r := [_, _]) Fx.ty32 ?_
  refine sB ?_
  exact aR (f2 (.cellL rfl rfl Fx.ty32 rfl rfl (.tmp rfl .nil)) (⟨by rw [ofE_eq e, stepE, if_neg (by omega), if_neg h19, if_pos (by omega), binR_two (by simpa using h01) (by simpa using h12) (by simpa using hl2)]; simp only [List.getElem_map]; rw [if_neg h68, if_neg h80]; rfl, rfl⟩))
 refine sR (Z9 ?_)
 refine sB ?_
 refine cD ?_ ?_ <;> intro h45
 ·
  refine AW.skip ?_
  refine cD ?_ ?_ <;> intro h45
  rotate_left
  ·
   exact absurd (by omega) h45
  refine AW.seq (sR (Z1 Fx.fl26_5 ?_))
  refine Z0 Fx.ty24 ?_
  refine Z22 Fx.un24 ?_
  refine Z26 ?_
  refine Z7 ?_
  refine cD ?_ ?_ <;> intro h54
  ·
   refine sR (Z10 (r := .g [_, _, _, _, _, _, _, _]) Fx.ty26 ?_)
   refine Z12 Fx.fn163 (ops_of e hr.len ih) ?_
   refine Z6 ?_
   refine Z6 ?_
   refine Z2 (r := [_, _]) Fx.ty32 ?_
   refine sB ?_
   exact aR (f2 (.cellL rfl rfl Fx.ty32 rfl rfl (.tmp rfl .nil)) (⟨by rw [ofE_eq e, stepE, if_neg (by omega), if_neg h19, if_pos (by omega), binR_ne (by rw [List.length_map]; rw [List.length_map] at h54; omega)]; rfl, rfl⟩))
  have hl2 : e.args.length = 2 := by rw [List.length_map] at h54; omega
  have h01 : 0 < e.args.length := by omega
  have h12 : 1 < e.args.length := by omega
  refine AW.skip (sR (Z1 Fx.fl26_5 ?_))
  refine Z0 Fx.ty24 ?_
  refine Z24 Fx.sl24 (idx_ex h01) ?_
  refine Z28 (.g [_, _, _, _, _, _, _, _]) Fx.ty26 ?_
  refine Z12 Fx.fn138 (ih _ (List.getElem_mem h01)) ?_
  refine Z39 ?_
  refine Z6 ?_
  refine Z6 ?_
  refine Z16 (r := [_, _]) Fx.ze32 ?_
  refine Z2 (r := [_, _]) Fx.ty32 ?_
  refine sB ?_
  refine AW.seq (sR (sM ?_))
  refine Z26 ?_
  refine Z7 ?_
  refine cD ?_ ?_ <;> intro h68
  ·
   refine sR (Z11 (zs := [_, _]) (r := [_, _]) [(0, 1), (1, 1)] Fx.ze32 Fx.bp32 ?_)
   refine Z47 69 XW.tm0 ?_
   refine sM ?_
   refine Z2 (r := [_, _]) Fx.ty32 ?_
   refine sB ?_
   exact aR (f2 (.cellL rfl rfl Fx.ty32 rfl rfl (.tmp rfl .nil)) (⟨by rw [ofE_eq e, stepE, if_neg (by omega), if_neg h19, if_pos (by omega), binR_two (by simpa using h01) (by simpa using h12) (by simpa using hl2)]; simp only [List.getElem_map]; rw [if_pos h68]; rfl, rfl⟩))
  have hg0 := hgd _ (List.getElem_mem h01) (Classical.not_not.1 h68)
  refine AW.skip (sR (Z1 Fx.fl26_5 ?_))
  refine Z0 Fx.ty24 ?_
  refine Z24 Fx.sl24 (idx_ex h12) ?_
  refine Z28 (.g [_, _, _, _, _, _, _, _]) Fx.ty26 ?_
  refine Z12 Fx.fn138 (ih _ (List.getElem_mem h12)) ?_
  refine Z39 ?_
  refine Z6 ?_
  refine Z6 ?_
  refine Z16 (r := [_, _]) Fx.ze32 ?_
  refine Z2 (r := [_, _]) Fx.ty32 ?_
  refine sB ?_
  refine AW.seq (sR (sM ?_))
  refine Z26 ?_
  refine Z7 ?_
  refine cD ?_ ?_ <;> intro h80
  ·
   refine sR (Z11 (zs := [_, _]) (r := [_, _]) [(0, 1), (1, 1)] Fx.ze32 Fx.bp32 ?_)
   refine Z47 81 XW.tm0 ?_
   refine sM ?_
   refine Z2 (r := [_, _]) Fx.ty32 ?_
   refine sB ?_
   exact aR (f2 (.cellL rfl rfl Fx.ty32 rfl rfl (.tmp rfl .nil)) (⟨by rw [ofE_eq e, stepE, if_neg (by omega), if_neg h19, if_pos (by omega), binR_two (by simpa using h01) (by simpa using h12) (by simpa using hl2)]; simp only [List.getElem_map]; rw [if_neg h68, if_pos h80]; rfl, rfl⟩))
  have hg1 := hgd _ (List.getElem_mem h12) (Classical.not_not.1 h80)
  refine AW.skip (sR (Z1 Fx.fl26_0 ?_))
  refine Z0 Fx.ty3 ?_
  refine Z10 (r := .g [_, _]) Fx.ty32 ?_
  refine Z10 (r := .g [_, _]) Fx.ty32 ?_
  refine SeqK.q (q_call _ rfl Fx.fn164 rfl (comb_any e.op _ _ hg0.1 hg1.1 (by omega)) rfl) rfl rfl rfl ?_
  refine Z6 ?_
  refine Z6 ?_
  refine Z2 (r := [_, _]) Fx.ty32 ?_
  refine sB ?_
  exact aR (f2 (.cellL rfl rfl Fx.ty32 rfl rfl (.tmp rfl .nil)) (⟨by rw [ofE_eq e, stepE, if_neg (by omega), if_neg h19, if_pos (by omega), binR_two (by simpa using h01) (by simpa using h12) (by simpa using hl2)]; simp only [List.getElem_map]; rw [if_neg h68, if_neg h80]; rfl, rfl⟩))
 refine sR (Z9 ?_)
 refine sB ?_
 refine cD ?_ ?_ <;> intro h45
 ·
  refine AW.skip ?_
  refine cD ?_ ?_ <;> intro h45
  rotate_left
  ·
   exact absurd (by omega) h45
  refine AW.seq (sR (Z1 Fx.fl26_5 ?_))
  refine Z0 Fx.ty24 ?_
  refine Z22 Fx.un24 ?_
  refine Z26 ?_
  refine Z7 ?_
  refine cD ?_ ?_ <;> intro h54
  ·
   refine sR (Z10 (r := .g [_, _, _, _, _, _, _, _]) Fx.ty26 ?_)
   refine Z12 Fx.fn163 (ops_of e hr.len ih) ?_
   refine Z6 ?_
   refine Z6 ?_
   refine Z2 (r := [_, _]) Fx.ty32 ?_
   refine sB ?_
   exact aR (f2 (.cellL rfl rfl Fx.ty32 rfl rfl (.tmp rfl .nil)) (⟨by rw [ofE_eq e, stepE, if_neg (by omega), if_neg h19, if_pos (by omega), binR_ne (by rw [List.length_map]; rw [List.length_map] at h54; omega)]; rfl, rfl⟩))
  have hl2 : e.args.length = 2 := by rw [List.length_map] at h54; omega
  have h01 : 0 < e.args.length := by omega
  have h12 : 1 < e.args.length := by omega
  refine AW.skip (sR (Z1 Fx.fl26_5 ?_))
  refine Z0 Fx.ty24 ?_
  refine Z24 Fx.sl24 (idx_ex h01) ?_
  refine Z28 (.g [_, _, _, _, _, _, _, _]) Fx.ty26 ?_
  refine Z12 Fx.fn138 (ih _ (List.getElem_mem h01)) ?_
  refine Z39 ?_
  refine Z6 ?_
  refine Z6 ?_
  refine Z16 (r := [_, _]) Fx.ze32 ?_
  refine Z2 (r := [_, _]) Fx.ty32 ?_
  refine sB ?_
  refine AW.seq (sR (sM ?_))
  refine Z26 ?_
  refine Z7 ?_
  refine cD ?_ ?_ <;> intro h68
  ·
   refine sR (Z11 (zs := [_, _]) (r := [_, _]) [(0, 1), (1, 1)] Fx.ze32 Fx.bp32 ?_)
   refine Z47 69 XW.tm0 ?_
   refine sM ?_
   refine Z2 (r := [_, _]) Fx.ty32 ?_
   refine sB ?_
   exact aR (f2 (.cellL rfl rfl Fx.ty32 rfl rfl (.tmp rfl .nil)) (⟨by rw [ofE_eq e, stepE, if_neg (by omega), if_neg h19, if_pos (by omega), binR_two (by simpa using h01) (by simpa using h12) (by simpa using hl2)]; simp only [List.getElem_map]; rw [if_pos h68]; rfl, rfl⟩))
  have hg0 := hgd _ (List.getElem_mem h01) (Classical.not_not.1 h68)
  refine AW.skip (sR (Z1 Fx.fl26_5 ?_))
  refine Z0 Fx.ty24 ?_
  refine Z24 Fx.sl24 (idx_ex h12) ?_
  refine Z28 (.g [_, _, _, _, _, _, _, _]) Fx.ty26 ?_
  refine Z12 Fx.fn138 (ih _ (List.getElem_mem h12)) ?_
  refine Z39 ?_
  refine Z6 ?_
  refine Z6 ?_
  refine Z16 (r := [_, _]) Fx.ze32 ?_
  refine Z2 (r := [_, _]) Fx.ty32 ?_
  refine sB ?_
  refine AW.seq (sR (sM ?_))
  refine Z26 ?_
  refine Z7 ?_
  refine cD ?_ ?_ <;> intro h80
  ·
   refine sR (Z11 (zs := [_, _]) (r := [_, _]) [(0, 1), (1, 1)] Fx.ze32 Fx.bp32 ?_)
   refine Z47 81 XW.tm0 ?_
   refine sM ?_
   refine Z2 (r := [_, _]) Fx.ty32 ?_
   refine sB ?_
   exact aR (f2 (.cellL rfl rfl Fx.ty32 rfl rfl (.tmp rfl .nil)) (⟨by rw [ofE_eq e, stepE, if_neg (by omega), if_neg h19, if_pos (by omega), binR_two (by simpa using h01) (by simpa using h12) (by simpa using hl2)]; simp only [List.getElem_map]; rw [if_neg h68, if_pos h80]; rfl, rfl⟩))
  have hg1 := hgd _ (List.getElem_mem h12) (Classical.not_not.1 h80)
  refine AW.skip (sR (Z1 Fx.fl26_0 ?_))
  refine Z0 Fx.ty3 ?_
  refine Z10 (r := .g [_, _]) Fx.ty32 ?_
  refine Z10 (r := .g [_, _]) Fx.ty32 ?_
  refine SeqK.q (q_call _ rfl Fx.fn164 rfl (comb_any e.op _ _ hg0.1 hg1.1 (by omega)) rfl) rfl rfl rfl ?_
  refine Z6 ?_
  refine Z6 ?_
  refine Z2 (r := [_, _]) Fx.ty32 ?_
  refine sB ?_
  exact aR (f2 (.cellL rfl rfl Fx.ty32 rfl rfl (.tmp rfl .nil)) (⟨by rw [ofE_eq e, stepE, if_neg (by omega), if_neg h19, if_pos (by omega), binR_two (by simpa using h01) (by simpa using h12) (by simpa using hl2)]; simp only [List.getElem_map]; rw [if_neg h68, if_neg h80]; rfl, rfl⟩))
 refine AW.reg (Z9 ?_)
 refine sB ?_
 refine cD ?_ ?_ <;> intro h45
 rotate_left
 ·
  refine AW.skip (sR (Z10 (r := .g [_, _, _, _, _, _, _, _]) Fx.ty26 ?_))
  refine Z12 Fx.fn163 (ops_of e hr.len ih) ?_
  refine Z6 ?_
  refine Z6 ?_
  refine Z2 (r := [_, _]) Fx.ty32 ?_
  refine sB ?_
  exact aR (f2 (.cellL rfl rfl Fx.ty32 rfl rfl (.tmp rfl .nil)) (⟨by rw [ofE_eq e, stepE, if_neg (by omega), if_neg h19, if_neg (by omega)]; rfl, rfl⟩))
 refine AW.seq (sR (Z1 Fx.fl26_5 ?_))
 refine Z0 Fx.ty24 ?_
 refine Z22 Fx.un24 ?_
 refine Z26 ?_
 refine Z7 ?_
 refine cD ?_ ?_ <;> intro h54
 ·
  refine sR (Z10 (r := .g [_, _, _, _, _, _, _, _]) Fx.ty26 ?_)
  refine Z12 Fx.fn163 (ops_of e hr.len ih) ?_
  refine Z6 ?_
  refine Z6 ?_
  refine Z2 (r := [_, _]) Fx.ty32 ?_
  refine sB ?_
  exact aR (f2 (.cellL rfl rfl Fx.ty32 rfl rfl (.tmp rfl .nil)) (⟨by rw [ofE_eq e, stepE, if_neg (by omega), if_neg h19, if_pos (by omega), binR_ne (by rw [List.length_map]; rw [List.length_map] at h54; omega)]; rfl, rfl⟩))
 have hl2 : e.args.length = 2 := by rw [List.length_map] at h54; omega
 have h01 : 0 < e.args.length := by omega
 have h12 : 1 < e.args.length := by omega
 refine AW.skip (sR (Z1 Fx.fl26_5 ?_))
 refine Z0 Fx.ty24 ?_
 refine Z24 Fx.sl24 (idx_ex h01) ?_
 refine Z28 (.g [_, _, _, _, _, _, _, _]) Fx.ty26 ?_
 refine Z12 Fx.fn138 (ih _ (List.getElem_mem h01)) ?_
 refine Z39 ?_
 refine Z6 ?_
 refine Z6 ?_
 refine Z16 (r := [_, _]) Fx.ze32 ?_
 refine Z2 (r := [_, _]) Fx.ty32 ?_
 refine sB ?_
 refine AW.seq (sR (sM ?_))
 refine Z26 ?_
 refine Z7 ?_
 refine cD ?_ ?_ <;> intro h68
 ·
  refine sR (Z11 (zs := [_, _]) (r := [_, _]) [(0, 1), (1, 1)] Fx.ze32 Fx.bp32 ?_)
  refine Z47 69 XW.tm0 ?_
  refine sM ?_
  refine Z2 (r := [_, _]) Fx.ty32 ?_
  refine sB ?_
  exact aR (f2 (.cellL rfl rfl Fx.ty32 rfl rfl (.tmp rfl .nil)) (⟨by rw [ofE_eq e, stepE, if_neg (by omega), if_neg h19, if_pos (by omega), binR_two (by simpa using h01) (by simpa using h12) (by simpa using hl2)]; simp only [List.getElem_map]; rw [if_pos h68]; rfl, rfl⟩))
 have hg0 := hgd _ (List.getElem_mem h01) (Classical.not_not.1 h68)
 refine AW.skip (sR (Z1 Fx.fl26_5 ?_))
 refine Z0 Fx.ty24 ?_
 refine Z24 Fx.sl24 (idx_ex h12) ?_
 refine Z28 (.g [_, _, _, _, _, _, _, _]) Fx.ty26 ?_
 refine Z12 Fx.fn138 (ih _ (List.getElem_mem h12)) ?_
 refine Z39 ?_
 refine Z6 ?_
 refine Z6 ?_
 refine Z16 (r := [_, _]) Fx.ze32 ?_
 refine Z2 (r := [_, _]) Fx.ty32 ?_
 refine sB ?_
 refine AW.seq (sR (sM ?_))
 refine Z26 ?_
 refine Z7 ?_
 refine cD ?_ ?_ <;> intro h80
 ·
  refine sR (Z11 (zs := [_, _]) (r := [_, _]) [(0, 1), (1, 1)] Fx.ze32 Fx.bp32 ?_)
  refine Z47 81 XW.tm0 ?_
  refine sM ?_
  refine Z2 (r := [_, _]) Fx.ty32 ?_
  refine sB ?_
  exact aR (f2 (.cellL rfl rfl Fx.ty32 rfl rfl (.tmp rfl .nil)) (⟨by rw [ofE_eq e, stepE, if_neg (by omega), if_neg h19, if_pos (by omega), binR_two (by simpa using h01) (by simpa using h12) (by simpa using hl2)]; simp only [List.getElem_map]; rw [if_neg h68, if_pos h80]; rfl, rfl⟩))
 have hg1 := hgd _ (List.getElem_mem h12) (Classical.not_not.1 h80)
 refine AW.skip (sR (Z1 Fx.fl26_0 ?_))
 refine Z0 Fx.ty3 ?_
 refine Z10 (r := .g [_, _]) Fx.ty32 ?_
 refine Z10 (r := .g [_, _]) Fx.ty32 ?_
 refine SeqK.q (q_call _ rfl Fx.fn164 rfl (comb_any e.op _ _ hg0.1 hg1.1 (by omega)) rfl) rfl rfl rfl ?_
 refine Z6 ?_
 refine Z6 ?_
 refine Z2 (r := [_, _]) Fx.ty32 ?_
 refine sB ?_
 exact aR (f2 (.cellL rfl rfl Fx.ty32 rfl rfl (.tmp rfl .nil)) (⟨by rw [ofE_eq e, stepE, if_neg (by omega), if_neg h19, if_pos (by omega), binR_two (by simpa using h01) (by simpa using h12) (by simpa using hl2)]; simp only [List.getElem_map]; rw [if_neg h68, if_neg h80]; rfl, rfl⟩))
mutual
def okE : Ex → Prop
  | .mk _ _ _ _ _ vn _ args => (R64 vn ∧ args.length ≤ 1000000) ∧ okEs args
def okEs : List Ex → Prop
  | [] => True
  | a :: r => (okE a ∧ gd (ofE a) ∧ a.vs.size ≤ 1152921504606846976) ∧ okEs r
end
theorem okEs_iff {l : List Ex} : okEs l ↔ ∀ a ∈ l, okE a ∧ gd (ofE a) ∧ a.vs.size ≤ 1152921504606846976 := by
  induction l with
  | nil => simp [okEs]
  | cons a r ih => simp [okEs, ih]
theorem of_any (e : Ex) : okE e → Pure Tryz.prog 138 [exC e] (trC (ofE e)) := by
  induction e using Ex.ind with
  | h e ih =>
    intro h
    cases e with | mk op tb nm ix vk vn vs args =>
    simp only [okE, okEs_iff] at h
    exact of_of _ ⟨h.1.1, h.1.2, fun a ha => (h.2 a ha).2.2⟩ (fun a ha => (h.2 a ha).2.1) fun a ha => ih a ha (h.2 a ha).1
theorem XW.ex0 {a b c d e f g : A} : XW (.c (.g [a, b, c, d, e, f, g, .t (.v (.slice none 0 0))])) (.c (.g [a, b, c, d, e, f, g, .t (.sl .un 8 [])])) := ⟨rfl, fun cx v h => by
  obtain ⟨us, rfl, h1, h2⟩ := h
  refine ⟨us, rfl, by simpa using h1, fun i x v hx hv => ?_⟩
  match i with
  | 0 => simp at hx; subst hx; exact h2 0 _ v rfl hv
  | 1 => simp at hx; subst hx; exact h2 1 _ v rfl hv
  | 2 => simp at hx; subst hx; exact h2 2 _ v rfl hv
  | 3 => simp at hx; subst hx; exact h2 3 _ v rfl hv
  | 4 => simp at hx; subst hx; exact h2 4 _ v rfl hv
  | 5 => simp at hx; subst hx; exact h2 5 _ v rfl hv
  | 6 => simp at hx; subst hx; exact h2 6 _ v rfl hv
  | 7 =>
    simp at hx; subst hx
    exact XW.nilU.2 cx v (h2 7 _ v rfl hv)
  | i + 8 => simp at hx⟩
theorem xwE2 {a b : Ex} : XW (.c (.a (.t (.sl .nn 8 [exL a, exL b])))) (.c (.a (.t (.sl .un 8 ([a, b].map exT'))))) := by
  have : [a, b].map exT' = [exL a, exL b] := by simp [exT_eq]
  rw [this]; exact XW.un
abbrev eN (n : Int) : Ex := .mk 1 ⟨#[]⟩ ⟨#[]⟩ 0 1 n ⟨#[]⟩ []
abbrev eV (i : Int) : Ex := .mk 2 ⟨#[]⟩ ⟨#[]⟩ i 0 0 ⟨#[]⟩ []
abbrev eB (op : Int) (l : List Ex) : Ex := .mk op ⟨#[]⟩ ⟨#[]⟩ 0 0 0 ⟨#[]⟩ l
abbrev ex1 : Ex := eB 5 [eB 6 [eN 3, eB 4 [eV 0, eN 2]], eV 0]
abbrev ex2 : Ex := eB 8 [eV 1, eN 4]
theorem ok1 : okE ex1 := by
  simp only [ex1, eB, eN, eV, okE, okEs]
  decide +kernel
theorem ok2 : okE ex2 := by
  simp only [ex2, eB, eN, eV, okE, okEs]
  decide +kernel
theorem num_v {k v : Int} (hk : k ≠ 2) (hv : 0 ≤ v ∧ v < 100) {a : Int} (ha : a.natAbs < 100) : NumP (· < 100) ⟨a, k, v, 0, []⟩ :=
  ⟨⟨ha, by show -9223372036854775808 ≤ a ∧ a ≤ 9223372036854775807; omega⟩, ⟨hv.1, by show v.toNat < 100; omega⟩, fun h => absurd h hk⟩
abbrev w (n : Int) : Int := IntKind.i64.wrap n
abbrev rvT (v : RV) : List E.T := [.v (.int .i64 v.k), .v (.int .i64 v.n), .v (.string v.s)]
abbrev rowC (z : Nz) (r : List RV) : C := .a (.t (.sl z 3 (r.map rvT)))
def valV (r : List RV) (k v : Int) : Int × Bool :=
  if (r.length : Int) ≤ v then (0, false)
  else if k = 1 then (((r.getD v.toNat ⟨0, 0, ⟨#[]⟩⟩).s.size : Int), decide ((r.getD v.toNat ⟨0, 0, ⟨#[]⟩⟩).k = 2))
  else ((r.getD v.toNat ⟨0, 0, ⟨#[]⟩⟩).n, decide ((r.getD v.toNat ⟨0, 0, ⟨#[]⟩⟩).k = 1))
mutual
def valT (r : List RV) : Tm → Int × Bool
  | .mk c ps => valPs r ps c
def valPs (r : List RV) : List Pt → Int → Int × Bool
  | [], s => (s, true)
  | p :: l, s => if (valP r p).2 = true then valPs r l (w (s + w (p.coef * (valP r p).1))) else (0, false)
def valP (r : List RV) : Pt → Int × Bool
  | .mk _ k v b of => if k = 2 then (if (valO r of).2 = true then ((valO r of).1 / b, true) else (0, false)) else valV r k v
def valO (r : List RV) : List Tm → Int × Bool
  | [] => (0, false)
  | o :: _ => valT r o
end
theorem valT_eq (r : List RV) (t : Tm) : valT r t = valPs r t.ps t.c := by cases t; rw [valT]
theorem valP_eq (r : List RV) (p : Pt) : valP r p = if p.kind = 2 then (if (valO r p.of).2 = true then ((valO r p.of).1 / p.dv, true) else (0, false)) else valV r p.kind p.var := by cases p; rw [valP]
theorem valO_eq {r : List RV} {l : List Tm} (h : 0 < l.length) : valO r l = valT r l[0] := by
  cases l with
  | nil => simp at h
  | cons o s => rw [valO]; rfl
theorem valPs_drop {r : List RV} {l : List Pt} {i : Nat} (hi : i < l.length) (s : Int) : valPs r (l.drop i) s = if (valP r l[i]).2 = true then valPs r (l.drop (i + 1)) (w (s + w (l[i].coef * (valP r l[i]).1))) else (0, false) := by
  rw [List.drop_eq_getElem_cons hi, valPs]
theorem w_R (n : Int) : R64 (w n) := by
  show -9223372036854775808 ≤ IntKind.i64.wrap n ∧ IntKind.i64.wrap n ≤ 9223372036854775807
  rw [IntKind.wrap_i64]; omega
theorem valPs_R {r : List RV} : ∀ {l : List Pt} {s : Int}, R64 s → R64 (valPs r l s).1
  | [], s, h => by rw [valPs]; exact h
  | p :: l, s, h => by
    rw [valPs]
    split
    · exact valPs_R (w_R _)
    · show -9223372036854775808 ≤ (0 : Int) ∧ (0 : Int) ≤ 9223372036854775807; decide
theorem valT_R {r : List RV} {t : Tm} (h : R64 t.c) : R64 (valT r t).1 := by rw [valT_eq]; exact valPs_R h
abbrev vrC (r : Int × Bool) : X := .tup [iC r.1, bC r.2]
structure vok (p : Pt) : Prop where
  var : p.kind ≠ 2 → 0 ≤ p.var
  dv : p.kind = 2 → 1 ≤ p.dv ∧ ∃ h : 0 < p.of.length, vldT p.of[0] = true
  two : p.kind = 0 ∨ p.kind = 1 ∨ p.kind = 2
theorem vldP_vok {p : Pt} (h : vldP p = true) : vok p := by
  have hb := vldP_bok h
  rw [vldP_eq] at h
  split at h
  · rename_i hk
    simp only [Bool.and_eq_true, decide_eq_true_eq] at h
    exact ⟨fun _ => h.2.1.1, fun hk2 => by omega, by omega⟩
  · simp only [Bool.and_eq_true, decide_eq_true_eq] at h
    have hk : p.kind = 2 := h.2.1.1.1.1
    exact ⟨fun hn => absurd hk hn, fun hk2 => ⟨(hb hk2).1.1, (hb hk2).2⟩, .inr (.inr hk)⟩
theorem valV_at {r : List RV} {k v : Int} (h0 : 0 ≤ v) (h : v.toNat < r.length) : valV r k v = if k = 1 then ((r[v.toNat].s.size : Int), decide (r[v.toNat].k = 2)) else (r[v.toNat].n, decide (r[v.toNat].k = 1)) := by
  have e : r.getD v.toNat ⟨0, 0, ⟨#[]⟩⟩ = r[v.toNat] := by simp [List.getD, List.getElem?_eq_getElem h]
  rw [valV, if_neg (by omega), e]
theorem valV_out {r : List RV} {k v : Int} (h : (r.length : Int) ≤ v) : valV r k v = (0, false) := by rw [valV, if_pos h]
theorem valP2 {r : List RV} {p : Pt} (hk : p.kind = 2) (hp : 0 < p.of.length) : valP r p = if (valT r p.of[0]).2 = true then ((valT r p.of[0]).1 / p.dv, true) else (0, false) := by rw [valP_eq, if_pos hk, valO_eq hp]
theorem valPV {r : List RV} {p : Pt} (hk : p.kind ≠ 2) : valP r p = valV r p.kind p.var := by rw [valP_eq, if_neg hk]
theorem vre {n : Int} {b : Bool} {r : Int × Bool} (h : (n, b) = r) : X.tup [iC n, bC b] = vrC r := by rw [← h]
theorem vpart_any (r : List RV) (z : Nz) (p : Pt) (h : vok p) (ih : ∀ o ∈ p.of, vldT o = true → Pure Tryz.prog 54 [tmC o, rowC z r] (vrC (valT r o))) : Pure Tryz.prog 81 [ptC p, rowC z r] (vrC (valP r p)) := by
 intro H
 refine Spec.enter Tryz.func81 rfl ?_
 refine AW.wk (Wk.keep 51 [(0, .c (ptC p)), (1, .c (rowC z r))] [] (H) rfl ⟨rfl, rfl, trivial⟩ trivial (fun _ _ h => h) rfl) ?_
 refine sR (Z20 (r := [_, _, _, _, _]) ?_)
 refine sA ?_
 refine sB ?_
 refine AW.seq (sR (Z1 Fx.fl89_1 ?_))
 refine Z0 Fx.ty3 ?_
 refine Z9 ?_
 refine Z7 ?_
 refine cD ?_ ?_ <;> intro h11
 ·
  obtain ⟨hd, hp0, hvo⟩ : 1 ≤ p.dv ∧ ∃ h : 0 < p.of.length, vldT p.of[0] = true := h.dv h11
  replace hd : 1 ≤ p.dv ∧ True := ⟨hd, trivial⟩
  refine sR (Z1 Fx.fl89_4 ?_)
  refine Z0 Fx.ty87 ?_
  refine Z24 Fx.sl87 (idx_tm hp0) ?_
  refine Z28 (.g [_, _]) Fx.ty32 ?_
  refine sM ?_
  refine Z12 Fx.fn54 (ih _ (List.getElem_mem hp0) hvo) ?_
  refine Z39 ?_
  refine Z6 ?_
  refine Z6 ?_
  refine sA ?_
  refine sB ?_
  refine AW.seq (sR (sM ?_))
  refine Z49 ?_
  refine Z7 ?_
  refine AW.cond _ rfl (fun h22 => ?_) (fun h22 => ?_)
  ·
   refine sR (sA ?_)
   refine sB ?_
   exact aR (f2 (.tmp rfl (.tmp rfl .nil)) (⟨vre (by rw [valP2 h11 hp0, if_neg (by simpa using h22)]), rfl⟩))
  refine AW.skip (sR (sM ?_))
  refine Z1 Fx.fl89_3 ?_
  refine Z0 Fx.ty2 ?_
  refine Z12 Fx.fn112 (floor_any _ _ (valT_R (vldT_bok hvo).c) hd.1) ?_
  refine sA ?_
  refine sB ?_
  exact aR (f2 (.tmp rfl (.tmp rfl .nil)) (⟨vre (by rw [valP2 h11 hp0, if_pos (by simpa using h22)]), rfl⟩))
 refine AW.skip (AW.seq (sR (Z1 Fx.fl89_2 ?_)))
 refine Z0 Fx.ty3 ?_
 refine sM ?_
 refine Z22 Fx.un45 ?_
 refine SeqK.q (q_geq rfl rfl rfl) rfl rfl rfl ?_
 refine Z7 ?_
 refine cD ?_ ?_ <;> intro h31
 ·
  refine sR (sA ?_)
  refine sB ?_
  exact aR (f2 (.tmp rfl (.tmp rfl .nil)) (⟨vre (by rw [valPV h11, valV_out (by rw [List.length_map] at h31; omega)]), rfl⟩))
 have hv0 := h.var h11
 have hv1 : p.var.toNat < r.length := by rw [List.length_map] at h31; omega
 refine AW.skip (sR (sM ?_))
 refine Z1 Fx.fl89_2 ?_
 refine Z0 Fx.ty3 ?_
 refine Z24 Fx.sl45 (idx_map (f := rvT) hv1) ?_
 refine Z28 (.g [_, _, _]) Fx.ty23 ?_
 refine Z16 (r := [_, _, _]) Fx.ze23 ?_
 refine Z2 (r := [_, _, _]) Fx.ty23 ?_
 refine Z7 (AW.seq (sR (Z1 Fx.fl89_1 ?_)))
 refine Z0 Fx.ty3 ?_
 refine Z9 ?_
 refine Z7 ?_
 refine cD ?_ ?_ <;> intro h39
 ·
  refine AW.seq (AW.draw Fx.mo ?_)
  refine Z23 Fx.fl23_2 ?_
  refine Z18 Fx.ty9 ?_
  refine LexK.q (q_lenS rfl Fx.un9 rfl) rfl rfl rfl ?_
  refine Z23 Fx.fl23_0 ?_
  refine Z18 Fx.ty3 ?_
  refine LexK.q (q_eql rfl rfl rfl) rfl rfl rfl ?_
  refine Z52 ?_
  refine Z52 ?_
  refine Z48 ?_
  exact aR (f2 (.tmp rfl (.tmp rfl .nil)) (⟨vre (by rw [valPV h11, valV_at hv0 hv1, if_pos h39]), rfl⟩))
 refine AW.skip (AW.seq (AW.draw Fx.mo ?_))
 refine Z23 Fx.fl23_1 ?_
 refine Z18 Fx.ty2 ?_
 refine Z23 Fx.fl23_0 ?_
 refine Z18 Fx.ty3 ?_
 refine LexK.q (q_eql rfl rfl rfl) rfl rfl rfl ?_
 refine Z52 ?_
 refine Z52 ?_
 refine Z48 ?_
 exact aR (f2 (.tmp rfl (.tmp rfl .nil)) (⟨vre (by rw [valPV h11, valV_at hv0 hv1, if_neg h39]), rfl⟩))
theorem value_of (r : List RV) (z : Nz) (t : Tm) (hv : vldT t = true) (hN : t.cnt ≤ 100000) (ih : ∀ p ∈ t.ps, ∀ o ∈ p.of, vldT o = true → Pure Tryz.prog 54 [tmC o, rowC z r] (vrC (valT r o))) : Pure Tryz.prog 54 [tmC t, rowC z r] (vrC (valT r t)) := by
 intro H
 refine Spec.enter Tryz.func54 rfl ?_
 refine AW.wk (Wk.keep 36 [(0, .c (tmC t)), (1, .c (rowC z r))] [] (H) rfl ⟨rfl, rfl, trivial⟩ trivial (fun _ _ h => h) rfl) ?_
 refine sR (Z20 (r := [_, _]) ?_)
 refine sA ?_
 refine sB ?_
 refine AW.seq ?_
 have hlt := len_ps t
 have hvp := vld_parts hv
 refine AW.reg (Z1 Fx.fl32_0 ?_)
 refine Z0 Fx.ty2 ?_
 refine sB ?_
 refine AW.seq (sR (Z1 Fx.fl32_1 ?_))
 refine Z0 Fx.ty30 ?_
 refine Z22 Fx.un30 ?_
 refine sM ?_
 refine Z7 (AW.block ?_)
 refine AW.loop (fun (i : Nat) s => ∃ (sm : Int), (i ≤ t.ps.length ∧ valPs r (t.ps.drop i) sm = valT r t) ∧ s = ⟨36, sp [(1, .c (rowC z r)), (4, .c (iC 0)), (5, bX false), (6, .c (iC sm)), (14, .c (.a (.t (.sl .un 5 (t.ps.map ptT))))), (15, iX .i64 (((t.ps.map ptT).length : Nat) : Int)), (16, iX .i64 ((i : Nat) : Int))], lv [], H⟩) (fun i => t.ps.length - i) 0 ⟨_, by exact Wk.keep 36 _ _ _ rfl ⟨rfl, rfl, rfl, rfl, rfl, rfl, rfl, trivial⟩ trivial (fun _ _ h => h) rfl, t.c, ⟨Nat.zero_le _, (valT_eq r t).symm⟩, rfl⟩ (fun i s hs => ?_)
 obtain ⟨sm, ⟨hi0, hI⟩, rfl⟩ := hs
 refine sR (Z30 ?_)
 refine Z7 (AW.seq ?_)
 refine cD ?_ ?_ <;> intro h17
 rotate_left
 ·
  refine AW.exit ?_
  refine eth_e ?_
  refine eth_e ?_
  refine exit_here ?_
  refine sR (sM ?_)
  refine sA ?_
  refine sB ?_
  exact aR (f2 (.tmp rfl (.tmp rfl .nil)) (⟨vre (by rw [← hI, List.drop_eq_nil_of_le (by rw [List.length_map] at h17; omega), valPs]), rfl⟩))
 have hi : i < t.ps.length := by rw [List.length_map] at h17; omega
 refine AW.skip (AW.seq (AW.block (sR (Z24 Fx.sl30 (idx_map (f := ptT) hi) ?_))))
 refine Z28 (.g [_, _, _, _, _]) Fx.ty89 ?_
 refine Z16 (r := [_, _, _, _, _]) Fx.ze89 ?_
 refine Z2 (r := [_, _, _, _, _]) Fx.ty89 ?_
 refine Z7 (sR (Z10 (r := .g [_, _, _, _, _]) Fx.ty89 ?_))
 refine sM ?_
 refine Z12 Fx.fn81 (vpart_any r z t.ps[i] (vldP_vok (hvp _ (List.getElem_mem hi))) (fun o ho hv => ih _ (List.getElem_mem hi) o ho hv)) ?_
 refine Z39 ?_
 refine Z6 ?_
 refine Z6 ?_
 refine sA ?_
 refine sB ?_
 refine AW.seq (sR (sM ?_))
 refine Z49 ?_
 refine Z7 ?_
 refine AW.cond _ rfl (fun h27 => ?_) (fun h27 => ?_)
 ·
  refine sR (sA ?_)
  refine sB ?_
  exact aR (f2 (.tmp rfl (.tmp rfl .nil)) (⟨vre (by rw [← hI, valPs_drop hi, if_neg (by simpa using h27)]), rfl⟩))
 refine AW.skip (AW.reg (sM ?_))
 refine Z1 Fx.fl89_0 ?_
 refine Z0 Fx.ty2 ?_
 refine sM ?_
 refine SeqK.q (q_mul _ rfl rfl rfl (rfl)) rfl rfl rfl ?_
 refine SeqK.q (q_add _ rfl rfl rfl (rfl)) rfl rfl rfl ?_
 refine sB ?_
 refine AW.reg (Z13 ?_)
 refine sM ?_
 refine Z7 ?_
 exact ⟨i + 1, _, by exact Wk.keep 36 _ _ _ rfl ⟨rfl, rfl, rfl, rfl, rfl, rfl, rfl, trivial⟩ trivial (fun _ _ h => h) rfl, by omega, (w (sm + w (t.ps[i].coef * (valP r t.ps[i]).1))), ⟨hi, by rw [← hI, valPs_drop hi, if_pos (by simpa using h27)]⟩, rfl⟩
theorem value_any (r : List RV) (z : Nz) (t : Tm) : vldT t = true → t.cnt ≤ 100000 → Pure Tryz.prog 54 [tmC t, rowC z r] (vrC (valT r t)) := by
  induction t using Tm.ind with
  | h t ih =>
    intro hv hN
    exact value_of r z t hv hN fun p hp o ho hv2 => ih p hp o ho hv2 (by have := cnt_of hp ho; omega)
def timesI (a n : Int) : Int := if a.natAbs * n.natAbs ≤ 2 ^ 60 then a * n else 2 ^ 60
theorem timesI_zero {a n : Int} (h : a = 0 ∨ n = 0) : timesI a n = 0 := by
  unfold timesI; rcases h with rfl | rfl <;> simp
theorem timesI_big {a n : Int} (h : 2 ^ 60 < a.natAbs * n.natAbs) : timesI a n = 2 ^ 60 := if_neg (by omega)
theorem big_l {a n : Nat} (h : 2 ^ 60 < a) (hn : 1 ≤ n) : 2 ^ 60 < a * n := Nat.lt_of_lt_of_le h (Nat.le_mul_of_pos_right _ hn)
theorem big_r {a n : Nat} (h : 2 ^ 60 < n) (hn : 1 ≤ a) : 2 ^ 60 < a * n := by rw [Nat.mul_comm]; exact big_l h hn
theorem quo60 {n : Nat} (h : n ≤ 2 ^ 60) : IntKind.i64.wrap ((1152921504606846976 : Int).tdiv (n : Int)) = ((1152921504606846976 / n : Nat) : Int) := by
  have h1 : (1152921504606846976 : Int).tdiv (n : Int) = ((1152921504606846976 / n : Nat) : Int) := rfl
  have h2 : ((1152921504606846976 / n : Nat) : Int) ≤ ((1152921504606846976 : Nat) : Int) := by exact_mod_cast Nat.div_le_self 1152921504606846976 n
  have h0 : (0 : Int) ≤ ((1152921504606846976 / n : Nat) : Int) := Int.natCast_nonneg _
  rw [h1, w64 (by omega) (by omega)]
theorem div_lt_iff {a n : Nat} (hn : 1 ≤ n) : 1152921504606846976 / n < a ↔ 2 ^ 60 < a * n := by
  rw [Nat.div_lt_iff_lt_mul (by omega)]
theorem nd_t {p : Prop} [Decidable p] (h : (!decide p) = true) : ¬ p := by simpa using h
theorem nd_f {p : Prop} [Decidable p] (h : (!decide p) = false) : p := by simpa using h
theorem quo_lt {a n : Nat} (hn : 1 ≤ n) : ((1152921504606846976 / n : Nat) : Int) < (a : Int) ↔ 2 ^ 60 < a * n := by
  rw [Int.ofNat_lt]; exact div_lt_iff hn
theorem timesX {a b : Int} (h : a = b) : X.c (iC a) = X.c (iC b) := by rw [h]
theorem rtimes_any (a b : Int) (ha : R64 a) (hb : R64 b) : Pure Tryz.prog 153 [iC a, iC b] (.c (iC (timesI a b))) := by
 intro H
 refine Spec.enter Tryz.func153 rfl ?_
 refine AW.wk (Wk.keep 30 [(0, .c (iC a)), (1, .c (iC b))] [] (H) rfl ⟨rfl, rfl, trivial⟩ trivial (fun _ _ h => h) rfl) ?_
 refine sR (sB ?_)
 refine AW.seq (sR (sM ?_))
 refine Z9 ?_
 refine Z17 ?_ ?_ <;> intro g7
 ·
  iterate 2 refine oF ?_
  refine Z8 ?_
  refine Z7 (AW.condT rfl ?_)
  refine sR (sB ?_)
  exact aR (f1 (q := ⟨timesX (timesI_zero (by omega)).symm, rfl⟩))
 refine Z14 ?_
 refine Z21 ?_
 refine Z4 ?_
 refine Z7 ?_
 refine cD ?_ ?_ <;> intro h10
 ·
  refine sR (sB ?_)
  exact aR (f1 (q := ⟨timesX (timesI_zero (by omega)).symm, rfl⟩))
 refine AW.skip (AW.seq (AW.seq ?_))
 have ha0 : 1 ≤ a.natAbs := by omega
 have hb0 : 1 ≤ b.natAbs := by omega
 refine AW.reg (sM ?_)
 refine Z12 Fx.fn155 (within_any _ _ _) ?_
 refine Z49 ?_
 refine Z36 ?_ ?_ <;> intro g14
 ·
  have k := nd_t g14
  iterate 3 refine oF ?_
  refine Z8 ?_
  refine sM ?_
  iterate 6 refine oF ?_
  refine Z8 ?_
  refine Z7 (AW.condT rfl ?_)
  refine sR (sB ?_)
  exact aR (f1 (q := ⟨timesX (timesI_big (by first | exact big_l (by omega) hb0 | exact big_r (by omega) ha0 | exact (quo_lt hb0).1 h26)).symm, rfl⟩))
 have k := nd_f g14
 refine Z14 ?_
 refine Z35 Fx.fn155 (within_any _ _ _) ?_
 refine Z41 ?_
 refine Z4 ?_
 refine Z36 ?_ ?_ <;> intro g19
 ·
  have k2 := nd_t g19
  iterate 6 refine oF ?_
  refine Z8 ?_
  refine Z7 (AW.condT rfl ?_)
  refine sR (sB ?_)
  exact aR (f1 (q := ⟨timesX (timesI_big (by first | exact big_l (by omega) hb0 | exact big_r (by omega) ha0 | exact (quo_lt hb0).1 h26)).symm, rfl⟩))
 have k2 := nd_f g19
 refine Z14 ?_
 refine SeqK.on (q_call _ rfl Fx.fn177 rfl (rabs_any _ (by omega)) rfl) rfl rfl rfl rfl rfl ?_
 refine Z14 ?_
 refine SeqK.on (q_call _ rfl Fx.fn177 rfl (rabs_any _ (by omega)) rfl) rfl rfl rfl rfl rfl ?_
 refine SeqK.on (q_quo _ rfl rfl rfl (by omega) (quo60 (by omega))) rfl rfl rfl rfl rfl ?_
 refine SeqK.on (q_gtr rfl rfl rfl) rfl rfl rfl rfl rfl ?_
 refine Z4 ?_
 refine Z7 ?_
 refine cD ?_ ?_ <;> intro h26
 ·
  refine sR (sB ?_)
  exact aR (f1 (q := ⟨timesX (timesI_big (by first | exact big_l (by omega) hb0 | exact big_r (by omega) ha0 | exact (quo_lt hb0).1 h26)).symm, rfl⟩))
 have hab : a.natAbs * b.natAbs ≤ 2 ^ 60 := Nat.le_of_not_lt fun hh => h26 ((quo_lt hb0).2 hh)
 refine AW.skip (sR (sM ?_))
 refine sM ?_
 refine SeqK.q (q_mul _ rfl rfl rfl (w64m (M := 2 ^ 60) (by decide) hab)) rfl rfl rfl ?_
 refine sB ?_
 exact aR (f1 (q := ⟨timesX (if_pos hab).symm, rfl⟩))
theorem limited_any (t : Tm) (h : bokT t) (hN : t.cnt ≤ 100000) : Pure Tryz.prog 120 [tmC t] (trC (lim t)) := by
 intro H
 refine Spec.enter Tryz.func120 rfl ?_
 refine AW.wk (Wk.keep 9 [(0, .c (tmC t))] [] (H) rfl ⟨rfl, trivial⟩ trivial (fun _ _ h => h) rfl) ?_
 refine sR (Z20 (r := [_, _]) ?_)
 refine Z16 (r := [_, _]) Fx.ze32 ?_
 refine sB ?_
 refine AW.seq (sR (Z10 (r := .g [_, _]) Fx.ty32 ?_))
 refine Z12 Fx.fn152 (rsmall_any t h hN) ?_
 refine Z49 ?_
 refine Z7 ?_
 refine AW.cond _ rfl (fun h6 => ?_) (fun h6 => ?_)
 ·
  refine sR (Z11 (zs := [_, _]) (r := [_, _]) [(0, 1), (1, 1)] Fx.ze32 Fx.bp32 ?_)
  refine Z47 7 XW.tm0 ?_
  refine Z2 (r := [_, _]) Fx.ty32 ?_
  refine sB ?_
  exact aR (f2 (.cellL rfl rfl Fx.ty32 rfl rfl (.tmp rfl .nil)) (⟨by rw [lim, if_neg (by intro hs; rw [hs] at h6; cases h6)]; rfl, rfl⟩))
 refine AW.skip (sR (Z10 (r := .g [_, _]) Fx.ty32 ?_))
 refine Z2 (r := [_, _]) Fx.ty32 ?_
 refine sB ?_
 exact aR (f2 (.cellL rfl rfl Fx.ty32 rfl rfl (.tmp rfl .nil)) (⟨by rw [lim, if_pos (by simpa using h6)]; rfl, rfl⟩))
theorem rdiv_any (t : Tm) (b : Int) (hv : vldT t = true) (hN : t.cnt ≤ 90000) : Pure Tryz.prog 156 [tmC t, iC b] (trC (div t b)) := by
 intro H
 refine Spec.enter Tryz.func156 rfl ?_
 refine AW.wk (Wk.keep 31 [(0, .c (tmC t)), (1, .c (iC b))] [] (H) rfl ⟨rfl, rfl, trivial⟩ trivial (fun _ _ h => h) rfl) ?_
 refine sR (Z20 (r := [_, _]) ?_)
 refine Z16 (r := [_, _]) Fx.ze32 ?_
 refine sB ?_
 refine AW.seq (sR (sM ?_))
 refine Z12 Fx.fn155 (within_any _ _ _) ?_
 refine Z49 ?_
 refine Z7 ?_
 refine AW.cond _ rfl (fun h8 => ?_) (fun h8 => ?_)
 ·
  have k8 := nd_t h8
  refine sR (Z11 (zs := [_, _]) (r := [_, _]) [(0, 1), (1, 1)] Fx.ze32 Fx.bp32 ?_)
  refine Z47 9 XW.tm0 ?_
  refine Z2 (r := [_, _]) Fx.ty32 ?_
  refine sB ?_
  exact aR (f2 (.cellL rfl rfl Fx.ty32 rfl rfl (.tmp rfl .nil)) (⟨by rw [div, if_pos (by omega)]; rfl, rfl⟩))
 have k8 := nd_f (by simpa using h8)
 refine AW.skip (AW.seq (sR (sM ?_)))
 refine Z9 ?_
 refine Z7 ?_
 refine cD ?_ ?_ <;> intro h11
 ·
  refine sR (Z10 (r := .g [_, _]) Fx.ty32 ?_)
  refine Z2 (r := [_, _]) Fx.ty32 ?_
  refine sB ?_
  exact aR (f2 (.cellL rfl rfl Fx.ty32 rfl rfl (.tmp rfl .nil)) (⟨by rw [div, if_neg (by omega), if_pos h11]; rfl, rfl⟩))
 refine AW.skip (AW.seq (sR (Z1 Fx.fl32_1 ?_)))
 refine Z0 Fx.ty30 ?_
 refine Z22 Fx.un30 ?_
 refine Z9 ?_
 refine Z7 ?_
 refine cD ?_ ?_ <;> intro h16
 ·
  refine sR (Z1 Fx.fl32_0 ?_)
  refine Z0 Fx.ty2 ?_
  refine sM ?_
  refine SeqK.q (q_call _ rfl Fx.fn179 rfl (rfloor_any _ _ (vldT_bok hv).c (by omega)) rfl) rfl rfl rfl ?_
  refine Z11 (zs := [_, _]) (r := [_, _]) [(0, 1), (1, 1)] Fx.ze32 Fx.bp32 ?_
  refine Z47 21 XW.tm0 ?_
  refine Z2 (r := [_, _]) Fx.ty32 ?_
  refine sB ?_
  exact aR (f2 (.cellL rfl rfl Fx.ty32 rfl rfl (.tmp rfl .nil)) (⟨by rw [div, if_neg (by omega), if_neg h11, if_pos (by rw [List.length_map] at h16; omega)]; rfl, rfl⟩))
 refine AW.skip (sR (sM ?_))
 refine Z10 (r := .g [_, _]) Fx.ty32 ?_
 refine Z27 Fx.el87 ?_
 refine SeqK.xw 24 rfl (xwOf (l := [t]) (h := by simp) rfl) ?_
 refine Z11 (zs := [_, _, _, _, _]) (r := [_, _, _, _, _]) [(0, 1), (1, 1), (2, 1), (3, 1), (4, 1)] Fx.ze89 Fx.bp89 ?_
 refine Z27 Fx.el30 ?_
 refine Z47 26 .un ?_
 refine Z11 (zs := [_, _]) (r := [_, _]) [(0, 1), (1, 1)] Fx.ze32 Fx.bp32 ?_
 refine SeqK.q (q_call _ rfl Fx.fn120 rfl (limited_any (divT t b) (divT_bok hv (by omega) (by omega)) (by rw [divT_cnt]; omega)) rfl) rfl rfl rfl ?_
 refine Z6 ?_
 refine Z6 ?_
 refine Z2 (r := [_, _]) Fx.ty32 ?_
 refine sB ?_
 exact aR (f2 (.cellL rfl rfl Fx.ty32 rfl rfl (.tmp rfl .nil)) (⟨by rw [div, if_neg (by omega), if_neg h11, if_neg (by rw [List.length_map] at h16; omega)]; rfl, rfl⟩))
def mulR (p : Pt) (n : Int) : Pt := ⟨timesI p.coef n, p.kind, p.var, p.dv, p.of⟩
def scR : List Pt → Int → List Pt
  | [], _ => []
  | p :: r, n => nzc (mulR p n) (scR r n)
abbrev refT (t : Tm) (n : Int) : Tm := ⟨timesI t.c n, scR t.ps n⟩
theorem scR_drop {l : List Pt} {n : Int} {i : Nat} (hi : i < l.length) : scR (l.drop i) n = nzc (mulR l[i] n) (scR (l.drop (i + 1)) n) := by
  rw [List.drop_eq_getElem_cons hi, scR]
theorem scR_mem {n : Int} : ∀ {l : List Pt} {q : Pt}, q ∈ scR l n → ∃ p ∈ l, q = mulR p n
  | [], q, h => by simp [scR] at h
  | p :: r, q, h => by
    rw [scR] at h
    rcases mem_nzc h with rfl | h
    · exact ⟨p, by simp, rfl⟩
    · obtain ⟨p', h1, h2⟩ := scR_mem h
      exact ⟨p', by simp [h1], h2⟩
theorem nzc_sub {p q : Pt} {l : List Pt} (h : q ∈ l) : q ∈ nzc p l := by
  unfold nzc; split
  · exact List.mem_cons_of_mem _ h
  · exact h
theorem scR_in {n : Int} : ∀ {l : List Pt} {p : Pt}, p ∈ l → (mulR p n).coef ≠ 0 → mulR p n ∈ scR l n
  | q :: r, p, h, hc => by
    rw [scR]
    rcases List.mem_cons.1 h with rfl | h
    · rw [nzc, if_pos hc]; exact List.mem_cons_self ..
    · exact nzc_sub (scR_in h hc)
theorem scR_cnt (n : Int) : ∀ l : List Pt, cntPs (scR l n) ≤ cntPs l
  | [] => by simp [scR]
  | p :: r => by
    have h1 := scR_cnt n r
    have h2 := nzc_cnt (mulR p n) (scR r n)
    have h3 : (mulR p n).cnt = p.cnt := by rw [Pt.cnt_eq, Pt.cnt_eq]; rfl
    rw [scR]; simp only [cntPs]; omega
theorem scR_all {n : Int} : ∀ {l : List Pt}, (∀ p ∈ l, mulR p n = mulP p n ∧ p.coef * n ≠ 0) → scR l n = l.map fun p => mulP p n
  | [], _ => rfl
  | p :: r, h => by
    obtain ⟨h1, h2⟩ := h p (by simp)
    rw [scR, h1, nzc, if_pos (show (mulP p n).coef ≠ 0 from h2), scR_all fun q hq => h q (by simp [hq])]; rfl
theorem timesI_le (a n : Int) : (timesI a n).natAbs ≤ 2 ^ 60 := by
  unfold timesI; split
  · rename_i h; rw [← Int.natAbs_mul] at h; exact h
  · decide
theorem timesI_gt {a n : Int} {m : Nat} (hm : m < 2 ^ 60) (h : m < a.natAbs * n.natAbs) : m < (timesI a n).natAbs := by
  unfold timesI; split
  · rw [← Int.natAbs_mul] at h; exact h
  · exact hm
theorem refT_bok {t : Tm} {n : Int} (h : bokT t) : bokT (refT t n) := by
  have h1 := timesI_le t.c n
  refine ⟨by show -9223372036854775808 ≤ timesI t.c n ∧ timesI t.c n ≤ 9223372036854775807; omega, fun p hp => ?_, fun p hp => ?_⟩
  · obtain ⟨q, hq, rfl⟩ := scR_mem hp
    have h2 := timesI_le q.coef n
    show -9223372036854775808 ≤ timesI q.coef n ∧ timesI q.coef n ≤ 9223372036854775807
    omega
  · obtain ⟨q, hq, rfl⟩ := scR_mem hp
    exact h.part q hq
theorem refT_cnt (t : Tm) (n : Int) : (refT t n).cnt ≤ t.cnt := by
  have := scR_cnt n t.ps
  rw [Tm.cnt_eq, Tm.cnt_eq t]; show 1 + cntPs (scR t.ps n) ≤ _; omega
theorem vld_nz {t : Tm} (h : vldT t = true) : ∀ p ∈ t.ps, p.coef ≠ 0 := fun p hp e => by
  have := vld_parts h p hp
  rw [vT0 e] at this; cases this
theorem refT_lim {t : Tm} {n : Int} (h : vldT t = true) : lim (refT t n) = scale t n := by
  by_cases hn : n = 0
  · subst hn
    have h1 : scR t.ps 0 = [] := by
      generalize t.ps = l
      induction l with
      | nil => rfl
      | cons p r ih =>
        have e : (mulR p 0).coef = 0 := timesI_zero (.inr rfl)
        rw [scR, ih, nzc, if_neg (by simp [e])]
    rw [scale, if_pos rfl, refT, h1, timesI_zero (.inr rfl)]
    rw [lim, if_pos (by decide)]
  · by_cases hs : t.c.natAbs * n.natAbs ≤ 2 ^ 40 ∧ ∀ p ∈ t.ps, p.coef.natAbs * n.natAbs ≤ 2 ^ 20
    · rw [scale, if_neg hn]
      have e1 : timesI t.c n = t.c * n := if_pos (Nat.le_trans hs.1 (by decide))
      have e2 : scR t.ps n = t.ps.map fun p => mulP p n := scR_all fun p hp => ⟨by
        have : timesI p.coef n = p.coef * n := if_pos (Nat.le_trans (hs.2 p hp) (by decide))
        rw [mulR, this]; rfl, Int.mul_ne_zero (vld_nz h p hp) hn⟩
      rw [refT, e1, e2]; rfl
    · rw [scale_no hn hs, lim, if_neg]
      intro hb
      have hb := smallB_iff.1 hb
      by_cases hc : t.c.natAbs * n.natAbs ≤ 2 ^ 40
      · refine hs ⟨hc, fun p hp => Nat.le_of_not_lt fun hlt => ?_⟩
        have h1 : 2 ^ 20 < (mulR p n).coef.natAbs := timesI_gt (a := p.coef) (n := n) (by decide) hlt
        have := hb.2.1 _ (scR_in hp (by omega))
        omega
      · have h1 : 2 ^ 40 < (timesI t.c n).natAbs := timesI_gt (by decide) (by omega)
        have := hb.1
        exact absurd this (Nat.not_le_of_lt h1)
theorem rscale_any (t : Tm) (n : Int) (h : vldT t = true) (hn : R64 n) (hN : t.cnt ≤ 100000) : Pure Tryz.prog 121 [tmC t, iC n] (trC (scale t n)) := by
 intro H
 refine Spec.enter Tryz.func121 rfl ?_
 refine AW.wk (Wk.keep 44 [(0, .c (tmC t)), (1, .c (iC n))] [] (H) rfl ⟨rfl, rfl, trivial⟩ trivial (fun _ _ h => h) rfl) ?_
 refine sR (Z20 (r := [_, _]) ?_)
 refine Z16 (r := [_, _]) Fx.ze32 ?_
 refine sB ?_
 refine AW.seq ?_
 have hlt := len_ps t
 have hb := vldT_bok h
 refine AW.reg (Z1 Fx.fl32_0 ?_)
 refine Z0 Fx.ty2 ?_
 refine sM ?_
 refine SeqK.q (q_call _ rfl Fx.fn153 rfl (rtimes_any _ _ (by first | exact hb.c | exact hb.coef _ (List.getElem_mem hi)) hn) rfl) rfl rfl rfl ?_
 refine Z11 (zs := [_, _]) (r := [_, _]) [(0, 1), (1, 1)] Fx.ze32 Fx.bp32 ?_
 refine Z16 (r := [_, _]) Fx.ze32 ?_
 refine Z2 (r := [_, _]) Fx.ty32 ?_
 refine Z7 (AW.seq (sR (sB ?_)))
 refine AW.block ?_
 refine AW.tipL 6 1 89 5 rfl rfl (fun k0 hk0 => ?_)
 refine AW.loop (fun (i : Nat) s => ∃ (kt : Nat) (out : List Pt) (zs : List (List E.T)), (i ≤ t.ps.length ∧ H kt = none ∧ out.length ≤ i ∧ zs = out.map ptT ∧ out ++ scR (t.ps.drop i) n = scR t.ps n) ∧ s = ⟨44, sp [(1, .c (iC n)), (2, .lp 2 0), (4, .lp 4 0), (5, .c (iC 0)), (6, .lp 6 0), (7, iX .i64 ((i : Nat) : Int))], lv [(2, .box (zTm t)), (4, .box [.t (.v (.int .i64 0)), .t (.v (.slice none 0 0))]), (6, .box [.t (.v (.int .i64 (timesI t.c n))), .ts kt .ne 5 zs])], upd H kt (some (.tip 89 5 zs.length))⟩) (fun i => t.ps.length - i) 0 ⟨_, by exact Wk.keep 44 _ _ _ rfl ⟨rfl, rfl, rfl, rfl, rfl, rfl, trivial⟩ ⟨rfl, rfl, rfl, trivial⟩ (fun _ _ h => h) rfl, k0, [], [], ⟨Nat.zero_le _, hk0, by simp, rfl, rfl⟩, rfl⟩ (fun i s hs => ?_)
 obtain ⟨kt, out, zs, ⟨hi0, hkt, hol, hzs, hI⟩, rfl⟩ := hs
 refine AW.seq (sR (sM ?_))
 refine Z1 Fx.fl32_1 ?_
 refine Z0 Fx.ty30 ?_
 refine Z22 Fx.un30 ?_
 refine Z30 ?_
 refine Z7 ?_
 refine cD ?_ ?_ <;> intro h18
 rotate_left
 ·
  refine AW.exit ?_
  refine eth_e ?_
  refine eth_e ?_
  refine exit_here ?_
  refine AW.seq ?_
  have hij : i = t.ps.length := by rw [List.length_map] at h18; omega
  subst hij
  rw [List.drop_length, scR, List.append_nil] at hI
  subst hI
  subst hzs
  refine AW.reg (Z10 (r := .g [_, _]) Fx.ty32 ?_)
  refine Z47 40 (XW.tmA XW.ts) ?_
  refine Z47 40 (XW.tmA XW.un) ?_
  refine SeqK.q (q_call _ rfl Fx.fn120 rfl (limited_any (refT t n) (refT_bok hb) (by have := refT_cnt t n; omega)) rfl) rfl rfl rfl ?_
  refine Z6 ?_
  refine Z6 ?_
  refine Z2 (r := [_, _]) Fx.ty32 ?_
  refine sB ?_
  exact aR (fin_x (x := .tup [_, _]) (H) (.cellL rfl rfl Fx.ty32 rfl rfl (.tmp rfl .nil)) rfl (fun j o h => by show upd H kt _ j = _; rw [upd_ne _ _ (fun e => by subst e; rw [hkt] at h; cases h)]; exact h) (⟨by rw [← refT_lim h]; rfl, rfl⟩))
 have hi : i < t.ps.length := by rw [List.length_map] at h18; omega
 refine AW.skip (AW.seq (AW.block (sR (Z1 Fx.fl32_1 ?_))))
 refine Z0 Fx.ty30 ?_
 refine sM ?_
 refine Z24 Fx.sl30 (idx_map (f := ptT) hi) ?_
 refine Z28 (.g [_, _, _, _, _]) Fx.ty89 ?_
 refine Z16 (r := [_, _, _, _, _]) Fx.ze89 ?_
 refine Z2 (r := [_, _, _, _, _]) Fx.ty89 ?_
 refine Z7 (sR (Z1 Fx.fl89_0 ?_))
 refine Z0 Fx.ty2 ?_
 refine sM ?_
 refine SeqK.q (q_call _ rfl Fx.fn153 rfl (rtimes_any _ _ (by first | exact hb.c | exact hb.coef _ (List.getElem_mem hi)) hn) rfl) rfl rfl rfl ?_
 refine Z1 Fx.fl89_0 ?_
 refine Z2 (r := [_, _, _, _, _]) Fx.ty2 ?_
 refine Z7 (sR (Z1 Fx.fl89_0 ?_))
 refine Z0 Fx.ty2 ?_
 refine Z26 ?_
 refine Z7 ?_
 refine cD ?_ ?_ <;> intro h33
 ·
  refine AW.reg (Z1 Fx.fl32_1 ?_)
  refine Z0 Fx.ty30 ?_
  refine Z10 (r := .g [_, _, _, _, _]) Fx.ty89 ?_
  refine Z27 Fx.el30 ?_
  refine SeqK.app1 rfl (hkt) rfl Fx.el30 rfl rfl (by have hzl : zs.length = out.length := (by rw [hzs, List.length_map]); constructor <;> (simp; omega)) rfl rfl (fun k38 hk38 => ?_)
  refine Z1 Fx.fl32_1 ?_
  refine Z2 (r := [_, _]) Fx.ty30 ?_
  refine Z7 (AW.reg (sM ?_))
  refine Z13 ?_
  refine sB ?_
  exact ⟨i + 1, _, by exact Wk.keep 44 _ _ _ rfl ⟨rfl, rfl, rfl, rfl, rfl, rfl, trivial⟩ ⟨rfl, rfl, rfl, trivial⟩ (fun _ _ h => h) rfl, by omega, k38, out ++ [mulR t.ps[i] n], zs ++ [ptT (mulR t.ps[i] n)], ⟨by omega, hk38, by simp; omega, map_put hzs, put_nz (scR_drop hi) hI h33⟩, rfl⟩
 refine AW.skip (AW.reg (sM ?_))
 refine Z13 ?_
 refine sB ?_
 exact ⟨i + 1, _, by exact Wk.keep 44 _ _ _ rfl ⟨rfl, rfl, rfl, rfl, rfl, rfl, trivial⟩ ⟨rfl, rfl, rfl, trivial⟩ (fun _ _ h => h) rfl, by omega, kt, out, zs, ⟨by omega, hkt, by omega, hzs, put_z (scR_drop hi) hI h33⟩, rfl⟩
def md (a b : Int) : Prop := ∃ k : Int, a = b + k * 18446744073709551616
theorem md.rfl' (a : Int) : md a a := ⟨0, by omega⟩
theorem md.symm {a b : Int} (h : md a b) : md b a := by obtain ⟨k, h⟩ := h; exact ⟨-k, by omega⟩
theorem md.trans {a b c : Int} (h : md a b) (h' : md b c) : md a c := by obtain ⟨k, h⟩ := h; obtain ⟨j, h'⟩ := h'; exact ⟨k + j, by omega⟩
theorem md.add {a b c d : Int} (h : md a b) (h' : md c d) : md (a + c) (b + d) := by obtain ⟨k, h⟩ := h; obtain ⟨j, h'⟩ := h'; exact ⟨k + j, by omega⟩
theorem md.mul {a b : Int} (h : md a b) (n : Int) : md (a * n) (b * n) := by obtain ⟨k, h⟩ := h; exact ⟨k * n, by subst h; grind⟩
theorem md_w (a : Int) : md (w a) a := by
  refine ⟨-((a + 9223372036854775808) / 18446744073709551616), ?_⟩
  show IntKind.i64.wrap a = _
  rw [IntKind.wrap_i64]; omega
theorem md_eq {a b : Int} (ha : R64 a) (hb : R64 b) (h : md a b) : a = b := by
  obtain ⟨k, h⟩ := h
  obtain ⟨h1, h2⟩ := ha
  obtain ⟨h3, h4⟩ := hb
  omega
theorem w_md {a b : Int} (h : md a b) : w a = w b := md_eq (w_R a) (w_R b) ((md_w a).trans (h.trans (md_w b).symm))
theorem w_eq {a : Int} (h : R64 a) : w a = a := md_eq (w_R a) h (md_w a)
def sumV (r : List RV) : List Pt → Int
  | [] => 0
  | p :: l => p.coef * (valP r p).1 + sumV r l
theorem valPs_sum (r : List RV) : ∀ (l : List Pt) (s : Int), R64 s → ((∀ p ∈ l, (valP r p).2 = true) → valPs r l s = (w (s + sumV r l), true)) ∧ (¬ (∀ p ∈ l, (valP r p).2 = true) → valPs r l s = (0, false))
  | [], s, h => by
    refine ⟨fun _ => ?_, fun h => absurd (by simp) h⟩
    rw [valPs, sumV, Int.add_zero, w_eq h]
  | p :: l, s, h => by
    obtain ⟨h1, h2⟩ := valPs_sum r l (w (s + w (p.coef * (valP r p).1))) (w_R _)
    rw [valPs, sumV]
    refine ⟨fun hp => ?_, fun hp => ?_⟩
    · rw [if_pos (hp p (by simp)), h1 fun q hq => hp q (by simp [hq])]
      refine congrArg (fun x => (x, true)) (w_md ?_)
      have e1 := ((md_w (s + w (p.coef * (valP r p).1))).trans ((md.rfl' s).add (md_w _))).add (md.rfl' (sumV r l))
      have e2 : s + p.coef * (valP r p).1 + sumV r l = s + (p.coef * (valP r p).1 + sumV r l) := by omega
      rw [← e2]; exact e1
    · split
      · rename_i hq
        exact h2 fun hh => hp fun q hq' => (List.mem_cons.1 hq').elim (fun e => e ▸ hq) (hh q)
      · rfl
theorem valT_sum {r : List RV} {t : Tm} (h : R64 t.c) (hp : ∀ p ∈ t.ps, (valP r p).2 = true) : valT r t = (w (t.c + sumV r t.ps), true) := by
  rw [valT_eq]; exact (valPs_sum r t.ps t.c h).1 hp
theorem valT_ok {r : List RV} {t : Tm} (h : R64 t.c) (hv : (valT r t).2 = true) : ∀ p ∈ t.ps, (valP r p).2 = true := by
  refine Classical.not_not.1 fun hn => ?_
  rw [valT_eq, (valPs_sum r t.ps t.c h).2 hn] at hv; cases hv
theorem valP_mul (r : List RV) (p : Pt) (n : Int) : valP r (mulP p n) = valP r p := by rw [valP_eq, valP_eq]; rfl
theorem sumV_mul (r : List RV) (n : Int) : ∀ l : List Pt, sumV r (l.map fun p => mulP p n) = sumV r l * n
  | [] => by simp [sumV]
  | p :: l => by
    rw [List.map_cons, sumV, sumV, sumV_mul r n l, valP_mul, Int.add_mul]
    show p.coef * n * (valP r p).1 + _ = _
    rw [Int.mul_right_comm]
theorem scale_val {r : List RV} {t : Tm} {n : Int} (h : vldT t = true) (hs : (scale t n).2 = 0) (hv : (valT r t).2 = true) : valT r (scale t n).1 = (w ((valT r t).1 * n), true) := by
  have hc := (vldT_bok h).c
  have hp := valT_ok hc hv
  unfold scale at hs ⊢
  by_cases hn : n = 0
  · subst hn
    rw [if_pos rfl, valT_eq, Int.mul_zero, w_eq (by decide)]; rfl
  · rw [if_neg hn] at hs ⊢
    obtain ⟨h1, h2⟩ := lim_ok hs
    rw [h1, valT_sum hc hp]
    have hm : R64 (mulT t n).c := by
      have := (smallB_iff.1 h2).1
      show -9223372036854775808 ≤ (mulT t n).c ∧ (mulT t n).c ≤ 9223372036854775807
      omega
    rw [valT_sum hm (fun p hp' => by
      obtain ⟨q, hq, rfl⟩ := List.mem_map.1 hp'
      rw [valP_mul]; exact hp q hq)]
    refine congrArg (fun x => (x, true)) (w_md ?_)
    show md (t.c * n + sumV r (t.ps.map fun p => mulP p n)) _
    rw [sumV_mul, ← Int.add_mul]
    exact ((md_w _).mul n).symm
theorem scale_vld' {t : Tm} {n : Int} (h : vldT t = true) : vldT (scale t n).1 = true := by
  by_cases hs : (scale t n).2 = 0
  · exact scale_vld h hs
  · unfold scale at hs ⊢
    split at hs
    · rw [if_pos (by assumption)]; exact vld0
    · rw [if_neg (by assumption)]
      unfold lim at hs ⊢
      split at hs
      · exact absurd rfl hs
      · rw [if_neg (by assumption)]; exact vld0
theorem div_vld' {t : Tm} {b : Int} (h : vldT t = true) : vldT (div t b).1 = true := by
  by_cases hs : (div t b).2 = 0
  · exact div_vld h hs
  · unfold div at hs ⊢
    split at hs
    · rw [if_pos (by assumption)]; exact vld0
    · rw [if_neg (by assumption)]
      split at hs
      · exact absurd rfl hs
      · rw [if_neg (by assumption)]
        split at hs
        · exact absurd rfl hs
        · rw [if_neg (by assumption)]
          unfold lim at hs ⊢
          split at hs
          · exact absurd rfl hs
          · rw [if_neg (by assumption)]; exact vld0
theorem lex_zero {a b : Int} : lex a b = 0 ↔ a = 0 ∧ b = 0 := by unfold lex; split <;> omega
theorem cmpP_C (p q u : Pt) : C3 (cmpP p q) (cmpP q u) (cmpP p u) := by
  rw [cmpP_lex, cmpP_lex, cmpP_lex]
  exact (C3.ints _ _ _).lex ((C3.ints _ _ _).lex ((C3.ints _ _ _).lex (cmpO_C fun o _ b c => cmpT_C o b c)))
theorem cmpP_neg (p q : Pt) : cmpP q p = -cmpP p q := by
  rw [cmpP_lex, cmpP_lex, ints_neg p.kind, ints_neg p.var, ints_neg p.dv, cmpO_neg (fun o _ b => cmpT_neg o b), lex_neg, lex_neg, lex_neg]
def eqv (p q : Pt) : Prop := p.kind = q.kind ∧ p.var = q.var ∧ p.dv = q.dv ∧ p.of = q.of
theorem one_list {l : List Tm} (h : l.length ≤ 1) : l = [] ∨ ∃ o, l = [o] := by
  match l, h with
  | [], _ => exact .inl rfl
  | [o], _ => exact .inr ⟨o, rfl⟩
theorem cmpP_zero' {p q : Pt} (hp : vldP p = true) (hq : vldP q = true) (ih : ∀ o ∈ p.of, ∀ b, vldT o = true → vldT b = true → cmpT o b = 0 → o = b) (h : cmpP p q = 0) : eqv p q := by
  rw [cmpP_lex, lex_zero, lex_zero, lex_zero, ints_zero, ints_zero, ints_zero] at h
  obtain ⟨h1, h2, h3, h4⟩ := h
  refine ⟨h1, h2, h3, ?_⟩
  have o1 := vldP_one hp
  have o2 := vldP_one hq
  rcases one_list o1.len with e1 | ⟨o, e1⟩ <;> rcases one_list o2.len with e2 | ⟨o', e2⟩
  · rw [e1, e2]
  · rw [e1, e2, cmpO] at h4; cases h4
  · rw [e1, e2, cmpO] at h4; cases h4
  · rw [e1, e2, cmpO] at h4
    rw [e1, e2, ih o (by rw [e1]; simp) o' (o1.sub o (by rw [e1]; simp)) (o2.sub o' (by rw [e2]; simp)) h4]
theorem cmpL_zero {l : List Pt} (hi : ∀ p ∈ l, vldP p = true ∧ ∀ o ∈ p.of, ∀ b, vldT o = true → vldT b = true → cmpT o b = 0 → o = b) : ∀ {m : List Pt} {e : Int}, (∀ q ∈ m, vldP q = true) → cmpL l m e = 0 → l = m ∧ e = 0 := by
  induction l with
  | nil =>
    intro m e hm h
    cases m with
    | nil => rw [cmpL] at h; exact ⟨rfl, h⟩
    | cons q s => rw [cmpL] at h; cases h
  | cons p r ih =>
    intro m e hm h
    cases m with
    | nil => rw [cmpL] at h; cases h
    | cons q s =>
      rw [cmpL_lex, lex_zero, lex_zero, ints_zero] at h
      obtain ⟨h1, h2, h3⟩ := h
      obtain ⟨k1, k2, k3, k4⟩ := cmpP_zero' (hi p (by simp)).1 (hm q (by simp)) (hi p (by simp)).2 h1
      obtain ⟨e1, e2⟩ := ih (fun x hx => hi x (by simp [hx])) (fun x hx => hm x (by simp [hx])) h3
      refine ⟨?_, e2⟩
      rw [e1]
      have : p = q := by cases p; cases q; simp_all
      rw [this]
theorem cmpT_zero (a : Tm) : ∀ b, vldT a = true → vldT b = true → cmpT a b = 0 → a = b := by
  induction a using Tm.ind with
  | h a ih =>
    intro b ha hb h
    rw [cmpT_eq] at h
    obtain ⟨h1, h2⟩ := cmpL_zero (fun p hp => ⟨vld_parts ha p hp, fun o ho b hv hv' h => ih p hp o ho b hv hv' h⟩) (vld_parts hb) h
    rw [ints_zero] at h2
    cases a; cases b; simp_all
theorem cmpP_zero {p q : Pt} (hp : vldP p = true) (hq : vldP q = true) (h : cmpP p q = 0) : eqv p q := cmpP_zero' hp hq (fun o _ b => cmpT_zero o b) h
abbrev av (l : List Pt) : Prop := ∀ p ∈ l, vldP p = true
theorem av.tl {p : Pt} {l : List Pt} (h : av (p :: l)) : av l := fun q hq => h q (by simp [hq])
theorem av.hd {p : Pt} {l : List Pt} (h : av (p :: l)) : vldP p = true := h p (by simp)
theorem vldP_nz {p : Pt} (h : vldP p = true) : p.coef ≠ 0 := fun e => by rw [vT0 e] at h; cases h
theorem nzc_yes {p : Pt} {l : List Pt} (h : p.coef ≠ 0) : nzc p l = p :: l := if_pos h
theorem mrg_nilL : ∀ {b : List Pt}, av b → mrg [] b = b
  | [], _ => by rw [mrg]
  | q :: s, h => by rw [mrg, nzc_yes (vldP_nz h.hd), mrg_nilL h.tl]
theorem mrg_nilR : ∀ {a : List Pt}, av a → mrg a [] = a
  | [], _ => by rw [mrg]
  | q :: s, h => by rw [mrg, nzc_yes (vldP_nz h.hd), mrg_nilR h.tl]
abbrev addQ (x p : Pt) : Pt := ⟨x.coef + p.coef, x.kind, x.var, x.dv, x.of⟩
theorem addQ_eq {x p : Pt} (h : eqv x p) : addQ x p = addP x p := by
  obtain ⟨h1, h2, h3, h4⟩ := h
  unfold addP addQ
  rw [h1, h2, h3, h4, Int.add_comm]
def insG : Bool → List Pt → Pt → List Pt
  | b, [], p => if b then [] else [p]
  | true, x :: r, p => x :: insG true r p
  | false, x :: r, p => if cmpP x p = 0 then nzc (addQ x p) (insG true r p) else if 0 < cmpP x p then p :: x :: insG true r p else x :: insG false r p
theorem insG_true : ∀ (l : List Pt) (p : Pt), insG true l p = l
  | [], p => rfl
  | x :: r, p => by rw [insG, insG_true r p]
theorem ins_mrg : ∀ {l : List Pt} {p : Pt}, av l → vldP p = true → insG false l p = mrg l [p]
  | [], p, _, hp => by rw [mrg, nzc_yes (vldP_nz hp), mrg]; rfl
  | x :: r, p, h, hp => by
    rw [insG, mrg]
    by_cases h0 : cmpP x p = 0
    · rw [if_pos h0, if_neg (by omega), if_neg (by omega), insG_true, addQ_eq (cmpP_zero h.hd hp h0), mrg_nilR h.tl]
    · rw [if_neg h0]
      by_cases h1 : 0 < cmpP x p
      · rw [if_pos h1, if_neg (by omega), if_pos h1, nzc_yes (vldP_nz hp), mrg_nilR h, insG_true]
      · rw [if_neg h1, if_pos (by omega), nzc_yes (vldP_nz h.hd), ins_mrg h.tl hp]
theorem mrg_cc (p : Pt) (r : List Pt) (q : Pt) (s : List Pt) : mrg (p :: r) (q :: s) = if cmpP p q < 0 then nzc p (mrg r (q :: s)) else if 0 < cmpP p q then nzc q (mrg (p :: r) s) else nzc (addP p q) (mrg r s) := by rw [mrg]
theorem mrg_step : ∀ {a : List Pt} {p : Pt} {b : List Pt}, av a → vldP p = true → av b → (∀ q ∈ b, cmpP p q < 0) → mrg (mrg a [p]) b = mrg a (p :: b)
  | [], p, b, _, hp, hb, hlt => by
    rw [mrg, mrg, nzc_yes (vldP_nz hp), mrg, nzc_yes (vldP_nz hp), mrg_nilL hb]
    cases b with
    | nil => rw [mrg, nzc_yes (vldP_nz hp), mrg]
    | cons q s => rw [mrg, if_pos (hlt q (by simp)), nzc_yes (vldP_nz hp), mrg_nilL hb]
  | x :: r, p, b, ha, hp, hb, hlt => by
    rw [mrg_cc x r p [], mrg_cc x r p b]
    by_cases h0 : cmpP x p < 0
    · rw [if_pos h0, if_pos h0, nzc_yes (vldP_nz ha.hd), nzc_yes (vldP_nz ha.hd)]
      have ih := mrg_step ha.tl hp hb hlt
      cases b with
      | nil => rw [mrg, nzc_yes (vldP_nz ha.hd), ih]
      | cons q s => rw [mrg, if_pos ((cmpP_C x p q).lt h0 (by have := hlt q (by simp); omega)), nzc_yes (vldP_nz ha.hd), ih]
    · rw [if_neg h0, if_neg h0]
      by_cases h1 : 0 < cmpP x p
      · rw [if_pos h1, if_pos h1, nzc_yes (vldP_nz hp), nzc_yes (vldP_nz hp), mrg_nilR ha]
        cases b with
        | nil => rw [mrg, nzc_yes (vldP_nz hp)]
        | cons q s => rw [mrg, if_pos (hlt q (by simp)), nzc_yes (vldP_nz hp)]
      · rw [if_neg h1, if_neg h1, mrg_nilR ha.tl]
        unfold nzc
        split
        · rename_i hc
          cases b with
          | nil => rw [mrg, nzc_yes hc]
          | cons q s =>
            have e : cmpP (addP x p) q = cmpP p q := by rw [cmpP_eq, cmpP_eq]; rfl
            rw [mrg, e, if_pos (hlt q (by simp)), nzc_yes hc]
        · rfl
theorem vldP_addP {p q : Pt} (hq : vldP q = true) (hc : (addP p q).coef ≠ 0) : vldP (addP p q) = true := by
  rw [vldP_eq] at hq ⊢
  rw [show decide ((addP p q).coef ≠ 0) = true from decide_eq_true hc]
  simp only [Bool.and_eq_true] at hq
  exact hq.2
theorem mrg_av : ∀ {a b : List Pt}, av a → av b → av (mrg a b)
  | [], b, _, hb => by rw [mrg_nilL hb]; exact hb
  | x :: r, [], ha, _ => by rw [mrg_nilR ha]; exact ha
  | x :: r, y :: s, ha, hb => by
    intro p hp
    rw [mrg] at hp
    split at hp
    · rcases mem_nzc hp with rfl | hp
      · exact ha.hd
      · exact mrg_av ha.tl hb p hp
    · split at hp
      · rcases mem_nzc hp with rfl | hp
        · exact hb.hd
        · exact mrg_av ha hb.tl p hp
      · unfold nzc at hp
        split at hp
        · rename_i hc
          rcases List.mem_cons.1 hp with rfl | hp
          · exact vldP_addP hb.hd hc
          · exact mrg_av ha.tl hb.tl p hp
        · exact mrg_av ha.tl hb.tl p hp
termination_by a b => a.length + b.length
abbrev foldI (l b : List Pt) : List Pt := b.foldl (fun l p => insG false l p) l
theorem fold_mrg : ∀ {b a : List Pt}, av a → av b → b.Pairwise (fun p q => cmpP p q < 0) → foldI a b = mrg a b
  | [], a, ha, _, _ => by rw [mrg_nilR ha]; rfl
  | p :: b, a, ha, hb, hp => by
    rw [List.pairwise_cons] at hp
    show foldI (insG false a p) b = _
    rw [ins_mrg ha hb.hd, fold_mrg (mrg_av ha (fun q hq => by simp at hq; rw [hq]; exact hb.hd)) hb.tl hp.2, mrg_step ha hb.hd hb.tl hp.1]
abbrev pw (l : List Pt) : Prop := l.Pairwise (fun p q => cmpP p q < 0)
theorem ascB_pw : ∀ {l : List Pt}, ascB l = true → pw l
  | [], _ => .nil
  | [p], _ => by simp [pw]
  | p :: q :: r, h => by
    simp only [ascB, Bool.and_eq_true, decide_eq_true_eq] at h
    have ih : pw (q :: r) := ascB_pw h.2
    refine List.pairwise_cons.2 ⟨fun u hu => ?_, ih⟩
    rcases List.mem_cons.1 hu with rfl | hu
    · exact h.1
    · exact (cmpP_C p q u).lt h.1 (by have := (List.pairwise_cons.1 ih).1 u hu; omega)
theorem pw_ascB : ∀ {l : List Pt}, pw l → ascB l = true
  | [], _ => rfl
  | [p], _ => rfl
  | p :: q :: r, h => by
    have h' := List.pairwise_cons.1 h
    simp only [ascB, Bool.and_eq_true, decide_eq_true_eq]
    exact ⟨h'.1 q (by simp), pw_ascB h'.2⟩
theorem pw_nzc {p : Pt} {l : List Pt} (h : pw l) (hp : ∀ q ∈ l, cmpP p q < 0) : pw (nzc p l) := by
  unfold nzc; split
  · exact List.pairwise_cons.2 ⟨hp, h⟩
  · exact h
theorem nzc_lo {u p : Pt} {l : List Pt} (h : ∀ q ∈ l, cmpP u q < 0) (hp : cmpP u p < 0) : ∀ q ∈ nzc p l, cmpP u q < 0 := fun q hq => by
  rcases mem_nzc hq with rfl | hq
  · exact hp
  · exact h q hq
theorem mrg_lo (u : Pt) : ∀ {a b : List Pt}, (∀ q ∈ a, cmpP u q < 0) → (∀ q ∈ b, cmpP u q < 0) → ∀ q ∈ mrg a b, cmpP u q < 0
  | [], [], _, _ => by rw [mrg]; simp
  | [], y :: s, ha, hb => by rw [mrg]; exact nzc_lo (mrg_lo u ha fun q hq => hb q (by simp [hq])) (hb y (by simp))
  | x :: r, [], ha, hb => by rw [mrg]; exact nzc_lo (mrg_lo u (fun q hq => ha q (by simp [hq])) hb) (ha x (by simp))
  | x :: r, y :: s, ha, hb => by
    have ha' : ∀ q ∈ r, cmpP u q < 0 := fun q hq => ha q (by simp [hq])
    have hb' : ∀ q ∈ s, cmpP u q < 0 := fun q hq => hb q (by simp [hq])
    rw [mrg]
    split
    · exact nzc_lo (mrg_lo u ha' hb) (ha x (by simp))
    · split
      · exact nzc_lo (mrg_lo u ha hb') (hb y (by simp))
      · refine nzc_lo (mrg_lo u ha' hb') ?_
        have e : cmpP u (addP x y) = cmpP u y := by rw [cmpP_eq, cmpP_eq]; rfl
        rw [e]; exact hb y (by simp)
termination_by a b => a.length + b.length
theorem mrg_pw : ∀ {a b : List Pt}, pw a → pw b → pw (mrg a b)
  | [], [], _, _ => by rw [mrg]; exact .nil
  | [], y :: s, ha, hb => by
    have h := List.pairwise_cons.1 hb
    rw [mrg]; exact pw_nzc (mrg_pw ha h.2) (mrg_lo y (by simp) h.1)
  | x :: r, [], ha, hb => by
    have h := List.pairwise_cons.1 ha
    rw [mrg]; exact pw_nzc (mrg_pw h.2 hb) (mrg_lo x h.1 (by simp))
  | x :: r, y :: s, ha, hb => by
    have h := List.pairwise_cons.1 ha
    have h' := List.pairwise_cons.1 hb
    rw [mrg]
    split
    · rename_i h0
      refine pw_nzc (mrg_pw h.2 hb) (mrg_lo x h.1 fun q hq => ?_)
      rcases List.mem_cons.1 hq with rfl | hq
      · exact h0
      · exact (cmpP_C x y q).lt h0 (by have := h'.1 q hq; omega)
    · split
      · rename_i h1
        have h1' : cmpP y x < 0 := by rw [cmpP_neg]; omega
        refine pw_nzc (mrg_pw ha h'.2) (mrg_lo y (fun q hq => ?_) h'.1)
        rcases List.mem_cons.1 hq with rfl | hq
        · exact h1'
        · exact (cmpP_C y x q).lt h1' (by have := h.1 q hq; omega)
      · have h1' : cmpP y x ≤ 0 := by rw [cmpP_neg]; omega
        have e : ∀ q, cmpP (addP x y) q = cmpP y q := fun q => by rw [cmpP_eq, cmpP_eq]; rfl
        refine pw_nzc (mrg_pw h.2 h'.2) (mrg_lo _ (fun q hq => ?_) fun q hq => by rw [e]; exact h'.1 q hq)
        rw [e]
        exact (cmpP_C y x q).tl h1' (h.1 q hq)
termination_by a b => a.length + b.length
theorem vld_pw {t : Tm} (h : vldT t = true) : pw t.ps := by
  rw [vldT_eq] at h
  simp only [Bool.and_eq_true] at h
  exact ascB_pw h.1.2
theorem sum_vld {a b : Tm} (ha : vldT a = true) (hb : vldT b = true) : vldT (lim (sumT a b)).1 = true := by
  unfold lim; split
  · rename_i hs
    rw [vldT_eq, hs, vldPs_iff.2 (mrg_av (vld_parts ha) (vld_parts hb)), pw_ascB (mrg_pw (vld_pw ha) (vld_pw hb))]; rfl
  · exact vld0
theorem valP_eqv (r : List RV) {p q : Pt} (h : eqv p q) : valP r p = valP r q := by
  obtain ⟨h1, h2, h3, h4⟩ := h
  rw [valP_eq, valP_eq, h1, h2, h3, h4]
theorem valP_addP (r : List RV) (p q : Pt) : valP r (addP p q) = valP r q := valP_eqv r ⟨rfl, rfl, rfl, rfl⟩
theorem sumV_nzc (r : List RV) (p : Pt) (l : List Pt) : sumV r (nzc p l) = p.coef * (valP r p).1 + sumV r l := by
  unfold nzc; split
  · rw [sumV]
  · rename_i h
    rw [Classical.not_not.1 h]; omega
theorem sumV_mrg (r : List RV) : ∀ {a b : List Pt}, av a → av b → sumV r (mrg a b) = sumV r a + sumV r b
  | [], b, _, hb => by rw [mrg_nilL hb, sumV]; omega
  | x :: l, [], ha, _ => by rw [mrg_nilR ha]; simp only [sumV]; omega
  | x :: l, y :: s, ha, hb => by
    rw [mrg]
    split
    · rw [sumV_nzc, sumV_mrg r ha.tl hb]; simp only [sumV]; omega
    · split
      · rw [sumV_nzc, sumV_mrg r ha hb.tl]; simp only [sumV]; omega
      · rw [sumV_nzc, sumV_mrg r ha.tl hb.tl, valP_addP]
        have e := valP_eqv r (cmpP_zero ha.hd hb.hd (by omega))
        simp only [sumV, e]
        show (y.coef + x.coef) * _ + _ = _
        rw [Int.add_mul]; omega
termination_by a b => a.length + b.length
theorem valP_mrg (r : List RV) {a b : List Pt} (ha : ∀ p ∈ a, p.coef.natAbs ≤ 2 ^ 20) (hb : ∀ p ∈ b, p.coef.natAbs ≤ 2 ^ 20) (va : ∀ p ∈ a, (valP r p).2 = true) (vb : ∀ p ∈ b, (valP r p).2 = true) : ∀ p ∈ mrg a b, (valP r p).2 = true := fun p hp => by
  obtain ⟨⟨q, hq, h1, h2, h3, h4⟩, _⟩ := mrg_mem a b ha hb p hp
  rw [valP_eqv r ⟨h1, h4, h2, h3⟩]
  exact (List.mem_append.1 hq).elim (va q) (vb q)
theorem add_val {r : List RV} {a b : Tm} (ha : vldT a = true) (hb : vldT b = true) (hs : (add a b).2 = 0) (va : (valT r a).2 = true) (vb : (valT r b).2 = true) : valT r (add a b).1 = (w ((valT r a).1 + (valT r b).1), true) := by
  have ca := (vldT_bok ha).c
  have cb := (vldT_bok hb).c
  have pa := valT_ok ca va
  have pb := valT_ok cb vb
  obtain ⟨h1, h2⟩ := lim_ok hs
  unfold add
  rw [h1, valT_sum ca pa, valT_sum cb pb]
  have hm : R64 (sumT a b).c := (sum_bok ha hb).1.c
  rw [valT_sum hm (valP_mrg r (vld_coef ha).2 (vld_coef hb).2 pa pb)]
  refine congrArg (fun x => (x, true)) (w_md ?_)
  show md (a.c + b.c + sumV r (mrg a.ps b.ps)) _
  rw [sumV_mrg r (vld_parts ha) (vld_parts hb)]
  have e : a.c + b.c + (sumV r a.ps + sumV r b.ps) = (a.c + sumV r a.ps) + (b.c + sumV r b.ps) := by omega
  rw [e]
  exact ((md_w _).add (md_w _)).symm
end Go.Proofs.YtnnoafgdjjpidaaGreatDoor.W
