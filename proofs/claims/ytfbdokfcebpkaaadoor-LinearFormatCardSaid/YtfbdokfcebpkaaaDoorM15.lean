/- Parts of the proof, one after the other: W18, W19, W20, W21, W22, W23, R1, W26, R2, W27. No condition. -/
import Derived.Test.YtfbdokfcebpkaaaDoorM14
namespace Go.Proofs.YtfbdokfcebpkaaaDoor.W
open Go.RowKit E M
set_option linter.unusedVariables false
set_option linter.unusedSimpArgs false
set_option linter.unusedSectionVars false
theorem vld_p {t : Tm} (h : vldT t = true) {i : Nat} (hi : i < t.ps.length) : finP t.ps[i] ∧ t.ps[i].coef.natAbs ≤ 2 ^ 20 := ⟨vldP_fin' (vld_parts h _ (List.getElem_mem hi)), (vld_coef h).2 _ (List.getElem_mem hi)⟩
theorem map_put {zs : List (List E.T)} {out : List Pt} {p : Pt} (h : zs = out.map ptT) : zs ++ [ptT p] = (out ++ [p]).map ptT := by rw [h]; simp

set_option maxHeartbeats 4000000 in
set_option maxRecDepth 20000 in
theorem add_any (a b : Tm) (ha : vldT a = true) (hb : vldT b = true) (hN : a.cnt + b.cnt ≤ 100000) : Pure Tryd.prog 27 [tmC a, tmC b] (trC (add a b)) := by
  intro H
  refine Spec.enter Tryd.func27 rfl ?_
  refine AW.wk (Wk.keep 97 [(0, .c (tmC a)), (1, .c (tmC b))] [] (H) rfl ⟨rfl, rfl, trivial⟩ trivial (fun _ _ h => h) rfl) ?_
  refine AW.seq ?_
  refine AW.reg ?_
  refine SeqK.r (b_box (r := [_, _]) rfl rfl rfl rfl rfl rfl) rfl ?_
  refine SeqK.r (b_box (r := [_, _]) rfl rfl rfl rfl rfl rfl) rfl ?_
  refine SeqK.r (b_alloc (r := [_, _]) rfl rfl Fx.ze24 rfl rfl rfl rfl) rfl ?_
  refine SeqK.q (q_asC rfl rfl) rfl rfl rfl ?_
  refine SeqK.nil ?_
  refine AW.seq ?_
  have hla := len_ps a
  have hlb := len_ps b
  have hca := vld_coef ha
  have hcb := vld_coef hb
  refine AW.reg ?_
  refine SeqK.q (q_fieldL _ rfl Fx.fl24_0 rfl rfl) rfl rfl rfl ?_
  refine SeqK.r (b_load (r := .a _) rfl Fx.ty2 rfl rfl rfl rfl rfl rfl) rfl ?_
  refine SeqK.q (q_fieldL _ rfl Fx.fl24_0 rfl rfl) rfl rfl rfl ?_
  refine SeqK.r (b_load (r := .a _) rfl Fx.ty2 rfl rfl rfl rfl rfl rfl) rfl ?_
  refine SeqK.q (q_add _ rfl rfl rfl (w64 (by omega) (by omega))) rfl rfl rfl ?_
  refine SeqK.q (q_build2 (zs := [_, _]) (r := [_, _]) [(0, 1), (1, 1)] _ rfl Fx.ze24 rfl Fx.bp24 rfl rfl rfl rfl) rfl rfl rfl ?_
  refine SeqK.r (b_alloc (r := [_, _]) rfl rfl Fx.ze24 rfl rfl rfl rfl) rfl ?_
  refine SeqK.r (b_store (r := [_, _]) rfl rfl Fx.ty24 rfl rfl rfl rfl rfl rfl) rfl ?_
  refine SeqK.nil ?_
  refine AW.seq ?_
  refine AW.seq ?_
  refine AW.reg ?_
  refine SeqK.q (q_asC rfl rfl) rfl rfl rfl ?_
  refine SeqK.q (q_asC rfl rfl) rfl rfl rfl ?_
  refine SeqK.nil ?_
  refine AW.block ?_
  refine AW.tipL 6 1 62 5 rfl rfl (fun k0 hk0 => ?_)
  refine AW.loop (fun (c : Nat) s => ∃ (kt : Nat) (i j : Nat) (out : List Pt) (zs : List (List E.T)), (i ≤ a.ps.length ∧ j ≤ b.ps.length ∧ c = (a.ps.length - i) + (b.ps.length - j) ∧ H kt = none ∧ out.length ≤ i + j ∧ zs = out.map ptT ∧ out ++ mrg (a.ps.drop i) (b.ps.drop j) = mrg a.ps b.ps) ∧ s = ⟨97, sp [(2, .lp 2 0), (3, .lp 3 0), (4, .lp 4 0), (5, .c (iC 0)), (6, .lp 6 0), (7, iX .i64 ((i : Nat) : Int)), (8, iX .i64 ((j : Nat) : Int))], lv [(2, .box [.t (.v (.int .i64 a.c)), .t (.sl .un 5 (a.ps.map ptT))]), (3, .box [.t (.v (.int .i64 b.c)), .t (.sl .un 5 (b.ps.map ptT))]), (4, .box [.t (.v (.int .i64 0)), .t (.v (.slice none 0 0))]), (6, .box [.t (.v (.int .i64 (a.c + b.c))), .ts kt .ne 5 zs])], upd H kt (some (.tip 62 5 zs.length))⟩) (fun c => c) ((a.ps.length - 0) + (b.ps.length - 0)) ⟨_, Wk.keep 97 [(2, .lp 2 0), (3, .lp 3 0), (4, .lp 4 0), (5, .c (iC 0)), (6, .lp 6 0), (7, iX .i64 (((0) : Nat) : Int)), (8, iX .i64 (((0) : Nat) : Int))] [(2, .box [.t (.v (.int .i64 a.c)), .t (.sl .un 5 (a.ps.map ptT))]), (3, .box [.t (.v (.int .i64 b.c)), .t (.sl .un 5 (b.ps.map ptT))]), (4, .box [.t (.v (.int .i64 0)), .t (.v (.slice none 0 0))]), (6, .box [.t (.v (.int .i64 (a.c + b.c))), .ts (k0) .ne 5 ([])])] (upd H (k0) (some (.tip 62 5 ([]).length))) rfl ⟨rfl, rfl, rfl, rfl, rfl, rfl, rfl, trivial⟩ ⟨rfl, rfl, rfl, rfl, trivial⟩ (fun _ _ h => h) rfl, k0, 0, 0, [], [], ⟨Nat.zero_le _, Nat.zero_le _, rfl, hk0, by simp, rfl, rfl⟩, rfl⟩ (fun c s hs => ?_)
  obtain ⟨kt, i, j, out, zs, ⟨hi0, hj0, hc, hkt, hol, hzs, hI⟩, rfl⟩ := hs
  refine AW.seq ?_
  refine AW.seq ?_
  refine AW.reg ?_
  refine SeqK.q (q_mvC rfl rfl) rfl rfl rfl ?_
  refine SeqK.q (q_fieldL _ rfl Fx.fl24_1 rfl rfl) rfl rfl rfl ?_
  refine SeqK.r (b_load (r := .a _) rfl Fx.ty22 rfl rfl rfl rfl rfl rfl) rfl ?_
  refine SeqK.q (q_len rfl Fx.un22 rfl) rfl rfl rfl ?_
  refine SeqK.q (q_lss rfl rfl rfl) rfl rfl rfl ?_
  refine SeqK.qD (q_mvC rfl rfl) rfl rfl rfl (fun g25 => ?_) (fun g25 => ?_)
  ·
    have hi : i < a.ps.length := by rw [List.length_map] at g25; omega
    have hpi := vld_p ha hi
    refine SeqK.off rfl rfl rfl rfl rfl rfl ?_
    refine SeqK.off rfl rfl rfl rfl rfl rfl ?_
    refine SeqK.off rfl rfl rfl rfl rfl rfl ?_
    refine SeqK.off rfl rfl rfl rfl rfl rfl ?_
    refine SeqK.off rfl rfl rfl rfl rfl rfl ?_
    refine SeqK.q (q_pkT rfl rfl rfl) rfl rfl rfl ?_
    refine SeqK.nil ?_
    refine AW.condT rfl ?_
    refine AW.skip ?_
    refine AW.block ?_
    refine AW.seq ?_
    refine AW.reg ?_
    refine SeqK.q (q_asC rfl rfl) rfl rfl rfl ?_
    refine SeqK.nil ?_
    refine AW.seq ?_
    refine AW.block ?_
    refine AW.seq ?_
    refine AW.reg ?_
    refine SeqK.q (q_mvC rfl rfl) rfl rfl rfl ?_
    refine SeqK.q (q_fieldL _ rfl Fx.fl24_1 rfl rfl) rfl rfl rfl ?_
    refine SeqK.r (b_load (r := .a _) rfl Fx.ty22 rfl rfl rfl rfl rfl rfl) rfl ?_
    refine SeqK.q (q_len rfl Fx.un22 rfl) rfl rfl rfl ?_
    refine SeqK.q (q_eql rfl rfl rfl) rfl rfl rfl ?_
    refine SeqK.q (q_asC rfl rfl) rfl rfl rfl ?_
    refine SeqK.nil ?_
    refine AW.condD rfl (fun h43 => ?_) (fun h43 => ?_)
    ·
      exact absurd h43 (by rw [List.length_map]; omega)
    ·
      refine AW.seq ?_
      refine AW.reg ?_
      refine SeqK.q (q_mvC rfl rfl) rfl rfl rfl ?_
      refine SeqK.q (q_fieldL _ rfl Fx.fl24_1 rfl rfl) rfl rfl rfl ?_
      refine SeqK.r (b_load (r := .a _) rfl Fx.ty22 rfl rfl rfl rfl rfl rfl) rfl ?_
      refine SeqK.q (q_len rfl Fx.un22 rfl) rfl rfl rfl ?_
      refine SeqK.q (q_eql rfl rfl rfl) rfl rfl rfl ?_
      refine SeqK.q (q_asC rfl rfl) rfl rfl rfl ?_
      refine SeqK.nil ?_
      refine AW.condD rfl (fun h49 => ?_) (fun h49 => ?_)
      ·
        refine AW.reg ?_
        refine SeqK.q (q_asC rfl rfl) rfl rfl rfl ?_
        refine SeqK.nil ?_
        refine AW.seq ?_
        refine AW.reg ?_
        refine SeqK.r (b_alloc (r := [_, _, _, _, _]) rfl rfl Fx.ze62 rfl rfl rfl rfl) rfl ?_
        refine SeqK.nil ?_
        refine AW.seq ?_
        refine AW.seq ?_
        refine AW.reg ?_
        refine SeqK.q (q_mvC rfl rfl) rfl rfl rfl ?_
        refine SeqK.q (q_leq rfl rfl rfl) rfl rfl rfl ?_
        refine SeqK.nil ?_
        refine AW.condD rfl (fun h56 => ?_) (fun h56 => ?_)
        ·
          refine AW.seq ?_
          refine AW.reg ?_
          refine SeqK.q (q_fieldL _ rfl Fx.fl24_1 rfl rfl) rfl rfl rfl ?_
          refine SeqK.r (b_load (r := .a _) rfl Fx.ty22 rfl rfl rfl rfl rfl rfl) rfl ?_
          refine SeqK.q (q_mvC rfl rfl) rfl rfl rfl ?_
          refine SeqK.q (q_index _ rfl Fx.sl22 rfl rfl (by omega) (idx_map (f := ptT) hi)) rfl rfl rfl ?_
          refine SeqK.q (q_load (.g [_, _, _, _, _]) rfl Fx.ty62 rfl rfl rfl) rfl rfl rfl ?_
          refine SeqK.r (b_store (r := [_, _, _, _, _]) rfl rfl Fx.ty62 rfl rfl rfl rfl rfl rfl) rfl ?_
          refine SeqK.nil ?_
          refine AW.reg ?_
          refine SeqK.q (q_mvC rfl rfl) rfl rfl rfl ?_
          refine SeqK.q (q_add _ rfl rfl rfl (w64 (by omega) (by omega))) rfl rfl rfl ?_
          refine SeqK.q (q_asC rfl rfl) rfl rfl rfl ?_
          refine SeqK.nil ?_
          refine AW.seq ?_
          refine AW.seq ?_
          refine AW.reg ?_
          refine SeqK.q (q_mvC rfl rfl) rfl rfl rfl ?_
          refine SeqK.q (q_geq rfl rfl rfl) rfl rfl rfl ?_
          refine SeqK.nil ?_
          refine AW.condD rfl (fun h65 => ?_) (fun h65 => ?_)
          ·
            exact absurd h65 (by omega)
          ·
            refine AW.skip ?_
            refine AW.seq ?_
            refine AW.reg ?_
            refine SeqK.q (q_fieldL _ rfl Fx.fl62_0 rfl rfl) rfl rfl rfl ?_
            refine SeqK.r (b_load (r := .a _) rfl Fx.ty2 rfl rfl rfl rfl rfl rfl) rfl ?_
            refine SeqK.q (q_neq rfl rfl rfl) rfl rfl rfl ?_
            refine SeqK.nil ?_
            refine AW.condD rfl (fun h82 => ?_) (fun h82 => ?_)
            ·
              refine AW.reg ?_
              refine SeqK.q (q_fieldL _ rfl Fx.fl24_1 rfl rfl) rfl rfl rfl ?_
              refine SeqK.r (b_load (r := .a _) rfl Fx.ty22 rfl rfl rfl rfl rfl rfl) rfl ?_
              refine SeqK.r (b_load (r := .g [_, _, _, _, _]) rfl Fx.ty62 rfl rfl rfl rfl rfl rfl) rfl ?_
              refine SeqK.q (q_buildSlice _ rfl Fx.el22 rfl (by decide) rfl) rfl rfl rfl ?_
              refine SeqK.app1 rfl (hkt) rfl Fx.el22 rfl rfl (by have hzl : zs.length = out.length := (by rw [hzs, List.length_map]); constructor <;> (simp; omega)) rfl rfl (fun k87 hk87 => ?_)
              refine SeqK.q (q_fieldL _ rfl Fx.fl24_1 rfl rfl) rfl rfl rfl ?_
              refine SeqK.r (b_store (r := [_, _]) rfl rfl Fx.ty22 rfl rfl rfl rfl rfl rfl) rfl ?_
              refine SeqK.nil ?_
              exact ⟨((a.ps.length - (i + 1)) + (b.ps.length - (j))), _, Wk.keep 97 [(2, .lp 2 0), (3, .lp 3 0), (4, .lp 4 0), (5, .c (iC 0)), (6, .lp 6 0), (7, iX .i64 (((i + 1) : Nat) : Int)), (8, iX .i64 (((j) : Nat) : Int))] [(2, .box [.t (.v (.int .i64 a.c)), .t (.sl .un 5 (a.ps.map ptT))]), (3, .box [.t (.v (.int .i64 b.c)), .t (.sl .un 5 (b.ps.map ptT))]), (4, .box [.t (.v (.int .i64 0)), .t (.v (.slice none 0 0))]), (6, .box [.t (.v (.int .i64 (a.c + b.c))), .ts (k87) .ne 5 (zs ++ [ptT (a.ps[i])])])] (upd H (k87) (some (.tip 62 5 (zs ++ [ptT (a.ps[i])]).length))) rfl ⟨rfl, rfl, rfl, rfl, rfl, rfl, rfl, trivial⟩ ⟨rfl, rfl, rfl, rfl, trivial⟩ (fun _ _ h => h) rfl, by omega, k87, i + 1, j, out ++ [a.ps[i]], zs ++ [ptT (a.ps[i])], ⟨by omega, by omega, rfl, hk87, by simp; omega, map_put hzs, put_nz (mrg_l hi (by rw [List.length_map] at h49; omega)) hI h82⟩, rfl⟩
            ·
              refine AW.skip ?_
              exact ⟨((a.ps.length - (i + 1)) + (b.ps.length - (j))), _, Wk.keep 97 [(2, .lp 2 0), (3, .lp 3 0), (4, .lp 4 0), (5, .c (iC 0)), (6, .lp 6 0), (7, iX .i64 (((i + 1) : Nat) : Int)), (8, iX .i64 (((j) : Nat) : Int))] [(2, .box [.t (.v (.int .i64 a.c)), .t (.sl .un 5 (a.ps.map ptT))]), (3, .box [.t (.v (.int .i64 b.c)), .t (.sl .un 5 (b.ps.map ptT))]), (4, .box [.t (.v (.int .i64 0)), .t (.v (.slice none 0 0))]), (6, .box [.t (.v (.int .i64 (a.c + b.c))), .ts (kt) .ne 5 (zs)])] (upd H (kt) (some (.tip 62 5 (zs).length))) rfl ⟨rfl, rfl, rfl, rfl, rfl, rfl, rfl, trivial⟩ ⟨rfl, rfl, rfl, rfl, trivial⟩ (fun _ _ h => h) rfl, by omega, kt, i + 1, j, out, zs, ⟨by omega, by omega, rfl, hkt, by omega, hzs, put_z (mrg_l hi (by rw [List.length_map] at h49; omega)) hI h82⟩, rfl⟩
        ·
          exact absurd (by omega) h56
      ·
        have hj : j < b.ps.length := by rw [List.length_map] at h49; omega
        have hpj := vld_p hb hj
        refine AW.draw Fx.mo ?_
        refine LexK.q (q_fieldL _ rfl Fx.fl24_1 rfl rfl) rfl rfl rfl ?_
        refine LexK.r (b_load (r := .a _) rfl Fx.ty22 rfl rfl rfl rfl rfl rfl) rfl ?_
        refine LexK.q (q_mvC rfl rfl) rfl rfl rfl ?_
        refine LexK.q (q_index _ rfl Fx.sl22 rfl rfl (by omega) (idx_map (f := ptT) hi)) rfl rfl rfl ?_
        refine LexK.q (q_load (.g [_, _, _, _, _]) rfl Fx.ty62 rfl rfl rfl) rfl rfl rfl ?_
        refine LexK.q (q_fieldL _ rfl Fx.fl24_1 rfl rfl) rfl rfl rfl ?_
        refine LexK.r (b_load (r := .a _) rfl Fx.ty22 rfl rfl rfl rfl rfl rfl) rfl ?_
        refine LexK.q (q_mvC rfl rfl) rfl rfl rfl ?_
        refine LexK.q (q_index _ rfl Fx.sl22 rfl rfl (by omega) (idx_map (f := ptT) hj)) rfl rfl rfl ?_
        refine LexK.q (q_load (.g [_, _, _, _, _]) rfl Fx.ty62 rfl rfl rfl) rfl rfl rfl ?_
        refine LexK.q (q_call _ rfl Fx.fn41 rfl (cmpPart_any _ _ hpi.1 hpj.1 (by have := cnt_p (List.getElem_mem hi); omega)) rfl) rfl rfl rfl ?_
        refine LexK.q (q_asC rfl rfl) rfl rfl rfl ?_
        refine LexK.nil (by kernel_rfl) ?_
        refine AW.seq ?_
        refine AW.reg ?_
        refine SeqK.r (b_alloc (r := [_, _, _, _, _]) rfl rfl Fx.ze62 rfl rfl rfl rfl) rfl ?_
        refine SeqK.nil ?_
        refine AW.seq ?_
        refine AW.seq ?_
        refine AW.reg ?_
        refine SeqK.q (q_mvC rfl rfl) rfl rfl rfl ?_
        refine SeqK.q (q_leq rfl rfl rfl) rfl rfl rfl ?_
        refine SeqK.nil ?_
        refine AW.condD rfl (fun h56 => ?_) (fun h56 => ?_)
        ·
          refine AW.seq ?_
          refine AW.reg ?_
          refine SeqK.q (q_fieldL _ rfl Fx.fl24_1 rfl rfl) rfl rfl rfl ?_
          refine SeqK.r (b_load (r := .a _) rfl Fx.ty22 rfl rfl rfl rfl rfl rfl) rfl ?_
          refine SeqK.q (q_mvC rfl rfl) rfl rfl rfl ?_
          refine SeqK.q (q_index _ rfl Fx.sl22 rfl rfl (by omega) (idx_map (f := ptT) hi)) rfl rfl rfl ?_
          refine SeqK.q (q_load (.g [_, _, _, _, _]) rfl Fx.ty62 rfl rfl rfl) rfl rfl rfl ?_
          refine SeqK.r (b_store (r := [_, _, _, _, _]) rfl rfl Fx.ty62 rfl rfl rfl rfl rfl rfl) rfl ?_
          refine SeqK.nil ?_
          refine AW.reg ?_
          refine SeqK.q (q_mvC rfl rfl) rfl rfl rfl ?_
          refine SeqK.q (q_add _ rfl rfl rfl (w64 (by omega) (by omega))) rfl rfl rfl ?_
          refine SeqK.q (q_asC rfl rfl) rfl rfl rfl ?_
          refine SeqK.nil ?_
          refine AW.seq ?_
          refine AW.seq ?_
          refine AW.reg ?_
          refine SeqK.q (q_mvC rfl rfl) rfl rfl rfl ?_
          refine SeqK.q (q_geq rfl rfl rfl) rfl rfl rfl ?_
          refine SeqK.nil ?_
          refine AW.condD rfl (fun h65 => ?_) (fun h65 => ?_)
          ·
            refine AW.seq ?_
            refine AW.reg ?_
            refine SeqK.q (q_fieldL _ rfl Fx.fl62_0 rfl rfl) rfl rfl rfl ?_
            refine SeqK.r (b_load (r := .a _) rfl Fx.ty2 rfl rfl rfl rfl rfl rfl) rfl ?_
            refine SeqK.q (q_asC rfl rfl) rfl rfl rfl ?_
            refine SeqK.nil ?_
            refine AW.seq ?_
            refine AW.reg ?_
            refine SeqK.q (q_fieldL _ rfl Fx.fl24_1 rfl rfl) rfl rfl rfl ?_
            refine SeqK.r (b_load (r := .a _) rfl Fx.ty22 rfl rfl rfl rfl rfl rfl) rfl ?_
            refine SeqK.q (q_mvC rfl rfl) rfl rfl rfl ?_
            refine SeqK.q (q_index _ rfl Fx.sl22 rfl rfl (by omega) (idx_map (f := ptT) hj)) rfl rfl rfl ?_
            refine SeqK.q (q_load (.g [_, _, _, _, _]) rfl Fx.ty62 rfl rfl rfl) rfl rfl rfl ?_
            refine SeqK.r (b_store (r := [_, _, _, _, _]) rfl rfl Fx.ty62 rfl rfl rfl rfl rfl rfl) rfl ?_
            refine SeqK.nil ?_
            refine AW.seq ?_
            refine AW.reg ?_
            refine SeqK.q (q_fieldL _ rfl Fx.fl62_0 rfl rfl) rfl rfl rfl ?_
            refine SeqK.r (b_load (r := .a _) rfl Fx.ty2 rfl rfl rfl rfl rfl rfl) rfl ?_
            refine SeqK.q (q_mvC rfl rfl) rfl rfl rfl ?_
            refine SeqK.q (q_add _ rfl rfl rfl (w64 (by omega) (by omega))) rfl rfl rfl ?_
            refine SeqK.q (q_fieldL _ rfl Fx.fl62_0 rfl rfl) rfl rfl rfl ?_
            refine SeqK.r (b_store (r := [_, _, _, _, _]) rfl rfl Fx.ty2 rfl rfl rfl rfl rfl rfl) rfl ?_
            refine SeqK.nil ?_
            refine AW.reg ?_
            refine SeqK.q (q_mvC rfl rfl) rfl rfl rfl ?_
            refine SeqK.q (q_add _ rfl rfl rfl (w64 (by omega) (by omega))) rfl rfl rfl ?_
            refine SeqK.q (q_asC rfl rfl) rfl rfl rfl ?_
            refine SeqK.nil ?_
            refine AW.seq ?_
            refine AW.reg ?_
            refine SeqK.q (q_fieldL _ rfl Fx.fl62_0 rfl rfl) rfl rfl rfl ?_
            refine SeqK.r (b_load (r := .a _) rfl Fx.ty2 rfl rfl rfl rfl rfl rfl) rfl ?_
            refine SeqK.q (q_neq rfl rfl rfl) rfl rfl rfl ?_
            refine SeqK.nil ?_
            refine AW.condD rfl (fun h82 => ?_) (fun h82 => ?_)
            ·
              refine AW.reg ?_
              refine SeqK.q (q_fieldL _ rfl Fx.fl24_1 rfl rfl) rfl rfl rfl ?_
              refine SeqK.r (b_load (r := .a _) rfl Fx.ty22 rfl rfl rfl rfl rfl rfl) rfl ?_
              refine SeqK.r (b_load (r := .g [_, _, _, _, _]) rfl Fx.ty62 rfl rfl rfl rfl rfl rfl) rfl ?_
              refine SeqK.q (q_buildSlice _ rfl Fx.el22 rfl (by decide) rfl) rfl rfl rfl ?_
              refine SeqK.app1 rfl (hkt) rfl Fx.el22 rfl rfl (by have hzl : zs.length = out.length := (by rw [hzs, List.length_map]); constructor <;> (simp; omega)) rfl rfl (fun k87 hk87 => ?_)
              refine SeqK.q (q_fieldL _ rfl Fx.fl24_1 rfl rfl) rfl rfl rfl ?_
              refine SeqK.r (b_store (r := [_, _]) rfl rfl Fx.ty22 rfl rfl rfl rfl rfl rfl) rfl ?_
              refine SeqK.nil ?_
              exact ⟨((a.ps.length - (i + 1)) + (b.ps.length - (j + 1))), _, Wk.keep 97 [(2, .lp 2 0), (3, .lp 3 0), (4, .lp 4 0), (5, .c (iC 0)), (6, .lp 6 0), (7, iX .i64 (((i + 1) : Nat) : Int)), (8, iX .i64 (((j + 1) : Nat) : Int))] [(2, .box [.t (.v (.int .i64 a.c)), .t (.sl .un 5 (a.ps.map ptT))]), (3, .box [.t (.v (.int .i64 b.c)), .t (.sl .un 5 (b.ps.map ptT))]), (4, .box [.t (.v (.int .i64 0)), .t (.v (.slice none 0 0))]), (6, .box [.t (.v (.int .i64 (a.c + b.c))), .ts (k87) .ne 5 (zs ++ [ptT (addP a.ps[i] b.ps[j])])])] (upd H (k87) (some (.tip 62 5 (zs ++ [ptT (addP a.ps[i] b.ps[j])]).length))) rfl ⟨rfl, rfl, rfl, rfl, rfl, rfl, rfl, trivial⟩ ⟨rfl, rfl, rfl, rfl, trivial⟩ (fun _ _ h => h) rfl, by omega, k87, i + 1, j + 1, out ++ [addP a.ps[i] b.ps[j]], zs ++ [ptT (addP a.ps[i] b.ps[j])], ⟨by omega, by omega, rfl, hk87, by simp; omega, map_put hzs, put_nz (mrg_eq hi hj (by omega)) hI h82⟩, rfl⟩
            ·
              refine AW.skip ?_
              exact ⟨((a.ps.length - (i + 1)) + (b.ps.length - (j + 1))), _, Wk.keep 97 [(2, .lp 2 0), (3, .lp 3 0), (4, .lp 4 0), (5, .c (iC 0)), (6, .lp 6 0), (7, iX .i64 (((i + 1) : Nat) : Int)), (8, iX .i64 (((j + 1) : Nat) : Int))] [(2, .box [.t (.v (.int .i64 a.c)), .t (.sl .un 5 (a.ps.map ptT))]), (3, .box [.t (.v (.int .i64 b.c)), .t (.sl .un 5 (b.ps.map ptT))]), (4, .box [.t (.v (.int .i64 0)), .t (.v (.slice none 0 0))]), (6, .box [.t (.v (.int .i64 (a.c + b.c))), .ts (kt) .ne 5 (zs)])] (upd H (kt) (some (.tip 62 5 (zs).length))) rfl ⟨rfl, rfl, rfl, rfl, rfl, rfl, rfl, trivial⟩ ⟨rfl, rfl, rfl, rfl, trivial⟩ (fun _ _ h => h) rfl, by omega, kt, i + 1, j + 1, out, zs, ⟨by omega, by omega, rfl, hkt, by omega, hzs, put_z (mrg_eq hi hj (by omega)) hI h82⟩, rfl⟩
          ·
            refine AW.skip ?_
            refine AW.seq ?_
            refine AW.reg ?_
            refine SeqK.q (q_fieldL _ rfl Fx.fl62_0 rfl rfl) rfl rfl rfl ?_
            refine SeqK.r (b_load (r := .a _) rfl Fx.ty2 rfl rfl rfl rfl rfl rfl) rfl ?_
            refine SeqK.q (q_neq rfl rfl rfl) rfl rfl rfl ?_
            refine SeqK.nil ?_
            refine AW.condD rfl (fun h82 => ?_) (fun h82 => ?_)
            ·
              refine AW.reg ?_
              refine SeqK.q (q_fieldL _ rfl Fx.fl24_1 rfl rfl) rfl rfl rfl ?_
              refine SeqK.r (b_load (r := .a _) rfl Fx.ty22 rfl rfl rfl rfl rfl rfl) rfl ?_
              refine SeqK.r (b_load (r := .g [_, _, _, _, _]) rfl Fx.ty62 rfl rfl rfl rfl rfl rfl) rfl ?_
              refine SeqK.q (q_buildSlice _ rfl Fx.el22 rfl (by decide) rfl) rfl rfl rfl ?_
              refine SeqK.app1 rfl (hkt) rfl Fx.el22 rfl rfl (by have hzl : zs.length = out.length := (by rw [hzs, List.length_map]); constructor <;> (simp; omega)) rfl rfl (fun k87 hk87 => ?_)
              refine SeqK.q (q_fieldL _ rfl Fx.fl24_1 rfl rfl) rfl rfl rfl ?_
              refine SeqK.r (b_store (r := [_, _]) rfl rfl Fx.ty22 rfl rfl rfl rfl rfl rfl) rfl ?_
              refine SeqK.nil ?_
              exact ⟨((a.ps.length - (i + 1)) + (b.ps.length - (j))), _, Wk.keep 97 [(2, .lp 2 0), (3, .lp 3 0), (4, .lp 4 0), (5, .c (iC 0)), (6, .lp 6 0), (7, iX .i64 (((i + 1) : Nat) : Int)), (8, iX .i64 (((j) : Nat) : Int))] [(2, .box [.t (.v (.int .i64 a.c)), .t (.sl .un 5 (a.ps.map ptT))]), (3, .box [.t (.v (.int .i64 b.c)), .t (.sl .un 5 (b.ps.map ptT))]), (4, .box [.t (.v (.int .i64 0)), .t (.v (.slice none 0 0))]), (6, .box [.t (.v (.int .i64 (a.c + b.c))), .ts (k87) .ne 5 (zs ++ [ptT (a.ps[i])])])] (upd H (k87) (some (.tip 62 5 (zs ++ [ptT (a.ps[i])]).length))) rfl ⟨rfl, rfl, rfl, rfl, rfl, rfl, rfl, trivial⟩ ⟨rfl, rfl, rfl, rfl, trivial⟩ (fun _ _ h => h) rfl, by omega, k87, i + 1, j, out ++ [a.ps[i]], zs ++ [ptT (a.ps[i])], ⟨by omega, by omega, rfl, hk87, by simp; omega, map_put hzs, put_nz (mrg_lt hi hj (by omega)) hI h82⟩, rfl⟩
            ·
              refine AW.skip ?_
              exact ⟨((a.ps.length - (i + 1)) + (b.ps.length - (j))), _, Wk.keep 97 [(2, .lp 2 0), (3, .lp 3 0), (4, .lp 4 0), (5, .c (iC 0)), (6, .lp 6 0), (7, iX .i64 (((i + 1) : Nat) : Int)), (8, iX .i64 (((j) : Nat) : Int))] [(2, .box [.t (.v (.int .i64 a.c)), .t (.sl .un 5 (a.ps.map ptT))]), (3, .box [.t (.v (.int .i64 b.c)), .t (.sl .un 5 (b.ps.map ptT))]), (4, .box [.t (.v (.int .i64 0)), .t (.v (.slice none 0 0))]), (6, .box [.t (.v (.int .i64 (a.c + b.c))), .ts (kt) .ne 5 (zs)])] (upd H (kt) (some (.tip 62 5 (zs).length))) rfl ⟨rfl, rfl, rfl, rfl, rfl, rfl, rfl, trivial⟩ ⟨rfl, rfl, rfl, rfl, trivial⟩ (fun _ _ h => h) rfl, by omega, kt, i + 1, j, out, zs, ⟨by omega, by omega, rfl, hkt, by omega, hzs, put_z (mrg_lt hi hj (by omega)) hI h82⟩, rfl⟩
        ·
          refine AW.skip ?_
          refine AW.seq ?_
          refine AW.seq ?_
          refine AW.reg ?_
          refine SeqK.q (q_mvC rfl rfl) rfl rfl rfl ?_
          refine SeqK.q (q_geq rfl rfl rfl) rfl rfl rfl ?_
          refine SeqK.nil ?_
          refine AW.condD rfl (fun h65 => ?_) (fun h65 => ?_)
          ·
            refine AW.seq ?_
            refine AW.reg ?_
            refine SeqK.q (q_fieldL _ rfl Fx.fl62_0 rfl rfl) rfl rfl rfl ?_
            refine SeqK.r (b_load (r := .a _) rfl Fx.ty2 rfl rfl rfl rfl rfl rfl) rfl ?_
            refine SeqK.q (q_asC rfl rfl) rfl rfl rfl ?_
            refine SeqK.nil ?_
            refine AW.seq ?_
            refine AW.reg ?_
            refine SeqK.q (q_fieldL _ rfl Fx.fl24_1 rfl rfl) rfl rfl rfl ?_
            refine SeqK.r (b_load (r := .a _) rfl Fx.ty22 rfl rfl rfl rfl rfl rfl) rfl ?_
            refine SeqK.q (q_mvC rfl rfl) rfl rfl rfl ?_
            refine SeqK.q (q_index _ rfl Fx.sl22 rfl rfl (by omega) (idx_map (f := ptT) hj)) rfl rfl rfl ?_
            refine SeqK.q (q_load (.g [_, _, _, _, _]) rfl Fx.ty62 rfl rfl rfl) rfl rfl rfl ?_
            refine SeqK.r (b_store (r := [_, _, _, _, _]) rfl rfl Fx.ty62 rfl rfl rfl rfl rfl rfl) rfl ?_
            refine SeqK.nil ?_
            refine AW.seq ?_
            refine AW.reg ?_
            refine SeqK.q (q_fieldL _ rfl Fx.fl62_0 rfl rfl) rfl rfl rfl ?_
            refine SeqK.r (b_load (r := .a _) rfl Fx.ty2 rfl rfl rfl rfl rfl rfl) rfl ?_
            refine SeqK.q (q_mvC rfl rfl) rfl rfl rfl ?_
            refine SeqK.q (q_add _ rfl rfl rfl ((by rw [w64 (by omega) (by omega)]; omega : IntKind.i64.wrap _ = b.ps[j].coef))) rfl rfl rfl ?_
            refine SeqK.q (q_fieldL _ rfl Fx.fl62_0 rfl rfl) rfl rfl rfl ?_
            refine SeqK.r (b_store (r := [_, _, _, _, _]) rfl rfl Fx.ty2 rfl rfl rfl rfl rfl rfl) rfl ?_
            refine SeqK.nil ?_
            refine AW.reg ?_
            refine SeqK.q (q_mvC rfl rfl) rfl rfl rfl ?_
            refine SeqK.q (q_add _ rfl rfl rfl (w64 (by omega) (by omega))) rfl rfl rfl ?_
            refine SeqK.q (q_asC rfl rfl) rfl rfl rfl ?_
            refine SeqK.nil ?_
            refine AW.seq ?_
            refine AW.reg ?_
            refine SeqK.q (q_fieldL _ rfl Fx.fl62_0 rfl rfl) rfl rfl rfl ?_
            refine SeqK.r (b_load (r := .a _) rfl Fx.ty2 rfl rfl rfl rfl rfl rfl) rfl ?_
            refine SeqK.q (q_neq rfl rfl rfl) rfl rfl rfl ?_
            refine SeqK.nil ?_
            refine AW.condD rfl (fun h82 => ?_) (fun h82 => ?_)
            ·
              refine AW.reg ?_
              refine SeqK.q (q_fieldL _ rfl Fx.fl24_1 rfl rfl) rfl rfl rfl ?_
              refine SeqK.r (b_load (r := .a _) rfl Fx.ty22 rfl rfl rfl rfl rfl rfl) rfl ?_
              refine SeqK.r (b_load (r := .g [_, _, _, _, _]) rfl Fx.ty62 rfl rfl rfl rfl rfl rfl) rfl ?_
              refine SeqK.q (q_buildSlice _ rfl Fx.el22 rfl (by decide) rfl) rfl rfl rfl ?_
              refine SeqK.app1 rfl (hkt) rfl Fx.el22 rfl rfl (by have hzl : zs.length = out.length := (by rw [hzs, List.length_map]); constructor <;> (simp; omega)) rfl rfl (fun k87 hk87 => ?_)
              refine SeqK.q (q_fieldL _ rfl Fx.fl24_1 rfl rfl) rfl rfl rfl ?_
              refine SeqK.r (b_store (r := [_, _]) rfl rfl Fx.ty22 rfl rfl rfl rfl rfl rfl) rfl ?_
              refine SeqK.nil ?_
              exact ⟨((a.ps.length - (i)) + (b.ps.length - (j + 1))), _, Wk.keep 97 [(2, .lp 2 0), (3, .lp 3 0), (4, .lp 4 0), (5, .c (iC 0)), (6, .lp 6 0), (7, iX .i64 (((i) : Nat) : Int)), (8, iX .i64 (((j + 1) : Nat) : Int))] [(2, .box [.t (.v (.int .i64 a.c)), .t (.sl .un 5 (a.ps.map ptT))]), (3, .box [.t (.v (.int .i64 b.c)), .t (.sl .un 5 (b.ps.map ptT))]), (4, .box [.t (.v (.int .i64 0)), .t (.v (.slice none 0 0))]), (6, .box [.t (.v (.int .i64 (a.c + b.c))), .ts (k87) .ne 5 (zs ++ [ptT (b.ps[j])])])] (upd H (k87) (some (.tip 62 5 (zs ++ [ptT (b.ps[j])]).length))) rfl ⟨rfl, rfl, rfl, rfl, rfl, rfl, rfl, trivial⟩ ⟨rfl, rfl, rfl, rfl, trivial⟩ (fun _ _ h => h) rfl, by omega, k87, i, j + 1, out ++ [b.ps[j]], zs ++ [ptT (b.ps[j])], ⟨by omega, by omega, rfl, hk87, by simp; omega, map_put hzs, put_nz (mrg_gt hi hj (by omega)) hI h82⟩, rfl⟩
            ·
              refine AW.skip ?_
              exact ⟨((a.ps.length - (i)) + (b.ps.length - (j + 1))), _, Wk.keep 97 [(2, .lp 2 0), (3, .lp 3 0), (4, .lp 4 0), (5, .c (iC 0)), (6, .lp 6 0), (7, iX .i64 (((i) : Nat) : Int)), (8, iX .i64 (((j + 1) : Nat) : Int))] [(2, .box [.t (.v (.int .i64 a.c)), .t (.sl .un 5 (a.ps.map ptT))]), (3, .box [.t (.v (.int .i64 b.c)), .t (.sl .un 5 (b.ps.map ptT))]), (4, .box [.t (.v (.int .i64 0)), .t (.v (.slice none 0 0))]), (6, .box [.t (.v (.int .i64 (a.c + b.c))), .ts (kt) .ne 5 (zs)])] (upd H (kt) (some (.tip 62 5 (zs).length))) rfl ⟨rfl, rfl, rfl, rfl, rfl, rfl, rfl, trivial⟩ ⟨rfl, rfl, rfl, rfl, trivial⟩ (fun _ _ h => h) rfl, by omega, kt, i, j + 1, out, zs, ⟨by omega, by omega, rfl, hkt, by omega, hzs, put_z (mrg_gt hi hj (by omega)) hI h82⟩, rfl⟩
          ·
            exact absurd (by omega) h65
  ·
    refine SeqK.on (q_mvC rfl rfl) rfl rfl rfl rfl rfl ?_
    refine SeqK.on (q_fieldL _ rfl Fx.fl24_1 rfl rfl) rfl rfl rfl rfl rfl ?_
    refine SeqK.rOn (b_load (r := .a _) rfl Fx.ty22 rfl rfl rfl rfl rfl rfl) rfl rfl rfl ?_
    refine SeqK.on (q_len rfl Fx.un22 rfl) rfl rfl rfl rfl rfl ?_
    refine SeqK.on (q_lss rfl rfl rfl) rfl rfl rfl rfl rfl ?_
    refine SeqK.q (q_pkF rfl rfl rfl) rfl rfl rfl ?_
    refine SeqK.nil ?_
    refine AW.condD rfl (fun h31 => ?_) (fun h31 => ?_)
    ·
      have hi2 : i = a.ps.length := by rw [List.length_map] at g25; omega
      have hj : j < b.ps.length := by rw [List.length_map] at h31; omega
      have hpj := vld_p hb hj
      refine AW.skip ?_
      refine AW.block ?_
      refine AW.seq ?_
      refine AW.reg ?_
      refine SeqK.q (q_asC rfl rfl) rfl rfl rfl ?_
      refine SeqK.nil ?_
      refine AW.seq ?_
      refine AW.block ?_
      refine AW.seq ?_
      refine AW.reg ?_
      refine SeqK.q (q_mvC rfl rfl) rfl rfl rfl ?_
      refine SeqK.q (q_fieldL _ rfl Fx.fl24_1 rfl rfl) rfl rfl rfl ?_
      refine SeqK.r (b_load (r := .a _) rfl Fx.ty22 rfl rfl rfl rfl rfl rfl) rfl ?_
      refine SeqK.q (q_len rfl Fx.un22 rfl) rfl rfl rfl ?_
      refine SeqK.q (q_eql rfl rfl rfl) rfl rfl rfl ?_
      refine SeqK.q (q_asC rfl rfl) rfl rfl rfl ?_
      refine SeqK.nil ?_
      refine AW.condD rfl (fun h43 => ?_) (fun h43 => ?_)
      ·
        refine AW.reg ?_
        refine SeqK.q (q_asC rfl rfl) rfl rfl rfl ?_
        refine SeqK.nil ?_
        refine AW.seq ?_
        refine AW.reg ?_
        refine SeqK.r (b_alloc (r := [_, _, _, _, _]) rfl rfl Fx.ze62 rfl rfl rfl rfl) rfl ?_
        refine SeqK.nil ?_
        refine AW.seq ?_
        refine AW.seq ?_
        refine AW.reg ?_
        refine SeqK.q (q_mvC rfl rfl) rfl rfl rfl ?_
        refine SeqK.q (q_leq rfl rfl rfl) rfl rfl rfl ?_
        refine SeqK.nil ?_
        refine AW.condD rfl (fun h56 => ?_) (fun h56 => ?_)
        ·
          exact absurd h56 (by omega)
        ·
          refine AW.skip ?_
          refine AW.seq ?_
          refine AW.seq ?_
          refine AW.reg ?_
          refine SeqK.q (q_mvC rfl rfl) rfl rfl rfl ?_
          refine SeqK.q (q_geq rfl rfl rfl) rfl rfl rfl ?_
          refine SeqK.nil ?_
          refine AW.condD rfl (fun h65 => ?_) (fun h65 => ?_)
          ·
            refine AW.seq ?_
            refine AW.reg ?_
            refine SeqK.q (q_fieldL _ rfl Fx.fl62_0 rfl rfl) rfl rfl rfl ?_
            refine SeqK.r (b_load (r := .a _) rfl Fx.ty2 rfl rfl rfl rfl rfl rfl) rfl ?_
            refine SeqK.q (q_asC rfl rfl) rfl rfl rfl ?_
            refine SeqK.nil ?_
            refine AW.seq ?_
            refine AW.reg ?_
            refine SeqK.q (q_fieldL _ rfl Fx.fl24_1 rfl rfl) rfl rfl rfl ?_
            refine SeqK.r (b_load (r := .a _) rfl Fx.ty22 rfl rfl rfl rfl rfl rfl) rfl ?_
            refine SeqK.q (q_mvC rfl rfl) rfl rfl rfl ?_
            refine SeqK.q (q_index _ rfl Fx.sl22 rfl rfl (by omega) (idx_map (f := ptT) hj)) rfl rfl rfl ?_
            refine SeqK.q (q_load (.g [_, _, _, _, _]) rfl Fx.ty62 rfl rfl rfl) rfl rfl rfl ?_
            refine SeqK.r (b_store (r := [_, _, _, _, _]) rfl rfl Fx.ty62 rfl rfl rfl rfl rfl rfl) rfl ?_
            refine SeqK.nil ?_
            refine AW.seq ?_
            refine AW.reg ?_
            refine SeqK.q (q_fieldL _ rfl Fx.fl62_0 rfl rfl) rfl rfl rfl ?_
            refine SeqK.r (b_load (r := .a _) rfl Fx.ty2 rfl rfl rfl rfl rfl rfl) rfl ?_
            refine SeqK.q (q_mvC rfl rfl) rfl rfl rfl ?_
            refine SeqK.q (q_add _ rfl rfl rfl ((by rw [w64 (by omega) (by omega)]; omega : IntKind.i64.wrap _ = b.ps[j].coef))) rfl rfl rfl ?_
            refine SeqK.q (q_fieldL _ rfl Fx.fl62_0 rfl rfl) rfl rfl rfl ?_
            refine SeqK.r (b_store (r := [_, _, _, _, _]) rfl rfl Fx.ty2 rfl rfl rfl rfl rfl rfl) rfl ?_
            refine SeqK.nil ?_
            refine AW.reg ?_
            refine SeqK.q (q_mvC rfl rfl) rfl rfl rfl ?_
            refine SeqK.q (q_add _ rfl rfl rfl (w64 (by omega) (by omega))) rfl rfl rfl ?_
            refine SeqK.q (q_asC rfl rfl) rfl rfl rfl ?_
            refine SeqK.nil ?_
            refine AW.seq ?_
            refine AW.reg ?_
            refine SeqK.q (q_fieldL _ rfl Fx.fl62_0 rfl rfl) rfl rfl rfl ?_
            refine SeqK.r (b_load (r := .a _) rfl Fx.ty2 rfl rfl rfl rfl rfl rfl) rfl ?_
            refine SeqK.q (q_neq rfl rfl rfl) rfl rfl rfl ?_
            refine SeqK.nil ?_
            refine AW.condD rfl (fun h82 => ?_) (fun h82 => ?_)
            ·
              refine AW.reg ?_
              refine SeqK.q (q_fieldL _ rfl Fx.fl24_1 rfl rfl) rfl rfl rfl ?_
              refine SeqK.r (b_load (r := .a _) rfl Fx.ty22 rfl rfl rfl rfl rfl rfl) rfl ?_
              refine SeqK.r (b_load (r := .g [_, _, _, _, _]) rfl Fx.ty62 rfl rfl rfl rfl rfl rfl) rfl ?_
              refine SeqK.q (q_buildSlice _ rfl Fx.el22 rfl (by decide) rfl) rfl rfl rfl ?_
              refine SeqK.app1 rfl (hkt) rfl Fx.el22 rfl rfl (by have hzl : zs.length = out.length := (by rw [hzs, List.length_map]); constructor <;> (simp; omega)) rfl rfl (fun k87 hk87 => ?_)
              refine SeqK.q (q_fieldL _ rfl Fx.fl24_1 rfl rfl) rfl rfl rfl ?_
              refine SeqK.r (b_store (r := [_, _]) rfl rfl Fx.ty22 rfl rfl rfl rfl rfl rfl) rfl ?_
              refine SeqK.nil ?_
              exact ⟨((a.ps.length - (i)) + (b.ps.length - (j + 1))), _, Wk.keep 97 [(2, .lp 2 0), (3, .lp 3 0), (4, .lp 4 0), (5, .c (iC 0)), (6, .lp 6 0), (7, iX .i64 (((i) : Nat) : Int)), (8, iX .i64 (((j + 1) : Nat) : Int))] [(2, .box [.t (.v (.int .i64 a.c)), .t (.sl .un 5 (a.ps.map ptT))]), (3, .box [.t (.v (.int .i64 b.c)), .t (.sl .un 5 (b.ps.map ptT))]), (4, .box [.t (.v (.int .i64 0)), .t (.v (.slice none 0 0))]), (6, .box [.t (.v (.int .i64 (a.c + b.c))), .ts (k87) .ne 5 (zs ++ [ptT (b.ps[j])])])] (upd H (k87) (some (.tip 62 5 (zs ++ [ptT (b.ps[j])]).length))) rfl ⟨rfl, rfl, rfl, rfl, rfl, rfl, rfl, trivial⟩ ⟨rfl, rfl, rfl, rfl, trivial⟩ (fun _ _ h => h) rfl, by omega, k87, i, j + 1, out ++ [b.ps[j]], zs ++ [ptT (b.ps[j])], ⟨by omega, by omega, rfl, hk87, by simp; omega, map_put hzs, put_nz (mrg_r hi2 hj) hI h82⟩, rfl⟩
            ·
              refine AW.skip ?_
              exact ⟨((a.ps.length - (i)) + (b.ps.length - (j + 1))), _, Wk.keep 97 [(2, .lp 2 0), (3, .lp 3 0), (4, .lp 4 0), (5, .c (iC 0)), (6, .lp 6 0), (7, iX .i64 (((i) : Nat) : Int)), (8, iX .i64 (((j + 1) : Nat) : Int))] [(2, .box [.t (.v (.int .i64 a.c)), .t (.sl .un 5 (a.ps.map ptT))]), (3, .box [.t (.v (.int .i64 b.c)), .t (.sl .un 5 (b.ps.map ptT))]), (4, .box [.t (.v (.int .i64 0)), .t (.v (.slice none 0 0))]), (6, .box [.t (.v (.int .i64 (a.c + b.c))), .ts (kt) .ne 5 (zs)])] (upd H (kt) (some (.tip 62 5 (zs).length))) rfl ⟨rfl, rfl, rfl, rfl, rfl, rfl, rfl, trivial⟩ ⟨rfl, rfl, rfl, rfl, trivial⟩ (fun _ _ h => h) rfl, by omega, kt, i, j + 1, out, zs, ⟨by omega, by omega, rfl, hkt, by omega, hzs, put_z (mrg_r hi2 hj) hI h82⟩, rfl⟩
          ·
            exact absurd (by omega) h65
      ·
        exact absurd (by rw [List.length_map]; omega) h43
    ·
      refine AW.exit ?_
      refine eth_e ?_
      refine eth_e ?_
      refine exit_here ?_
      refine AW.seq ?_
      have hij : i = a.ps.length ∧ j = b.ps.length := by rw [List.length_map] at g25 h31; omega
      obtain ⟨rfl, rfl⟩ := hij
      rw [List.drop_length, List.drop_length, mrg, List.append_nil] at hI
      subst hI
      subst hzs
      refine AW.reg ?_
      refine SeqK.r (b_load (r := .g [_, _]) rfl Fx.ty24 rfl rfl rfl rfl rfl rfl) rfl ?_
      refine SeqK.xw 90 rfl (XW.tmA XW.ts) ?_
      refine SeqK.xw 90 rfl (XW.tmA XW.un) ?_
      refine SeqK.q (q_call _ rfl Fx.fn67 rfl (checked_any (sumT a b) (sum_bok ha hb).1 (by have := sum_cnt a b; omega)) rfl) rfl rfl rfl ?_
      refine SeqK.q (q_mvT rfl rfl) rfl rfl rfl ?_
      refine SeqK.q (q_extract _ rfl rfl rfl) rfl rfl rfl ?_
      refine SeqK.q (q_extract _ rfl rfl rfl) rfl rfl rfl ?_
      refine SeqK.r (b_alloc (r := [_, _]) rfl rfl Fx.ze24 rfl rfl rfl rfl) rfl ?_
      refine SeqK.r (b_store (r := [_, _]) rfl rfl Fx.ty24 rfl rfl rfl rfl rfl rfl) rfl ?_
      refine SeqK.q (q_asC rfl rfl) rfl rfl rfl ?_
      refine SeqK.nil ?_
      refine AW.seq ?_
      refine AW.reg ?_
      refine SeqK.r (b_load (r := .g [_, _]) rfl Fx.ty24 rfl rfl rfl rfl rfl rfl) rfl ?_
      refine SeqK.q (q_call _ rfl Fx.fn68 rfl (clone_any _ (lim_one (sum_bok ha hb).2) (lim_cnt (by have := sum_cnt a b; omega))) rfl) rfl rfl rfl ?_
      refine SeqK.q (q_mvC rfl rfl) rfl rfl rfl ?_
      refine SeqK.r (b_store (r := [_, _]) rfl rfl Fx.ty24 rfl rfl rfl rfl rfl rfl) rfl ?_
      refine SeqK.q (q_asC rfl rfl) rfl rfl rfl ?_
      refine SeqK.nil ?_
      refine AW.ret ?_
      exact fin_x (x := .tup [_, _]) (H) (.cellL rfl rfl Fx.ty24 rfl rfl (.tmp rfl .nil)) rfl (fun j o h => by show upd H kt _ j = _; rw [upd_ne _ _ (fun e => by subst e; rw [hkt] at h; cases h)]; exact h) (⟨rfl, rfl⟩)

end Go.Proofs.YtfbdokfcebpkaaaDoor.W
namespace Go.Proofs.YtfbdokfcebpkaaaDoor.W
open Go.RowKit E M
set_option linter.unusedVariables false
set_option linter.unusedSimpArgs false
set_option linter.unusedSectionVars false
inductive Ex where
  | mk (op : Int) (tb nm : ByteArray) (ix vk vn : Int) (vs : ByteArray) (args : List Ex)
@[reducible] def Ex.op : Ex → Int | .mk a _ _ _ _ _ _ _ => a
@[reducible] def Ex.tb : Ex → ByteArray | .mk _ a _ _ _ _ _ _ => a
@[reducible] def Ex.nm : Ex → ByteArray | .mk _ _ a _ _ _ _ _ => a
@[reducible] def Ex.ix : Ex → Int | .mk _ _ _ a _ _ _ _ => a
@[reducible] def Ex.vk : Ex → Int | .mk _ _ _ _ a _ _ _ => a
@[reducible] def Ex.vn : Ex → Int | .mk _ _ _ _ _ a _ _ => a
@[reducible] def Ex.vs : Ex → ByteArray | .mk _ _ _ _ _ _ a _ => a
@[reducible] def Ex.args : Ex → List Ex | .mk _ _ _ _ _ _ _ a => a
mutual
def exT' : Ex → List E.T
  | .mk op tb nm ix vk vn vs args => [.v (.int .i64 op), .v (.string tb), .v (.string nm), .v (.int .i64 ix), .v (.int .i64 vk), .v (.int .i64 vn), .v (.string vs), .sl .un 8 (exTs args)]
def exTs : List Ex → List (List E.T)
  | [] => []
  | e :: r => exT' e :: exTs r
end
theorem exTs_map : ∀ l, exTs l = l.map exT'
  | [] => rfl
  | t :: r => by rw [exTs, exTs_map r, List.map_cons]
abbrev exL (e : Ex) : List E.T := [.v (.int .i64 e.op), .v (.string e.tb), .v (.string e.nm), .v (.int .i64 e.ix), .v (.int .i64 e.vk), .v (.int .i64 e.vn), .v (.string e.vs), .sl .un 8 (e.args.map exT')]
theorem exT_eq (e : Ex) : exT' e = exL e := by cases e; rw [exT', exTs_map]
abbrev exC (e : Ex) : C := .g [.t (.v (.int .i64 e.op)), .t (.v (.string e.tb)), .t (.v (.string e.nm)), .t (.v (.int .i64 e.ix)), .t (.v (.int .i64 e.vk)), .t (.v (.int .i64 e.vn)), .t (.v (.string e.vs)), .t (.sl .un 8 (e.args.map exT'))]
theorem idx_ex {l : List Ex} {i : Nat} (h : i < l.length) : (l.map exT')[i]? = some (exL l[i]) := by rw [List.getElem?_map, List.getElem?_eq_getElem h, Option.map_some, exT_eq]
/-- the term of an operation -/
def comb (op : Int) (a b : Tm) : Tm × Int :=
  if op = 4 then add a b
  else if op = 5 then (if (scale b (-1)).2 ≠ 0 then (tm0, (scale b (-1)).2) else add a (scale b (-1)).1)
  else if op = 6 then (if a.ps.length = 0 then scale b a.c else if b.ps.length = 0 then scale a b.c else (tm0, 7))
  else if 0 < b.ps.length ∨ b.c < 1 ∨ b.c > 1000 then (tm0, 7)
  else if (div a b.c).2 ≠ 0 ∨ op = 7 then div a b.c
  else if (scale (div a b.c).1 (-b.c)).2 ≠ 0 then (tm0, (scale (div a b.c).1 (-b.c)).2)
  else add a (scale (div a b.c).1 (-b.c)).1
def opsR : List (Tm × Int) → Tm × Int
  | [] => (tm0, 6)
  | r :: l => if r.2 ≠ 0 then (tm0, r.2) else opsR l
def lenE (a : Ex) (rs : List (Tm × Int)) : Tm × Int :=
  if 0 < a.args.length then opsR rs
  else if a.op = 1 ∧ a.vk = 2 then lim ⟨(a.vs.size : Int), []⟩
  else if a.op = 2 ∧ 0 ≤ a.ix then lim ⟨0, [⟨1, 1, a.ix, 0, []⟩]⟩
  else opsR rs
def lenL (rs : List (Tm × Int)) : List Ex → Tm × Int
  | [a] => lenE a rs
  | _ => opsR rs
def leafE (op ix vk vn : Int) (args : List Ex) (rs : List (Tm × Int)) : Tm × Int :=
  if op = 9 then lenL rs args
  else if 0 < args.length then opsR rs
  else if op = 1 ∧ vk = 1 then lim ⟨vn, []⟩
  else if op = 2 ∧ 0 ≤ ix then lim ⟨0, [⟨1, 0, ix, 0, []⟩]⟩
  else (tm0, 6)
def unR : List (Tm × Int) → Tm × Int
  | [r] => if r.2 ≠ 0 then (tm0, r.2) else scale r.1 (-1)
  | rs => opsR rs
def binR (op : Int) : List (Tm × Int) → Tm × Int
  | [r, q] => if r.2 ≠ 0 then (tm0, r.2) else if q.2 ≠ 0 then (tm0, q.2) else comb op r.1 q.1
  | rs => opsR rs
def stepE (op ix vk vn : Int) (args : List Ex) (rs : List (Tm × Int)) : Tm × Int :=
  if op = 1 ∨ op = 2 ∨ op = 9 then leafE op ix vk vn args rs
  else if op = 3 then unR rs
  else if op = 4 ∨ op = 5 ∨ op = 6 ∨ op = 7 ∨ op = 8 then binR op rs
  else opsR rs
theorem unR_ne {rs : List (Tm × Int)} (h : rs.length ≠ 1) : unR rs = opsR rs := by
  match rs, h with
  | [], _ => rfl
  | [r], h => simp at h
  | _ :: _ :: _, _ => rfl
theorem unR_one {rs : List (Tm × Int)} (h0 : 0 < rs.length) (h : rs.length = 1) : unR rs = if rs[0].2 ≠ 0 then (tm0, rs[0].2) else scale rs[0].1 (-1) := by
  match rs, h with
  | [r], _ => rfl
theorem binR_ne {op : Int} {rs : List (Tm × Int)} (h : rs.length ≠ 2) : binR op rs = opsR rs := by
  match rs, h with
  | [], _ => rfl
  | [r], _ => rfl
  | [r, q], h => simp at h
  | _ :: _ :: _ :: _, _ => rfl
theorem binR_two {op : Int} {rs : List (Tm × Int)} (h0 : 0 < rs.length) (h1 : 1 < rs.length) (h : rs.length = 2) : binR op rs = if rs[0].2 ≠ 0 then (tm0, rs[0].2) else if rs[1].2 ≠ 0 then (tm0, rs[1].2) else comb op rs[0].1 rs[1].1 := by
  match rs, h with
  | [r, q], _ => rfl
theorem leaf9_ne {ix vk vn : Int} {args : List Ex} {rs : List (Tm × Int)} {op : Int} (ho : op = 9) (h : args.length ≠ 1) : leafE op ix vk vn args rs = opsR rs := by
  unfold leafE
  rw [if_pos ho]
  match args, h with
  | [], _ => rfl
  | [r], h => simp at h
  | _ :: _ :: _, _ => rfl
theorem leaf9_one {ix vk vn : Int} {args : List Ex} {rs : List (Tm × Int)} {op : Int} (ho : op = 9) (h0 : 0 < args.length) (h : args.length = 1) : leafE op ix vk vn args rs = lenE args[0] rs := by
  unfold leafE
  rw [if_pos ho]
  match args, h with
  | [r], _ => rfl
mutual
def ofE : Ex → Tm × Int
  | .mk op _ _ ix vk vn _ args => stepE op ix vk vn args (resE args)
def resE : List Ex → List (Tm × Int)
  | [] => []
  | a :: r => ofE a :: resE r
end
theorem resE_map : ∀ l, resE l = l.map ofE
  | [] => rfl
  | a :: r => by rw [resE, resE_map r, List.map_cons]
theorem ofE_eq (e : Ex) : ofE e = stepE e.op e.ix e.vk e.vn e.args (e.args.map ofE) := by cases e; rw [ofE, resE_map]
mutual
def Ex.dep : Ex → Nat
  | .mk _ _ _ _ _ _ _ args => depEs args + 1
def depEs : List Ex → Nat
  | [] => 0
  | a :: r => max a.dep (depEs r)
end
theorem dep_arg {a : Ex} : ∀ {l : List Ex}, a ∈ l → a.dep ≤ depEs l
  | b :: r, h => by
    rcases List.mem_cons.1 h with rfl | h
    · simp only [depEs]; omega
    · have := dep_arg h; simp only [depEs]; omega
theorem Ex.ind {motive : Ex → Prop} (h : ∀ e, (∀ a ∈ e.args, motive a) → motive e) (e : Ex) : motive e := by
  have key : ∀ n (e : Ex), e.dep < n → motive e := by
    intro n
    induction n with
    | zero => intro e he; omega
    | succ n ih =>
      intro e he
      refine h e fun a ha => ih a ?_
      cases e with | mk op tb nm ix vk vn vs args =>
      have := dep_arg ha
      simp only [Ex.dep, Ex.args] at *; omega
  exact key _ e (Nat.lt_succ_self _)
theorem opsR_no {rs : List (Tm × Int)} {i : Nat} (hi : i < rs.length) (h0 : ∀ r ∈ rs.take i, r.2 = 0) (h : rs[i].2 ≠ 0) : opsR rs = (tm0, rs[i].2) := by
  induction rs generalizing i with
  | nil => simp at hi
  | cons r l ih =>
    cases i with
    | zero =>
      have h' : r.2 ≠ 0 := h
      rw [opsR, if_pos h']; rfl
    | succ i =>
      have : r.2 = 0 := h0 r (by simp)
      rw [opsR, if_neg (by omega)]
      exact ih (by simpa using hi) (fun x hx => h0 x (by simp [hx])) (by simpa using h)
theorem ops_step {l : List Ex} {i : Nat} (hi : i < l.length) (h0 : ∀ r ∈ (l.map ofE).take i, r.2 = 0) (h : (ofE l[i]).2 = 0) : ∀ r ∈ (l.map ofE).take (i + 1), r.2 = 0 := by
  rw [List.take_succ_eq_append_getElem (by simpa using hi)]
  intro r hr
  rcases List.mem_append.1 hr with h1 | h1
  · exact h0 r h1
  · simp at h1; rw [h1]; exact h
theorem opsR_end {rs : List (Tm × Int)} (h0 : ∀ r ∈ rs, r.2 = 0) : opsR rs = (tm0, 6) := by
  induction rs with
  | nil => rfl
  | cons r l ih =>
    have : r.2 = 0 := h0 r (by simp)
    rw [opsR, if_neg (by omega)]
    exact ih fun x hx => h0 x (by simp [hx])

set_option maxRecDepth 20000 in
theorem ops_of (e : Ex) (hL : e.args.length ≤ 1000000) (ih : ∀ a ∈ e.args, Pure Tryd.prog 23 [exC a] (trC (ofE a))) : Pure Tryd.prog 63 [exC e] (trC (opsR (e.args.map ofE))) := by
  intro H
  refine Spec.enter Tryd.func63 rfl ?_
  refine AW.wk (Wk.keep 26 [(0, .c (exC e))] [] (H) rfl ⟨rfl, trivial⟩ trivial (fun _ _ h => h) rfl) ?_
  refine AW.seq ?_
  refine AW.reg ?_
  refine SeqK.r (b_box (r := [_, _, _, _, _, _, _, _]) rfl rfl rfl rfl rfl rfl) rfl ?_
  refine SeqK.r (b_alloc (r := [_, _]) rfl rfl Fx.ze24 rfl rfl rfl rfl) rfl ?_
  refine SeqK.q (q_asC rfl rfl) rfl rfl rfl ?_
  refine SeqK.nil ?_
  refine AW.seq ?_
  refine AW.seq ?_
  refine AW.reg ?_
  refine SeqK.q (q_fieldL _ rfl Fx.fl36_5 rfl rfl) rfl rfl rfl ?_
  refine SeqK.r (b_load (r := .a _) rfl Fx.ty34 rfl rfl rfl rfl rfl rfl) rfl ?_
  refine SeqK.q (q_len rfl Fx.un34 rfl) rfl rfl rfl ?_
  refine SeqK.q (q_mvC rfl rfl) rfl rfl rfl ?_
  refine SeqK.nil ?_
  refine AW.block ?_
  refine AW.loop (fun (i : Nat) s => (i ≤ e.args.length ∧ ∀ r ∈ (e.args.map ofE).take i, r.2 = 0) ∧ s = ⟨26, sp [(2, .lp 2 0), (3, .c (iC 0)), (9, .c (.a (.t (.sl .un 8 (e.args.map exT'))))), (10, iX .i64 (((e.args.map exT').length : Nat) : Int)), (11, iX .i64 ((i : Nat) : Int))], lv [(2, .box [.t (.v (.int .i64 0)), .t (.v (.slice none 0 0))])], H⟩) (fun i => e.args.length - i) 0 ⟨_, Wk.keep 26 [(2, .lp 2 0), (3, .c (iC 0)), (9, .c (.a (.t (.sl .un 8 (e.args.map exT'))))), (10, iX .i64 (((e.args.map exT').length : Nat) : Int)), (11, iX .i64 ((((0 : Nat)) : Nat) : Int))] [(2, .box [.t (.v (.int .i64 0)), .t (.v (.slice none 0 0))])] (H) rfl ⟨rfl, rfl, rfl, rfl, rfl, trivial⟩ ⟨rfl, trivial⟩ (fun _ _ h => h) rfl, ⟨Nat.zero_le _, by simp⟩, rfl⟩ (fun i s hs => ?_)
  obtain ⟨⟨hi0, h0⟩, rfl⟩ := hs
  refine AW.seq ?_
  refine AW.reg ?_
  refine SeqK.q (q_lss rfl rfl rfl) rfl rfl rfl ?_
  refine SeqK.nil ?_
  refine AW.seq ?_
  refine AW.condD rfl (fun h12 => ?_) (fun h12 => ?_)
  ·
    have hi : i < e.args.length := by rw [List.length_map] at h12; omega
    refine AW.skip ?_
    refine AW.seq ?_
    refine AW.block ?_
    refine AW.seq ?_
    refine AW.reg ?_
    refine SeqK.q (q_index _ rfl Fx.sl34 rfl rfl (by omega) (idx_ex hi)) rfl rfl rfl ?_
    refine SeqK.q (q_load (.g [_, _, _, _, _, _, _, _]) rfl Fx.ty36 rfl rfl rfl) rfl rfl rfl ?_
    refine SeqK.r (b_alloc (r := [_, _, _, _, _, _, _, _]) rfl rfl Fx.ze36 rfl rfl rfl rfl) rfl ?_
    refine SeqK.r (b_store (r := [_, _, _, _, _, _, _, _]) rfl rfl Fx.ty36 rfl rfl rfl rfl rfl rfl) rfl ?_
    refine SeqK.nil ?_
    refine AW.seq ?_
    refine AW.reg ?_
    refine SeqK.r (b_load (r := .g [_, _, _, _, _, _, _, _]) rfl Fx.ty36 rfl rfl rfl rfl rfl rfl) rfl ?_
    refine SeqK.q (q_call _ rfl Fx.fn23 rfl (ih _ (List.getElem_mem hi)) rfl) rfl rfl rfl ?_
    refine SeqK.q (q_mvT rfl rfl) rfl rfl rfl ?_
    refine SeqK.q (q_extract _ rfl rfl rfl) rfl rfl rfl ?_
    refine SeqK.q (q_extract _ rfl rfl rfl) rfl rfl rfl ?_
    refine SeqK.r (b_alloc (r := [_, _]) rfl rfl Fx.ze24 rfl rfl rfl rfl) rfl ?_
    refine SeqK.r (b_store (r := [_, _]) rfl rfl Fx.ty24 rfl rfl rfl rfl rfl rfl) rfl ?_
    refine SeqK.q (q_asC rfl rfl) rfl rfl rfl ?_
    refine SeqK.nil ?_
    refine AW.seq ?_
    refine AW.reg ?_
    refine SeqK.q (q_mvC rfl rfl) rfl rfl rfl ?_
    refine SeqK.q (q_neq rfl rfl rfl) rfl rfl rfl ?_
    refine SeqK.nil ?_
    refine AW.condD rfl (fun h21 => ?_) (fun h21 => ?_)
    ·
      refine AW.seq ?_
      refine AW.reg ?_
      refine SeqK.q (q_build2 (zs := [_, _]) (r := [_, _]) [(0, 1), (1, 1)] _ rfl Fx.ze24 rfl Fx.bp24 rfl rfl rfl rfl) rfl rfl rfl ?_
      refine SeqK.xw 22 rfl XW.tm0 ?_
      refine SeqK.q (q_mvC rfl rfl) rfl rfl rfl ?_
      refine SeqK.r (b_store (r := [_, _]) rfl rfl Fx.ty24 rfl rfl rfl rfl rfl rfl) rfl ?_
      refine SeqK.q (q_asC rfl rfl) rfl rfl rfl ?_
      refine SeqK.nil ?_
      refine AW.ret ?_
      exact fin_x (x := .tup [_, _]) (H) (.cellL rfl rfl Fx.ty24 rfl rfl (.tmp rfl .nil)) rfl (fun _ _ h => h) (⟨by rw [opsR_no (i := i) (by simpa using hi) h0 (by rw [List.getElem_map]; exact h21), List.getElem_map]; rfl, rfl⟩)
    ·
      refine AW.skip ?_
      refine AW.reg ?_
      refine SeqK.q (q_add _ rfl rfl rfl (w64 (by omega) (by omega))) rfl rfl rfl ?_
      refine SeqK.q (q_mvC rfl rfl) rfl rfl rfl ?_
      refine SeqK.nil ?_
      exact ⟨i + 1, _, Wk.keep 26 [(2, .lp 2 0), (3, .c (iC 0)), (9, .c (.a (.t (.sl .un 8 (e.args.map exT'))))), (10, iX .i64 (((e.args.map exT').length : Nat) : Int)), (11, iX .i64 (((i + 1) : Nat) : Int))] [(2, .box [.t (.v (.int .i64 0)), .t (.v (.slice none 0 0))])] (H) rfl ⟨rfl, rfl, rfl, rfl, rfl, trivial⟩ ⟨rfl, trivial⟩ (fun _ _ h => h) rfl, by omega, ⟨hi, ops_step hi h0 (Classical.not_not.1 h21)⟩, rfl⟩
  ·
    refine AW.exit ?_
    refine eth_e ?_
    refine eth_e ?_
    refine exit_here ?_
    refine AW.seq ?_
    refine AW.reg ?_
    refine SeqK.q (q_build2 (zs := [_, _]) (r := [_, _]) [(0, 1), (1, 1)] _ rfl Fx.ze24 rfl Fx.bp24 rfl rfl rfl rfl) rfl rfl rfl ?_
    refine SeqK.xw 25 rfl XW.tm0 ?_
    refine SeqK.r (b_store (r := [_, _]) rfl rfl Fx.ty24 rfl rfl rfl rfl rfl rfl) rfl ?_
    refine SeqK.q (q_asC rfl rfl) rfl rfl rfl ?_
    refine SeqK.nil ?_
    refine AW.ret ?_
    exact fin_x (x := .tup [_, _]) (H) (.cellL rfl rfl Fx.ty24 rfl rfl (.tmp rfl .nil)) rfl (fun _ _ h => h) (⟨by rw [opsR_end (fun r hr => h0 r (by rw [List.take_of_length_le (by rw [List.length_map] at *; omega)]; exact hr))]; rfl, rfl⟩)

end Go.Proofs.YtfbdokfcebpkaaaDoor.W
namespace Go.Proofs.YtfbdokfcebpkaaaDoor.W
open Go.RowKit E M
set_option linter.unusedVariables false
set_option linter.unusedSimpArgs false
set_option linter.unusedSectionVars false
theorem lim_ok {t : Tm} (h : (lim t).2 = 0) : lim t = (t, 0) ∧ smallB t = true := by
  unfold lim at h ⊢
  split at h
  · rename_i hs; exact ⟨by rw [if_pos hs], hs⟩
  · cases h
theorem cmpP_mul (p q : Pt) (n : Int) : cmpP (mulP p n) (mulP q n) = cmpP p q := by rw [cmpP_eq, cmpP_eq]; rfl
theorem ascB_mul (n : Int) : ∀ l : List Pt, ascB (l.map fun p => mulP p n) = ascB l
  | [] => rfl
  | [p] => rfl
  | p :: q :: r => by
    have := ascB_mul n (q :: r)
    simp only [List.map_cons, ascB, cmpP_mul] at this ⊢
    rw [this]
theorem vldP_mul {p : Pt} {n : Int} (hn : n ≠ 0) (h : vldP p = true) : vldP (mulP p n) = true := by
  rw [vldP_eq] at h ⊢
  simp only [Bool.and_eq_true, decide_eq_true_eq] at h
  obtain ⟨h1, h2⟩ := h
  rw [show decide ((mulP p n).coef ≠ 0) = true from decide_eq_true (Int.mul_ne_zero h1 hn)]
  exact h2
theorem vld0 : vldT tm0 = true := by decide
theorem scale_vld {t : Tm} {n : Int} (h : vldT t = true) (hs : (scale t n).2 = 0) : vldT (scale t n).1 = true := by
  unfold scale at hs ⊢
  by_cases hn : n = 0
  · rw [if_pos hn]; exact vld0
  · rw [if_neg hn] at hs ⊢
    obtain ⟨h1, h2⟩ := lim_ok hs
    rw [h1]
    rw [vldT_eq] at h ⊢
    simp only [Bool.and_eq_true] at h ⊢
    refine ⟨⟨vldPs_iff.2 fun p hp => ?_, ?_⟩, h2⟩
    · obtain ⟨q, hq, rfl⟩ := List.mem_map.1 hp
      exact vldP_mul hn (vldPs_iff.1 h.1.1 q hq)
    · exact (ascB_mul n t.ps).trans h.1.2
theorem lim_cnt' {t : Tm} : (lim t).1.cnt ≤ t.cnt := by
  unfold lim; split
  · exact Nat.le_refl _
  · have := t.cnt_pos; simpa [tm0, Tm.cnt, cntPs] using this
theorem scale_cnt (t : Tm) (n : Int) : (scale t n).1.cnt ≤ t.cnt := by
  unfold scale; split
  · have := t.cnt_pos; simpa [tm0, Tm.cnt, cntPs] using this
  · have := lim_cnt' (t := mulT t n); rw [mul_cnt] at this; exact this
theorem div_cnt (t : Tm) (b : Int) : (div t b).1.cnt ≤ t.cnt + 2 := by
  have h1 := t.cnt_pos
  unfold div
  split
  · simp [tm0, Tm.cnt, cntPs]
  · split
    · exact Nat.le_add_right _ _
    · split
      · simp [Tm.cnt, cntPs]
      · have := lim_cnt' (t := divT t b); rw [divT_cnt] at this; exact this
theorem div_vld {t : Tm} {b : Int} (h : vldT t = true) (hs : (div t b).2 = 0) : vldT (div t b).1 = true := by
  unfold div at hs ⊢
  split at hs
  · cases hs
  · rename_i h1
    rw [if_neg h1]
    split at hs
    · rename_i h2; rw [if_pos h2]; exact h
    · rename_i h2
      rw [if_neg h2]
      split at hs
      · rename_i h3
        rw [if_pos h3]
        have hc := (vld_coef h).1
        have hd : (t.c / b).natAbs ≤ 2 ^ 40 := by
          have h4 := Int.ediv_mul_add_emod t.c b
          have h5 := Int.emod_nonneg t.c (show b ≠ 0 by omega)
          have h6 := Int.emod_lt_of_pos t.c (show 0 < b by omega)
          have h7 : -(2 ^ 40) ≤ t.c / b := (Int.le_ediv_iff_mul_le (show 0 < b by omega)).2 (by omega)
          have h8 : t.c / b ≤ 2 ^ 40 := Int.ediv_le_of_le_mul (show 0 < b by omega) (by omega)
          omega
        rw [vldT_eq]
        simp only [vldPs, ascB, Bool.true_and]
        exact smallB_iff.2 ⟨hd, by simp, by simp only [bndT, bndPs]; omega⟩
      · rename_i h3
        rw [if_neg h3]
        obtain ⟨e1, e2⟩ := lim_ok hs
        rw [e1, vldT_eq, e2]
        have hne : t.ps.isEmpty = false := by cases hp : t.ps with | nil => rw [hp] at h3; simp at h3 | cons => rfl
        simp [divT, vldPs, vldP, vldO, ascB, h, hne]
        omega

set_option maxHeartbeats 4000000 in
set_option maxRecDepth 20000 in
theorem comb_any (op : Int) (a b : Tm) (ha : vldT a = true) (hb : vldT b = true) (hN : a.cnt + b.cnt ≤ 40000) : Pure Tryd.prog 64 [iC op, tmC a, tmC b] (trC (comb op a b)) := by
  intro H
  refine Spec.enter Tryd.func64 rfl ?_
  refine AW.wk (Wk.keep 108 [(0, .c (iC op)), (1, .c (tmC a)), (2, .c (tmC b))] [] (H) rfl ⟨rfl, rfl, rfl, trivial⟩ trivial (fun _ _ h => h) rfl) ?_
  refine AW.seq ?_
  refine AW.reg ?_
  refine SeqK.r (b_box (r := [_, _]) rfl rfl rfl rfl rfl rfl) rfl ?_
  refine SeqK.r (b_box (r := [_, _]) rfl rfl rfl rfl rfl rfl) rfl ?_
  refine SeqK.r (b_alloc (r := [_, _]) rfl rfl Fx.ze24 rfl rfl rfl rfl) rfl ?_
  refine SeqK.q (q_asC rfl rfl) rfl rfl rfl ?_
  refine SeqK.nil ?_
  refine AW.seq ?_
  refine AW.seq ?_
  have hca := vld_coef ha
  have hcb := vld_coef hb
  have k1 := scale_cnt b (-1)
  have k2 := div_cnt a b.c
  have k3 := scale_cnt (div a b.c).1 (-b.c)
  refine AW.reg ?_
  refine SeqK.q (q_mvC rfl rfl) rfl rfl rfl ?_
  refine SeqK.nil ?_
  refine AW.block ?_
  refine AW.seq ?_
  refine AW.reg ?_
  refine SeqK.q (q_eql rfl rfl rfl) rfl rfl rfl ?_
  refine SeqK.q (q_asC rfl rfl) rfl rfl rfl ?_
  refine SeqK.nil ?_
  refine AW.condD rfl (fun h13 => ?_) (fun h13 => ?_)
  ·
    refine AW.seq ?_
    refine AW.reg ?_
    refine SeqK.r (b_load (r := .g [_, _]) rfl Fx.ty24 rfl rfl rfl rfl rfl rfl) rfl ?_
    refine SeqK.r (b_load (r := .g [_, _]) rfl Fx.ty24 rfl rfl rfl rfl rfl rfl) rfl ?_
    refine SeqK.q (q_call _ rfl Fx.fn27 rfl (add_any a b ha hb (by omega)) rfl) rfl rfl rfl ?_
    refine SeqK.q (q_extract _ rfl rfl rfl) rfl rfl rfl ?_
    refine SeqK.q (q_extract _ rfl rfl rfl) rfl rfl rfl ?_
    refine SeqK.r (b_store (r := [_, _]) rfl rfl Fx.ty24 rfl rfl rfl rfl rfl rfl) rfl ?_
    refine SeqK.q (q_asC rfl rfl) rfl rfl rfl ?_
    refine SeqK.nil ?_
    refine AW.ret ?_
    exact fin_x (x := .tup [_, _]) (H) (.cellL rfl rfl Fx.ty24 rfl rfl (.tmp rfl .nil)) rfl (fun _ _ h => h) (⟨by rw [comb, if_pos h13]; rfl, rfl⟩)
  ·
    refine AW.seq ?_
    refine AW.reg ?_
    refine SeqK.q (q_eql rfl rfl rfl) rfl rfl rfl ?_
    refine SeqK.q (q_asC rfl rfl) rfl rfl rfl ?_
    refine SeqK.nil ?_
    refine AW.condD rfl (fun h20 => ?_) (fun h20 => ?_)
    ·
      refine AW.seq ?_
      refine AW.reg ?_
      refine SeqK.r (b_load (r := .g [_, _]) rfl Fx.ty24 rfl rfl rfl rfl rfl rfl) rfl ?_
      refine SeqK.q (q_call _ rfl Fx.fn30 rfl (scale_any b (-1) (vldT_bok hb) (vldT_one hb) (by decide) (by omega)) rfl) rfl rfl rfl ?_
      refine SeqK.q (q_mvT rfl rfl) rfl rfl rfl ?_
      refine SeqK.q (q_extract _ rfl rfl rfl) rfl rfl rfl ?_
      refine SeqK.q (q_extract _ rfl rfl rfl) rfl rfl rfl ?_
      refine SeqK.r (b_alloc (r := [_, _]) rfl rfl Fx.ze24 rfl rfl rfl rfl) rfl ?_
      refine SeqK.r (b_store (r := [_, _]) rfl rfl Fx.ty24 rfl rfl rfl rfl rfl rfl) rfl ?_
      refine SeqK.q (q_asC rfl rfl) rfl rfl rfl ?_
      refine SeqK.nil ?_
      refine AW.seq ?_
      refine AW.seq ?_
      refine AW.reg ?_
      refine SeqK.q (q_mvC rfl rfl) rfl rfl rfl ?_
      refine SeqK.q (q_neq rfl rfl rfl) rfl rfl rfl ?_
      refine SeqK.nil ?_
      refine AW.condD rfl (fun h28 => ?_) (fun h28 => ?_)
      ·
        refine AW.seq ?_
        refine AW.reg ?_
        refine SeqK.q (q_build2 (zs := [_, _]) (r := [_, _]) [(0, 1), (1, 1)] _ rfl Fx.ze24 rfl Fx.bp24 rfl rfl rfl rfl) rfl rfl rfl ?_
        refine SeqK.xw 29 rfl XW.tm0 ?_
        refine SeqK.q (q_mvC rfl rfl) rfl rfl rfl ?_
        refine SeqK.r (b_store (r := [_, _]) rfl rfl Fx.ty24 rfl rfl rfl rfl rfl rfl) rfl ?_
        refine SeqK.q (q_asC rfl rfl) rfl rfl rfl ?_
        refine SeqK.nil ?_
        refine AW.ret ?_
        exact fin_x (x := .tup [_, _]) (H) (.cellL rfl rfl Fx.ty24 rfl rfl (.tmp rfl .nil)) rfl (fun _ _ h => h) (⟨by rw [comb, if_neg h13, if_pos h20, if_pos h28]; rfl, rfl⟩)
      ·
        have hs0 : (scale b (-1)).2 = 0 := Classical.not_not.1 h28
        refine AW.skip ?_
        refine AW.seq ?_
        refine AW.reg ?_
        refine SeqK.r (b_load (r := .g [_, _]) rfl Fx.ty24 rfl rfl rfl rfl rfl rfl) rfl ?_
        refine SeqK.r (b_load (r := .g [_, _]) rfl Fx.ty24 rfl rfl rfl rfl rfl rfl) rfl ?_
        refine SeqK.q (q_call _ rfl Fx.fn27 rfl (add_any a _ ha (scale_vld hb hs0) (by omega)) rfl) rfl rfl rfl ?_
        refine SeqK.q (q_extract _ rfl rfl rfl) rfl rfl rfl ?_
        refine SeqK.q (q_extract _ rfl rfl rfl) rfl rfl rfl ?_
        refine SeqK.r (b_store (r := [_, _]) rfl rfl Fx.ty24 rfl rfl rfl rfl rfl rfl) rfl ?_
        refine SeqK.q (q_asC rfl rfl) rfl rfl rfl ?_
        refine SeqK.nil ?_
        refine AW.ret ?_
        exact fin_x (x := .tup [_, _]) (H) (.cellL rfl rfl Fx.ty24 rfl rfl (.tmp rfl .nil)) rfl (fun _ _ h => h) (⟨by rw [comb, if_neg h13, if_pos h20, if_neg h28]; rfl, rfl⟩)
    ·
      refine AW.seq ?_
      refine AW.reg ?_
      refine SeqK.q (q_eql rfl rfl rfl) rfl rfl rfl ?_
      refine SeqK.q (q_asC rfl rfl) rfl rfl rfl ?_
      refine SeqK.nil ?_
      refine AW.condD rfl (fun h36 => ?_) (fun h36 => ?_)
      ·
        refine AW.seq ?_
        refine AW.block ?_
        refine AW.seq ?_
        refine AW.reg ?_
        refine SeqK.q (q_fieldL _ rfl Fx.fl24_1 rfl rfl) rfl rfl rfl ?_
        refine SeqK.r (b_load (r := .a _) rfl Fx.ty22 rfl rfl rfl rfl rfl rfl) rfl ?_
        refine SeqK.q (q_len rfl Fx.un22 rfl) rfl rfl rfl ?_
        refine SeqK.q (q_eql rfl rfl rfl) rfl rfl rfl ?_
        refine SeqK.q (q_asC rfl rfl) rfl rfl rfl ?_
        refine SeqK.nil ?_
        refine AW.condD rfl (fun h38 => ?_) (fun h38 => ?_)
        ·
          refine AW.seq ?_
          refine AW.reg ?_
          refine SeqK.r (b_load (r := .g [_, _]) rfl Fx.ty24 rfl rfl rfl rfl rfl rfl) rfl ?_
          refine SeqK.q (q_fieldL _ rfl Fx.fl24_0 rfl rfl) rfl rfl rfl ?_
          refine SeqK.r (b_load (r := .a _) rfl Fx.ty2 rfl rfl rfl rfl rfl rfl) rfl ?_
          refine SeqK.q (q_call _ rfl Fx.fn30 rfl (scale_any b a.c (vldT_bok hb) (vldT_one hb) (by omega) (by omega)) rfl) rfl rfl rfl ?_
          refine SeqK.q (q_extract _ rfl rfl rfl) rfl rfl rfl ?_
          refine SeqK.q (q_extract _ rfl rfl rfl) rfl rfl rfl ?_
          refine SeqK.r (b_store (r := [_, _]) rfl rfl Fx.ty24 rfl rfl rfl rfl rfl rfl) rfl ?_
          refine SeqK.q (q_asC rfl rfl) rfl rfl rfl ?_
          refine SeqK.nil ?_
          refine AW.ret ?_
          exact fin_x (x := .tup [_, _]) (H) (.cellL rfl rfl Fx.ty24 rfl rfl (.tmp rfl .nil)) rfl (fun _ _ h => h) (⟨by rw [comb, if_neg h13, if_neg h20, if_pos h36, if_pos (by simp only [List.length_map] at *; omega)]; rfl, rfl⟩)
        ·
          refine AW.seq ?_
          refine AW.reg ?_
          refine SeqK.q (q_fieldL _ rfl Fx.fl24_1 rfl rfl) rfl rfl rfl ?_
          refine SeqK.r (b_load (r := .a _) rfl Fx.ty22 rfl rfl rfl rfl rfl rfl) rfl ?_
          refine SeqK.q (q_len rfl Fx.un22 rfl) rfl rfl rfl ?_
          refine SeqK.q (q_eql rfl rfl rfl) rfl rfl rfl ?_
          refine SeqK.q (q_asC rfl rfl) rfl rfl rfl ?_
          refine SeqK.nil ?_
          refine AW.condD rfl (fun h49 => ?_) (fun h49 => ?_)
          ·
            refine AW.seq ?_
            refine AW.reg ?_
            refine SeqK.r (b_load (r := .g [_, _]) rfl Fx.ty24 rfl rfl rfl rfl rfl rfl) rfl ?_
            refine SeqK.q (q_fieldL _ rfl Fx.fl24_0 rfl rfl) rfl rfl rfl ?_
            refine SeqK.r (b_load (r := .a _) rfl Fx.ty2 rfl rfl rfl rfl rfl rfl) rfl ?_
            refine SeqK.q (q_call _ rfl Fx.fn30 rfl (scale_any a b.c (vldT_bok ha) (vldT_one ha) (by omega) (by omega)) rfl) rfl rfl rfl ?_
            refine SeqK.q (q_extract _ rfl rfl rfl) rfl rfl rfl ?_
            refine SeqK.q (q_extract _ rfl rfl rfl) rfl rfl rfl ?_
            refine SeqK.r (b_store (r := [_, _]) rfl rfl Fx.ty24 rfl rfl rfl rfl rfl rfl) rfl ?_
            refine SeqK.q (q_asC rfl rfl) rfl rfl rfl ?_
            refine SeqK.nil ?_
            refine AW.ret ?_
            exact fin_x (x := .tup [_, _]) (H) (.cellL rfl rfl Fx.ty24 rfl rfl (.tmp rfl .nil)) rfl (fun _ _ h => h) (⟨by rw [comb, if_neg h13, if_neg h20, if_pos h36, if_neg (by simp only [List.length_map] at *; omega), if_pos (by simp only [List.length_map] at *; omega)]; rfl, rfl⟩)
          ·
            refine AW.skip ?_
            refine AW.seq ?_
            refine AW.reg ?_
            refine SeqK.q (q_build2 (zs := [_, _]) (r := [_, _]) [(0, 1), (1, 1)] _ rfl Fx.ze24 rfl Fx.bp24 rfl rfl rfl rfl) rfl rfl rfl ?_
            refine SeqK.xw 60 rfl XW.tm0 ?_
            refine SeqK.r (b_store (r := [_, _]) rfl rfl Fx.ty24 rfl rfl rfl rfl rfl rfl) rfl ?_
            refine SeqK.q (q_asC rfl rfl) rfl rfl rfl ?_
            refine SeqK.nil ?_
            refine AW.ret ?_
            exact fin_x (x := .tup [_, _]) (H) (.cellL rfl rfl Fx.ty24 rfl rfl (.tmp rfl .nil)) rfl (fun _ _ h => h) (⟨by rw [comb, if_neg h13, if_neg h20, if_pos h36, if_neg (by simp only [List.length_map] at *; omega), if_neg (by simp only [List.length_map] at *; omega)]; rfl, rfl⟩)
      ·
        refine AW.skip ?_
        refine AW.seq ?_
        refine AW.seq ?_
        refine AW.reg ?_
        refine SeqK.q (q_fieldL _ rfl Fx.fl24_1 rfl rfl) rfl rfl rfl ?_
        refine SeqK.r (b_load (r := .a _) rfl Fx.ty22 rfl rfl rfl rfl rfl rfl) rfl ?_
        refine SeqK.q (q_len rfl Fx.un22 rfl) rfl rfl rfl ?_
        refine SeqK.q (q_gtr rfl rfl rfl) rfl rfl rfl ?_
        refine SeqK.qD (q_mvC rfl rfl) rfl rfl rfl (fun g65 => ?_) (fun g65 => ?_)
        ·
          refine SeqK.off rfl rfl rfl rfl rfl rfl ?_
          refine SeqK.off rfl rfl rfl rfl rfl rfl ?_
          refine SeqK.off rfl rfl rfl rfl rfl rfl ?_
          refine SeqK.q (q_pkT rfl rfl rfl) rfl rfl rfl ?_
          refine SeqK.q (q_mvC rfl rfl) rfl rfl rfl ?_
          refine SeqK.off rfl rfl rfl rfl rfl rfl ?_
          refine SeqK.off rfl rfl rfl rfl rfl rfl ?_
          refine SeqK.off rfl rfl rfl rfl rfl rfl ?_
          refine SeqK.q (q_pkT rfl rfl rfl) rfl rfl rfl ?_
          refine SeqK.nil ?_
          refine AW.condT rfl ?_
          refine AW.seq ?_
          refine AW.reg ?_
          refine SeqK.q (q_build2 (zs := [_, _]) (r := [_, _]) [(0, 1), (1, 1)] _ rfl Fx.ze24 rfl Fx.bp24 rfl rfl rfl rfl) rfl rfl rfl ?_
          refine SeqK.xw 75 rfl XW.tm0 ?_
          refine SeqK.r (b_store (r := [_, _]) rfl rfl Fx.ty24 rfl rfl rfl rfl rfl rfl) rfl ?_
          refine SeqK.q (q_asC rfl rfl) rfl rfl rfl ?_
          refine SeqK.nil ?_
          refine AW.ret ?_
          exact fin_x (x := .tup [_, _]) (H) (.cellL rfl rfl Fx.ty24 rfl rfl (.tmp rfl .nil)) rfl (fun _ _ h => h) (⟨by rw [comb, if_neg h13, if_neg h20, if_neg h36, if_pos (by simp only [List.length_map] at *; omega)]; rfl, rfl⟩)
        ·
          refine SeqK.on (q_fieldL _ rfl Fx.fl24_0 rfl rfl) rfl rfl rfl rfl rfl ?_
          refine SeqK.rOn (b_load (r := .a _) rfl Fx.ty2 rfl rfl rfl rfl rfl rfl) rfl rfl rfl ?_
          refine SeqK.on (q_lss rfl rfl rfl) rfl rfl rfl rfl rfl ?_
          refine SeqK.q (q_pkF rfl rfl rfl) rfl rfl rfl ?_
          refine SeqK.qD (q_mvC rfl rfl) rfl rfl rfl (fun g70 => ?_) (fun g70 => ?_)
          ·
            refine SeqK.off rfl rfl rfl rfl rfl rfl ?_
            refine SeqK.off rfl rfl rfl rfl rfl rfl ?_
            refine SeqK.off rfl rfl rfl rfl rfl rfl ?_
            refine SeqK.q (q_pkT rfl rfl rfl) rfl rfl rfl ?_
            refine SeqK.nil ?_
            refine AW.condT rfl ?_
            refine AW.seq ?_
            refine AW.reg ?_
            refine SeqK.q (q_build2 (zs := [_, _]) (r := [_, _]) [(0, 1), (1, 1)] _ rfl Fx.ze24 rfl Fx.bp24 rfl rfl rfl rfl) rfl rfl rfl ?_
            refine SeqK.xw 75 rfl XW.tm0 ?_
            refine SeqK.r (b_store (r := [_, _]) rfl rfl Fx.ty24 rfl rfl rfl rfl rfl rfl) rfl ?_
            refine SeqK.q (q_asC rfl rfl) rfl rfl rfl ?_
            refine SeqK.nil ?_
            refine AW.ret ?_
            exact fin_x (x := .tup [_, _]) (H) (.cellL rfl rfl Fx.ty24 rfl rfl (.tmp rfl .nil)) rfl (fun _ _ h => h) (⟨by rw [comb, if_neg h13, if_neg h20, if_neg h36, if_pos (by simp only [List.length_map] at *; omega)]; rfl, rfl⟩)
          ·
            refine SeqK.on (q_fieldL _ rfl Fx.fl24_0 rfl rfl) rfl rfl rfl rfl rfl ?_
            refine SeqK.rOn (b_load (r := .a _) rfl Fx.ty2 rfl rfl rfl rfl rfl rfl) rfl rfl rfl ?_
            refine SeqK.on (q_gtr rfl rfl rfl) rfl rfl rfl rfl rfl ?_
            refine SeqK.q (q_pkF rfl rfl rfl) rfl rfl rfl ?_
            refine SeqK.nil ?_
            refine AW.condD rfl (fun h74 => ?_) (fun h74 => ?_)
            ·
              refine AW.seq ?_
              refine AW.reg ?_
              refine SeqK.q (q_build2 (zs := [_, _]) (r := [_, _]) [(0, 1), (1, 1)] _ rfl Fx.ze24 rfl Fx.bp24 rfl rfl rfl rfl) rfl rfl rfl ?_
              refine SeqK.xw 75 rfl XW.tm0 ?_
              refine SeqK.r (b_store (r := [_, _]) rfl rfl Fx.ty24 rfl rfl rfl rfl rfl rfl) rfl ?_
              refine SeqK.q (q_asC rfl rfl) rfl rfl rfl ?_
              refine SeqK.nil ?_
              refine AW.ret ?_
              exact fin_x (x := .tup [_, _]) (H) (.cellL rfl rfl Fx.ty24 rfl rfl (.tmp rfl .nil)) rfl (fun _ _ h => h) (⟨by rw [comb, if_neg h13, if_neg h20, if_neg h36, if_pos (by simp only [List.length_map] at *; omega)]; rfl, rfl⟩)
            ·
              refine AW.skip ?_
              refine AW.seq ?_
              refine AW.reg ?_
              refine SeqK.r (b_load (r := .g [_, _]) rfl Fx.ty24 rfl rfl rfl rfl rfl rfl) rfl ?_
              refine SeqK.q (q_fieldL _ rfl Fx.fl24_0 rfl rfl) rfl rfl rfl ?_
              refine SeqK.r (b_load (r := .a _) rfl Fx.ty2 rfl rfl rfl rfl rfl rfl) rfl ?_
              refine SeqK.q (q_call _ rfl Fx.fn32 rfl (div_any a b.c ha (by omega)) rfl) rfl rfl rfl ?_
              refine SeqK.q (q_mvT rfl rfl) rfl rfl rfl ?_
              refine SeqK.q (q_extract _ rfl rfl rfl) rfl rfl rfl ?_
              refine SeqK.q (q_extract _ rfl rfl rfl) rfl rfl rfl ?_
              refine SeqK.r (b_alloc (r := [_, _]) rfl rfl Fx.ze24 rfl rfl rfl rfl) rfl ?_
              refine SeqK.r (b_store (r := [_, _]) rfl rfl Fx.ty24 rfl rfl rfl rfl rfl rfl) rfl ?_
              refine SeqK.q (q_asC rfl rfl) rfl rfl rfl ?_
              refine SeqK.nil ?_
              refine AW.seq ?_
              refine AW.seq ?_
              refine AW.reg ?_
              refine SeqK.q (q_mvC rfl rfl) rfl rfl rfl ?_
              refine SeqK.q (q_neq rfl rfl rfl) rfl rfl rfl ?_
              refine SeqK.qD (q_mvC rfl rfl) rfl rfl rfl (fun g85 => ?_) (fun g85 => ?_)
              ·
                refine SeqK.off rfl rfl rfl rfl rfl rfl ?_
                refine SeqK.off rfl rfl rfl rfl rfl rfl ?_
                refine SeqK.q (q_pkT rfl rfl rfl) rfl rfl rfl ?_
                refine SeqK.nil ?_
                refine AW.condT rfl ?_
                refine AW.seq ?_
                refine AW.reg ?_
                refine SeqK.r (b_load (r := .g [_, _]) rfl Fx.ty24 rfl rfl rfl rfl rfl rfl) rfl ?_
                refine SeqK.q (q_mvC rfl rfl) rfl rfl rfl ?_
                refine SeqK.r (b_store (r := [_, _]) rfl rfl Fx.ty24 rfl rfl rfl rfl rfl rfl) rfl ?_
                refine SeqK.q (q_asC rfl rfl) rfl rfl rfl ?_
                refine SeqK.nil ?_
                refine AW.ret ?_
                exact fin_x (x := .tup [_, _]) (H) (.cellL rfl rfl Fx.ty24 rfl rfl (.tmp rfl .nil)) rfl (fun _ _ h => h) (⟨by rw [comb, if_neg h13, if_neg h20, if_neg h36, if_neg (by simp only [List.length_map] at *; omega), if_pos (by first | exact .inl g85 | exact .inr h88)]; rfl, rfl⟩)
              ·
                have hd0 : (div a b.c).2 = 0 := Classical.not_not.1 g85
                refine SeqK.on (q_mvC rfl rfl) rfl rfl rfl rfl rfl ?_
                refine SeqK.on (q_eql rfl rfl rfl) rfl rfl rfl rfl rfl ?_
                refine SeqK.q (q_pkF rfl rfl rfl) rfl rfl rfl ?_
                refine SeqK.nil ?_
                refine AW.condD rfl (fun h88 => ?_) (fun h88 => ?_)
                ·
                  refine AW.seq ?_
                  refine AW.reg ?_
                  refine SeqK.r (b_load (r := .g [_, _]) rfl Fx.ty24 rfl rfl rfl rfl rfl rfl) rfl ?_
                  refine SeqK.q (q_mvC rfl rfl) rfl rfl rfl ?_
                  refine SeqK.r (b_store (r := [_, _]) rfl rfl Fx.ty24 rfl rfl rfl rfl rfl rfl) rfl ?_
                  refine SeqK.q (q_asC rfl rfl) rfl rfl rfl ?_
                  refine SeqK.nil ?_
                  refine AW.ret ?_
                  exact fin_x (x := .tup [_, _]) (H) (.cellL rfl rfl Fx.ty24 rfl rfl (.tmp rfl .nil)) rfl (fun _ _ h => h) (⟨by rw [comb, if_neg h13, if_neg h20, if_neg h36, if_neg (by simp only [List.length_map] at *; omega), if_pos (by first | exact .inl g85 | exact .inr h88)]; rfl, rfl⟩)
                ·
                  refine AW.skip ?_
                  refine AW.seq ?_
                  refine AW.reg ?_
                  refine SeqK.r (b_load (r := .g [_, _]) rfl Fx.ty24 rfl rfl rfl rfl rfl rfl) rfl ?_
                  refine SeqK.q (q_fieldL _ rfl Fx.fl24_0 rfl rfl) rfl rfl rfl ?_
                  refine SeqK.r (b_load (r := .a _) rfl Fx.ty2 rfl rfl rfl rfl rfl rfl) rfl ?_
                  refine SeqK.q (q_neg _ rfl rfl ((by rw [w64 (by omega) (by omega)]; omega : IntKind.i64.wrap _ = -b.c))) rfl rfl rfl ?_
                  refine SeqK.q (q_call _ rfl Fx.fn30 rfl (scale_any _ (-b.c) (vldT_bok (div_vld ha hd0)) (vldT_one (div_vld ha hd0)) (by omega) (by omega)) rfl) rfl rfl rfl ?_
                  refine SeqK.q (q_mvT rfl rfl) rfl rfl rfl ?_
                  refine SeqK.q (q_extract _ rfl rfl rfl) rfl rfl rfl ?_
                  refine SeqK.q (q_extract _ rfl rfl rfl) rfl rfl rfl ?_
                  refine SeqK.r (b_store (r := [_, _]) rfl rfl Fx.ty24 rfl rfl rfl rfl rfl rfl) rfl ?_
                  refine SeqK.q (q_asC rfl rfl) rfl rfl rfl ?_
                  refine SeqK.nil ?_
                  refine AW.seq ?_
                  refine AW.seq ?_
                  refine AW.reg ?_
                  refine SeqK.q (q_mvC rfl rfl) rfl rfl rfl ?_
                  refine SeqK.q (q_neq rfl rfl rfl) rfl rfl rfl ?_
                  refine SeqK.nil ?_
                  refine AW.condD rfl (fun h100 => ?_) (fun h100 => ?_)
                  ·
                    refine AW.seq ?_
                    refine AW.reg ?_
                    refine SeqK.q (q_build2 (zs := [_, _]) (r := [_, _]) [(0, 1), (1, 1)] _ rfl Fx.ze24 rfl Fx.bp24 rfl rfl rfl rfl) rfl rfl rfl ?_
                    refine SeqK.xw 101 rfl XW.tm0 ?_
                    refine SeqK.q (q_mvC rfl rfl) rfl rfl rfl ?_
                    refine SeqK.r (b_store (r := [_, _]) rfl rfl Fx.ty24 rfl rfl rfl rfl rfl rfl) rfl ?_
                    refine SeqK.q (q_asC rfl rfl) rfl rfl rfl ?_
                    refine SeqK.nil ?_
                    refine AW.ret ?_
                    exact fin_x (x := .tup [_, _]) (H) (.cellL rfl rfl Fx.ty24 rfl rfl (.tmp rfl .nil)) rfl (fun _ _ h => h) (⟨by rw [comb, if_neg h13, if_neg h20, if_neg h36, if_neg (by simp only [List.length_map] at *; omega), if_neg (by omega), if_pos h100]; rfl, rfl⟩)
                  ·
                    have hs1 : (scale (div a b.c).1 (-b.c)).2 = 0 := Classical.not_not.1 h100
                    refine AW.skip ?_
                    refine AW.seq ?_
                    refine AW.reg ?_
                    refine SeqK.r (b_load (r := .g [_, _]) rfl Fx.ty24 rfl rfl rfl rfl rfl rfl) rfl ?_
                    refine SeqK.r (b_load (r := .g [_, _]) rfl Fx.ty24 rfl rfl rfl rfl rfl rfl) rfl ?_
                    refine SeqK.q (q_call _ rfl Fx.fn27 rfl (add_any a _ ha (scale_vld (div_vld ha hd0) hs1) (by omega)) rfl) rfl rfl rfl ?_
                    refine SeqK.q (q_extract _ rfl rfl rfl) rfl rfl rfl ?_
                    refine SeqK.q (q_extract _ rfl rfl rfl) rfl rfl rfl ?_
                    refine SeqK.r (b_store (r := [_, _]) rfl rfl Fx.ty24 rfl rfl rfl rfl rfl rfl) rfl ?_
                    refine SeqK.q (q_asC rfl rfl) rfl rfl rfl ?_
                    refine SeqK.nil ?_
                    refine AW.ret ?_
                    exact fin_x (x := .tup [_, _]) (H) (.cellL rfl rfl Fx.ty24 rfl rfl (.tmp rfl .nil)) rfl (fun _ _ h => h) (⟨by rw [comb, if_neg h13, if_neg h20, if_neg h36, if_neg (by simp only [List.length_map] at *; omega), if_neg (by omega), if_neg h100]; rfl, rfl⟩)

end Go.Proofs.YtfbdokfcebpkaaaDoor.W
namespace Go.Proofs.YtfbdokfcebpkaaaDoor.W
open Go.RowKit E M
set_option linter.unusedVariables false
set_option linter.unusedSimpArgs false
set_option linter.unusedSectionVars false
theorem XW.pt0 {a b c d : A} : XW (.c (.g [a, b, c, d, .t (.v (.slice none 0 0))])) (.c (.g [a, b, c, d, .t (.sl .un 2 [])])) := ⟨rfl, fun cx v h => by
  obtain ⟨us, rfl, h1, h2⟩ := h
  refine ⟨us, rfl, by simpa using h1, fun i x v hx hv => ?_⟩
  match i with
  | 0 => simp at hx; subst hx; exact h2 0 _ v rfl hv
  | 1 => simp at hx; subst hx; exact h2 1 _ v rfl hv
  | 2 => simp at hx; subst hx; exact h2 2 _ v rfl hv
  | 3 => simp at hx; subst hx; exact h2 3 _ v rfl hv
  | 4 =>
    simp at hx; subst hx
    exact XW.nilU.2 cx v (h2 4 _ v rfl hv)
  | i + 5 => simp at hx⟩
theorem bok_c {n : Int} (h : R64 n) : bokT ⟨n, []⟩ := ⟨h, by simp, by simp⟩
theorem bok_v {k v : Int} (hk : k ≠ 2) : bokT ⟨0, [⟨1, k, v, 0, []⟩]⟩ := by
  refine ⟨by show -9223372036854775808 ≤ (0 : Int) ∧ (0 : Int) ≤ 9223372036854775807; decide, fun p hp => ?_, fun p hp => ?_⟩
  · obtain rfl : p = ⟨1, k, v, 0, []⟩ := by simpa using hp
    show -9223372036854775808 ≤ (1 : Int) ∧ (1 : Int) ≤ 9223372036854775807
    decide
  · obtain rfl : p = ⟨1, k, v, 0, []⟩ := by simpa using hp
    exact fun h => absurd h hk
theorem cnt_c {n : Int} : (⟨n, []⟩ : Tm).cnt ≤ 100000 := by simp [Tm.cnt, cntPs]
theorem cnt_v {k v : Int} : (⟨0, [⟨1, k, v, 0, []⟩]⟩ : Tm).cnt ≤ 100000 := by simp [Tm.cnt, cntPs, Pt.cnt, cntTs]
structure rgE (e : Ex) : Prop where
  vn : R64 e.vn
  len : e.args.length ≤ 1000000
  vs : ∀ a ∈ e.args, a.vs.size ≤ 1152921504606846976

set_option maxHeartbeats 4000000 in
set_option maxRecDepth 20000 in
theorem leaf_of (e : Ex) (hr : rgE e) (ih : ∀ a ∈ e.args, Pure Tryd.prog 23 [exC a] (trC (ofE a))) : Pure Tryd.prog 62 [exC e] (trC (leafE e.op e.ix e.vk e.vn e.args (e.args.map ofE))) := by
  intro H
  refine Spec.enter Tryd.func62 rfl ?_
  refine AW.wk (Wk.keep 114 [(0, .c (exC e))] [] (H) rfl ⟨rfl, trivial⟩ trivial (fun _ _ h => h) rfl) ?_
  refine AW.seq ?_
  refine AW.reg ?_
  refine SeqK.r (b_box (r := [_, _, _, _, _, _, _, _]) rfl rfl rfl rfl rfl rfl) rfl ?_
  refine SeqK.r (b_alloc (r := [_, _]) rfl rfl Fx.ze24 rfl rfl rfl rfl) rfl ?_
  refine SeqK.q (q_asC rfl rfl) rfl rfl rfl ?_
  refine SeqK.nil ?_
  refine AW.seq ?_
  refine AW.reg ?_
  refine SeqK.q (q_fieldL _ rfl Fx.fl36_3 rfl rfl) rfl rfl rfl ?_
  refine SeqK.r (b_load (r := .a _) rfl Fx.ty3 rfl rfl rfl rfl rfl rfl) rfl ?_
  refine SeqK.q (q_build2 (zs := [_, _, _, _, _]) (r := [_, _, _, _, _]) [(0, 1), (1, 1), (2, 1), (3, 1), (4, 1)] _ rfl Fx.ze62 rfl Fx.bp62 rfl rfl rfl rfl) rfl rfl rfl ?_
  refine SeqK.xw 8 rfl XW.pt0 ?_
  refine SeqK.r (b_alloc (r := [_, _, _, _, _]) rfl rfl Fx.ze62 rfl rfl rfl rfl) rfl ?_
  refine SeqK.r (b_store (r := [_, _, _, _, _]) rfl rfl Fx.ty62 rfl rfl rfl rfl rfl rfl) rfl ?_
  refine SeqK.nil ?_
  refine AW.seq ?_
  refine AW.seq ?_
  refine AW.reg ?_
  refine SeqK.q (q_fieldL _ rfl Fx.fl36_0 rfl rfl) rfl rfl rfl ?_
  refine SeqK.r (b_load (r := .a _) rfl Fx.ty3 rfl rfl rfl rfl rfl rfl) rfl ?_
  refine SeqK.q (q_eql rfl rfl rfl) rfl rfl rfl ?_
  refine SeqK.nil ?_
  refine AW.condD rfl (fun h11 => ?_) (fun h11 => ?_)
  ·
    refine AW.seq ?_
    refine AW.seq ?_
    refine AW.reg ?_
    refine SeqK.q (q_fieldL _ rfl Fx.fl36_5 rfl rfl) rfl rfl rfl ?_
    refine SeqK.r (b_load (r := .a _) rfl Fx.ty34 rfl rfl rfl rfl rfl rfl) rfl ?_
    refine SeqK.q (q_len rfl Fx.un34 rfl) rfl rfl rfl ?_
    refine SeqK.q (q_neq rfl rfl rfl) rfl rfl rfl ?_
    refine SeqK.nil ?_
    refine AW.condD rfl (fun h15 => ?_) (fun h15 => ?_)
    ·
      refine AW.seq ?_
      refine AW.reg ?_
      refine SeqK.r (b_load (r := .g [_, _, _, _, _, _, _, _]) rfl Fx.ty36 rfl rfl rfl rfl rfl rfl) rfl ?_
      refine SeqK.q (q_call _ rfl Fx.fn63 rfl (ops_of e hr.len ih) rfl) rfl rfl rfl ?_
      refine SeqK.q (q_extract _ rfl rfl rfl) rfl rfl rfl ?_
      refine SeqK.q (q_extract _ rfl rfl rfl) rfl rfl rfl ?_
      refine SeqK.r (b_store (r := [_, _]) rfl rfl Fx.ty24 rfl rfl rfl rfl rfl rfl) rfl ?_
      refine SeqK.q (q_asC rfl rfl) rfl rfl rfl ?_
      refine SeqK.nil ?_
      refine AW.ret ?_
      exact fin_x (x := .tup [_, _]) (H) (.cellL rfl rfl Fx.ty24 rfl rfl (.tmp rfl .nil)) rfl (fun _ _ h => h) (⟨by rw [leaf9_ne h11 (by simp only [List.length_map] at *; omega)]; rfl, rfl⟩)
    ·
      have hl1 : e.args.length = 1 := by rw [List.length_map] at h15; omega
      have h01 : 0 < e.args.length := by omega
      have hvs := hr.vs _ (List.getElem_mem h01)
      refine AW.skip ?_
      refine AW.seq ?_
      refine AW.reg ?_
      refine SeqK.q (q_fieldL _ rfl Fx.fl36_5 rfl rfl) rfl rfl rfl ?_
      refine SeqK.r (b_load (r := .a _) rfl Fx.ty34 rfl rfl rfl rfl rfl rfl) rfl ?_
      refine SeqK.q (q_index _ rfl Fx.sl34 rfl rfl (by omega) (idx_ex h01)) rfl rfl rfl ?_
      refine SeqK.q (q_load (.g [_, _, _, _, _, _, _, _]) rfl Fx.ty36 rfl rfl rfl) rfl rfl rfl ?_
      refine SeqK.r (b_alloc (r := [_, _, _, _, _, _, _, _]) rfl rfl Fx.ze36 rfl rfl rfl rfl) rfl ?_
      refine SeqK.r (b_store (r := [_, _, _, _, _, _, _, _]) rfl rfl Fx.ty36 rfl rfl rfl rfl rfl rfl) rfl ?_
      refine SeqK.nil ?_
      refine AW.seq ?_
      refine AW.seq ?_
      refine AW.reg ?_
      refine SeqK.q (q_fieldL _ rfl Fx.fl36_5 rfl rfl) rfl rfl rfl ?_
      refine SeqK.r (b_load (r := .a _) rfl Fx.ty34 rfl rfl rfl rfl rfl rfl) rfl ?_
      refine SeqK.q (q_len rfl Fx.un34 rfl) rfl rfl rfl ?_
      refine SeqK.q (q_gtr rfl rfl rfl) rfl rfl rfl ?_
      refine SeqK.nil ?_
      refine AW.condD rfl (fun h27 => ?_) (fun h27 => ?_)
      ·
        refine AW.seq ?_
        refine AW.reg ?_
        refine SeqK.r (b_load (r := .g [_, _, _, _, _, _, _, _]) rfl Fx.ty36 rfl rfl rfl rfl rfl rfl) rfl ?_
        refine SeqK.q (q_call _ rfl Fx.fn63 rfl (ops_of e hr.len ih) rfl) rfl rfl rfl ?_
        refine SeqK.q (q_extract _ rfl rfl rfl) rfl rfl rfl ?_
        refine SeqK.q (q_extract _ rfl rfl rfl) rfl rfl rfl ?_
        refine SeqK.r (b_store (r := [_, _]) rfl rfl Fx.ty24 rfl rfl rfl rfl rfl rfl) rfl ?_
        refine SeqK.q (q_asC rfl rfl) rfl rfl rfl ?_
        refine SeqK.nil ?_
        refine AW.ret ?_
        exact fin_x (x := .tup [_, _]) (H) (.cellL rfl rfl Fx.ty24 rfl rfl (.tmp rfl .nil)) rfl (fun _ _ h => h) (⟨by rw [leaf9_one h11 h01 hl1, lenE, if_pos (by simp only [List.length_map] at *; omega)]; rfl, rfl⟩)
      ·
        refine AW.skip ?_
        refine AW.seq ?_
        refine AW.block ?_
        refine AW.seq ?_
        refine AW.reg ?_
        refine SeqK.q (q_fieldL _ rfl Fx.fl36_0 rfl rfl) rfl rfl rfl ?_
        refine SeqK.r (b_load (r := .a _) rfl Fx.ty3 rfl rfl rfl rfl rfl rfl) rfl ?_
        refine SeqK.q (q_eql rfl rfl rfl) rfl rfl rfl ?_
        refine SeqK.qD (q_mvC rfl rfl) rfl rfl rfl (fun g36 => ?_) (fun g36 => ?_)
        ·
          refine SeqK.on (q_fieldL _ rfl Fx.fl36_4 rfl rfl) rfl rfl rfl rfl rfl ?_
          refine SeqK.on (q_fieldL _ rfl Fx.fl33_0 rfl rfl) rfl rfl rfl rfl rfl ?_
          refine SeqK.rOn (b_load (r := .a _) rfl Fx.ty3 rfl rfl rfl rfl rfl rfl) rfl rfl rfl ?_
          refine SeqK.on (q_eql rfl rfl rfl) rfl rfl rfl rfl rfl ?_
          refine SeqK.q (q_pkT rfl rfl rfl) rfl rfl rfl ?_
          refine SeqK.q (q_asC rfl rfl) rfl rfl rfl ?_
          refine SeqK.nil ?_
          refine AW.condD rfl (fun h32 => ?_) (fun h32 => ?_)
          ·
            refine AW.seq ?_
            refine AW.reg ?_
            refine SeqK.q (q_fieldL _ rfl Fx.fl36_4 rfl rfl) rfl rfl rfl ?_
            refine SeqK.q (q_fieldL _ rfl Fx.fl33_2 rfl rfl) rfl rfl rfl ?_
            refine SeqK.r (b_load (r := .a _) rfl Fx.ty9 rfl rfl rfl rfl rfl rfl) rfl ?_
            refine SeqK.q (q_lenS rfl Fx.un9 rfl) rfl rfl rfl ?_
            refine SeqK.q (q_build2 (zs := [_, _]) (r := [_, _]) [(0, 1), (1, 1)] _ rfl Fx.ze24 rfl Fx.bp24 rfl rfl rfl rfl) rfl rfl rfl ?_
            refine SeqK.xw 46 rfl XW.tm0 ?_
            refine SeqK.q (q_call _ rfl Fx.fn67 rfl (checked_any ⟨(e.args[0].vs.size : Int), []⟩ (bok_c (by omega)) cnt_c) rfl) rfl rfl rfl ?_
            refine SeqK.q (q_extract _ rfl rfl rfl) rfl rfl rfl ?_
            refine SeqK.q (q_extract _ rfl rfl rfl) rfl rfl rfl ?_
            refine SeqK.r (b_store (r := [_, _]) rfl rfl Fx.ty24 rfl rfl rfl rfl rfl rfl) rfl ?_
            refine SeqK.q (q_asC rfl rfl) rfl rfl rfl ?_
            refine SeqK.nil ?_
            refine AW.ret ?_
            exact fin_x (x := .tup [_, _]) (H) (.cellL rfl rfl Fx.ty24 rfl rfl (.tmp rfl .nil)) rfl (fun _ _ h => h) (⟨by rw [leaf9_one h11 h01 hl1, lenE, if_neg (by simp only [List.length_map] at *; omega), if_pos ⟨g36, h32⟩]; rfl, rfl⟩)
          ·
            refine AW.seq ?_
            refine AW.reg ?_
            refine SeqK.q (q_fieldL _ rfl Fx.fl36_0 rfl rfl) rfl rfl rfl ?_
            refine SeqK.r (b_load (r := .a _) rfl Fx.ty3 rfl rfl rfl rfl rfl rfl) rfl ?_
            refine SeqK.q (q_eql rfl rfl rfl) rfl rfl rfl ?_
            refine SeqK.qD (q_mvC rfl rfl) rfl rfl rfl (fun g54 => ?_) (fun g54 => ?_)
            ·
              refine SeqK.on (q_fieldL _ rfl Fx.fl36_3 rfl rfl) rfl rfl rfl rfl rfl ?_
              refine SeqK.rOn (b_load (r := .a _) rfl Fx.ty3 rfl rfl rfl rfl rfl rfl) rfl rfl rfl ?_
              refine SeqK.on (q_geq rfl rfl rfl) rfl rfl rfl rfl rfl ?_
              refine SeqK.q (q_pkT rfl rfl rfl) rfl rfl rfl ?_
              refine SeqK.q (q_asC rfl rfl) rfl rfl rfl ?_
              refine SeqK.nil ?_
              refine AW.condD rfl (fun h50 => ?_) (fun h50 => ?_)
              ·
                refine AW.seq ?_
                refine AW.draw Fx.mo ?_
                refine LexK.q (q_fieldL _ rfl Fx.fl36_3 rfl rfl) rfl rfl rfl ?_
                refine LexK.r (b_load (r := .a _) rfl Fx.ty3 rfl rfl rfl rfl rfl rfl) rfl ?_
                refine LexK.q (q_fieldL _ rfl Fx.fl62_1 rfl rfl) rfl rfl rfl ?_
                refine LexK.r (b_store (r := [_, _, _, _, _]) rfl rfl Fx.ty3 rfl rfl rfl rfl rfl rfl) rfl ?_
                refine LexK.q (q_fieldL _ rfl Fx.fl62_2 rfl rfl) rfl rfl rfl ?_
                refine LexK.r (b_store (r := [_, _, _, _, _]) rfl rfl Fx.ty3 rfl rfl rfl rfl rfl rfl) rfl ?_
                refine LexK.nil (by kernel_rfl) ?_
                refine AW.seq ?_
                refine AW.reg ?_
                refine SeqK.r (b_load (r := .g [_, _, _, _, _]) rfl Fx.ty62 rfl rfl rfl rfl rfl rfl) rfl ?_
                refine SeqK.q (q_buildSlice _ rfl Fx.el22 rfl (by decide) rfl) rfl rfl rfl ?_
                refine SeqK.xw 64 rfl .un ?_
                refine SeqK.q (q_build2 (zs := [_, _]) (r := [_, _]) [(0, 1), (1, 1)] _ rfl Fx.ze24 rfl Fx.bp24 rfl rfl rfl rfl) rfl rfl rfl ?_
                refine SeqK.q (q_call _ rfl Fx.fn67 rfl (checked_any ⟨0, [⟨1, 1, e.args[0].ix, 0, []⟩]⟩ (bok_v (by decide)) cnt_v) rfl) rfl rfl rfl ?_
                refine SeqK.q (q_extract _ rfl rfl rfl) rfl rfl rfl ?_
                refine SeqK.q (q_extract _ rfl rfl rfl) rfl rfl rfl ?_
                refine SeqK.r (b_store (r := [_, _]) rfl rfl Fx.ty24 rfl rfl rfl rfl rfl rfl) rfl ?_
                refine SeqK.q (q_asC rfl rfl) rfl rfl rfl ?_
                refine SeqK.nil ?_
                refine AW.ret ?_
                exact fin_x (x := .tup [_, _]) (H) (.cellL rfl rfl Fx.ty24 rfl rfl (.tmp rfl .nil)) rfl (fun _ _ h => h) (⟨by rw [leaf9_one h11 h01 hl1, lenE, if_neg (by simp only [List.length_map] at *; omega), if_neg (by omega), if_pos ⟨g54, h50⟩]; rfl, rfl⟩)
              ·
                refine AW.skip ?_
                refine AW.seq ?_
                refine AW.reg ?_
                refine SeqK.r (b_load (r := .g [_, _, _, _, _, _, _, _]) rfl Fx.ty36 rfl rfl rfl rfl rfl rfl) rfl ?_
                refine SeqK.q (q_call _ rfl Fx.fn63 rfl (ops_of e hr.len ih) rfl) rfl rfl rfl ?_
                refine SeqK.q (q_extract _ rfl rfl rfl) rfl rfl rfl ?_
                refine SeqK.q (q_extract _ rfl rfl rfl) rfl rfl rfl ?_
                refine SeqK.r (b_store (r := [_, _]) rfl rfl Fx.ty24 rfl rfl rfl rfl rfl rfl) rfl ?_
                refine SeqK.q (q_asC rfl rfl) rfl rfl rfl ?_
                refine SeqK.nil ?_
                refine AW.ret ?_
                exact fin_x (x := .tup [_, _]) (H) (.cellL rfl rfl Fx.ty24 rfl rfl (.tmp rfl .nil)) rfl (fun _ _ h => h) (⟨by rw [leaf9_one h11 h01 hl1, lenE, if_neg (by simp only [List.length_map] at *; omega), if_neg (by omega), if_neg (by omega)]; rfl, rfl⟩)
            ·
              refine SeqK.off rfl rfl rfl rfl rfl rfl ?_
              refine SeqK.off rfl rfl rfl rfl rfl rfl ?_
              refine SeqK.off rfl rfl rfl rfl rfl rfl ?_
              refine SeqK.q (q_pkF rfl rfl rfl) rfl rfl rfl ?_
              refine SeqK.q (q_asC rfl rfl) rfl rfl rfl ?_
              refine SeqK.nil ?_
              refine AW.condF rfl ?_
              refine AW.skip ?_
              refine AW.seq ?_
              refine AW.reg ?_
              refine SeqK.r (b_load (r := .g [_, _, _, _, _, _, _, _]) rfl Fx.ty36 rfl rfl rfl rfl rfl rfl) rfl ?_
              refine SeqK.q (q_call _ rfl Fx.fn63 rfl (ops_of e hr.len ih) rfl) rfl rfl rfl ?_
              refine SeqK.q (q_extract _ rfl rfl rfl) rfl rfl rfl ?_
              refine SeqK.q (q_extract _ rfl rfl rfl) rfl rfl rfl ?_
              refine SeqK.r (b_store (r := [_, _]) rfl rfl Fx.ty24 rfl rfl rfl rfl rfl rfl) rfl ?_
              refine SeqK.q (q_asC rfl rfl) rfl rfl rfl ?_
              refine SeqK.nil ?_
              refine AW.ret ?_
              exact fin_x (x := .tup [_, _]) (H) (.cellL rfl rfl Fx.ty24 rfl rfl (.tmp rfl .nil)) rfl (fun _ _ h => h) (⟨by rw [leaf9_one h11 h01 hl1, lenE, if_neg (by simp only [List.length_map] at *; omega), if_neg (by omega), if_neg (by omega)]; rfl, rfl⟩)
        ·
          refine SeqK.off rfl rfl rfl rfl rfl rfl ?_
          refine SeqK.off rfl rfl rfl rfl rfl rfl ?_
          refine SeqK.off rfl rfl rfl rfl rfl rfl ?_
          refine SeqK.off rfl rfl rfl rfl rfl rfl ?_
          refine SeqK.q (q_pkF rfl rfl rfl) rfl rfl rfl ?_
          refine SeqK.q (q_asC rfl rfl) rfl rfl rfl ?_
          refine SeqK.nil ?_
          refine AW.condF rfl ?_
          refine AW.seq ?_
          refine AW.reg ?_
          refine SeqK.q (q_fieldL _ rfl Fx.fl36_0 rfl rfl) rfl rfl rfl ?_
          refine SeqK.r (b_load (r := .a _) rfl Fx.ty3 rfl rfl rfl rfl rfl rfl) rfl ?_
          refine SeqK.q (q_eql rfl rfl rfl) rfl rfl rfl ?_
          refine SeqK.qD (q_mvC rfl rfl) rfl rfl rfl (fun g54 => ?_) (fun g54 => ?_)
          ·
            refine SeqK.on (q_fieldL _ rfl Fx.fl36_3 rfl rfl) rfl rfl rfl rfl rfl ?_
            refine SeqK.rOn (b_load (r := .a _) rfl Fx.ty3 rfl rfl rfl rfl rfl rfl) rfl rfl rfl ?_
            refine SeqK.on (q_geq rfl rfl rfl) rfl rfl rfl rfl rfl ?_
            refine SeqK.q (q_pkT rfl rfl rfl) rfl rfl rfl ?_
            refine SeqK.q (q_asC rfl rfl) rfl rfl rfl ?_
            refine SeqK.nil ?_
            refine AW.condD rfl (fun h50 => ?_) (fun h50 => ?_)
            ·
              refine AW.seq ?_
              refine AW.draw Fx.mo ?_
              refine LexK.q (q_fieldL _ rfl Fx.fl36_3 rfl rfl) rfl rfl rfl ?_
              refine LexK.r (b_load (r := .a _) rfl Fx.ty3 rfl rfl rfl rfl rfl rfl) rfl ?_
              refine LexK.q (q_fieldL _ rfl Fx.fl62_1 rfl rfl) rfl rfl rfl ?_
              refine LexK.r (b_store (r := [_, _, _, _, _]) rfl rfl Fx.ty3 rfl rfl rfl rfl rfl rfl) rfl ?_
              refine LexK.q (q_fieldL _ rfl Fx.fl62_2 rfl rfl) rfl rfl rfl ?_
              refine LexK.r (b_store (r := [_, _, _, _, _]) rfl rfl Fx.ty3 rfl rfl rfl rfl rfl rfl) rfl ?_
              refine LexK.nil (by kernel_rfl) ?_
              refine AW.seq ?_
              refine AW.reg ?_
              refine SeqK.r (b_load (r := .g [_, _, _, _, _]) rfl Fx.ty62 rfl rfl rfl rfl rfl rfl) rfl ?_
              refine SeqK.q (q_buildSlice _ rfl Fx.el22 rfl (by decide) rfl) rfl rfl rfl ?_
              refine SeqK.xw 64 rfl .un ?_
              refine SeqK.q (q_build2 (zs := [_, _]) (r := [_, _]) [(0, 1), (1, 1)] _ rfl Fx.ze24 rfl Fx.bp24 rfl rfl rfl rfl) rfl rfl rfl ?_
              refine SeqK.q (q_call _ rfl Fx.fn67 rfl (checked_any ⟨0, [⟨1, 1, e.args[0].ix, 0, []⟩]⟩ (bok_v (by decide)) cnt_v) rfl) rfl rfl rfl ?_
              refine SeqK.q (q_extract _ rfl rfl rfl) rfl rfl rfl ?_
              refine SeqK.q (q_extract _ rfl rfl rfl) rfl rfl rfl ?_
              refine SeqK.r (b_store (r := [_, _]) rfl rfl Fx.ty24 rfl rfl rfl rfl rfl rfl) rfl ?_
              refine SeqK.q (q_asC rfl rfl) rfl rfl rfl ?_
              refine SeqK.nil ?_
              refine AW.ret ?_
              exact fin_x (x := .tup [_, _]) (H) (.cellL rfl rfl Fx.ty24 rfl rfl (.tmp rfl .nil)) rfl (fun _ _ h => h) (⟨by rw [leaf9_one h11 h01 hl1, lenE, if_neg (by simp only [List.length_map] at *; omega), if_neg (by omega), if_pos ⟨g54, h50⟩]; rfl, rfl⟩)
            ·
              refine AW.skip ?_
              refine AW.seq ?_
              refine AW.reg ?_
              refine SeqK.r (b_load (r := .g [_, _, _, _, _, _, _, _]) rfl Fx.ty36 rfl rfl rfl rfl rfl rfl) rfl ?_
              refine SeqK.q (q_call _ rfl Fx.fn63 rfl (ops_of e hr.len ih) rfl) rfl rfl rfl ?_
              refine SeqK.q (q_extract _ rfl rfl rfl) rfl rfl rfl ?_
              refine SeqK.q (q_extract _ rfl rfl rfl) rfl rfl rfl ?_
              refine SeqK.r (b_store (r := [_, _]) rfl rfl Fx.ty24 rfl rfl rfl rfl rfl rfl) rfl ?_
              refine SeqK.q (q_asC rfl rfl) rfl rfl rfl ?_
              refine SeqK.nil ?_
              refine AW.ret ?_
              exact fin_x (x := .tup [_, _]) (H) (.cellL rfl rfl Fx.ty24 rfl rfl (.tmp rfl .nil)) rfl (fun _ _ h => h) (⟨by rw [leaf9_one h11 h01 hl1, lenE, if_neg (by simp only [List.length_map] at *; omega), if_neg (by omega), if_neg (by omega)]; rfl, rfl⟩)
          ·
            refine SeqK.off rfl rfl rfl rfl rfl rfl ?_
            refine SeqK.off rfl rfl rfl rfl rfl rfl ?_
            refine SeqK.off rfl rfl rfl rfl rfl rfl ?_
            refine SeqK.q (q_pkF rfl rfl rfl) rfl rfl rfl ?_
            refine SeqK.q (q_asC rfl rfl) rfl rfl rfl ?_
            refine SeqK.nil ?_
            refine AW.condF rfl ?_
            refine AW.skip ?_
            refine AW.seq ?_
            refine AW.reg ?_
            refine SeqK.r (b_load (r := .g [_, _, _, _, _, _, _, _]) rfl Fx.ty36 rfl rfl rfl rfl rfl rfl) rfl ?_
            refine SeqK.q (q_call _ rfl Fx.fn63 rfl (ops_of e hr.len ih) rfl) rfl rfl rfl ?_
            refine SeqK.q (q_extract _ rfl rfl rfl) rfl rfl rfl ?_
            refine SeqK.q (q_extract _ rfl rfl rfl) rfl rfl rfl ?_
            refine SeqK.r (b_store (r := [_, _]) rfl rfl Fx.ty24 rfl rfl rfl rfl rfl rfl) rfl ?_
            refine SeqK.q (q_asC rfl rfl) rfl rfl rfl ?_
            refine SeqK.nil ?_
            refine AW.ret ?_
            exact fin_x (x := .tup [_, _]) (H) (.cellL rfl rfl Fx.ty24 rfl rfl (.tmp rfl .nil)) rfl (fun _ _ h => h) (⟨by rw [leaf9_one h11 h01 hl1, lenE, if_neg (by simp only [List.length_map] at *; omega), if_neg (by omega), if_neg (by omega)]; rfl, rfl⟩)
  ·
    refine AW.skip ?_
    refine AW.seq ?_
    refine AW.seq ?_
    refine AW.reg ?_
    refine SeqK.q (q_fieldL _ rfl Fx.fl36_5 rfl rfl) rfl rfl rfl ?_
    refine SeqK.r (b_load (r := .a _) rfl Fx.ty34 rfl rfl rfl rfl rfl rfl) rfl ?_
    refine SeqK.q (q_len rfl Fx.un34 rfl) rfl rfl rfl ?_
    refine SeqK.q (q_gtr rfl rfl rfl) rfl rfl rfl ?_
    refine SeqK.nil ?_
    refine AW.condD rfl (fun h76 => ?_) (fun h76 => ?_)
    ·
      refine AW.seq ?_
      refine AW.reg ?_
      refine SeqK.r (b_load (r := .g [_, _, _, _, _, _, _, _]) rfl Fx.ty36 rfl rfl rfl rfl rfl rfl) rfl ?_
      refine SeqK.q (q_call _ rfl Fx.fn63 rfl (ops_of e hr.len ih) rfl) rfl rfl rfl ?_
      refine SeqK.q (q_extract _ rfl rfl rfl) rfl rfl rfl ?_
      refine SeqK.q (q_extract _ rfl rfl rfl) rfl rfl rfl ?_
      refine SeqK.r (b_store (r := [_, _]) rfl rfl Fx.ty24 rfl rfl rfl rfl rfl rfl) rfl ?_
      refine SeqK.q (q_asC rfl rfl) rfl rfl rfl ?_
      refine SeqK.nil ?_
      refine AW.ret ?_
      exact fin_x (x := .tup [_, _]) (H) (.cellL rfl rfl Fx.ty24 rfl rfl (.tmp rfl .nil)) rfl (fun _ _ h => h) (⟨by rw [leafE, if_neg h11, if_pos (by simp only [List.length_map] at *; omega)]; rfl, rfl⟩)
    ·
      refine AW.skip ?_
      refine AW.seq ?_
      refine AW.block ?_
      refine AW.seq ?_
      refine AW.reg ?_
      refine SeqK.q (q_fieldL _ rfl Fx.fl36_0 rfl rfl) rfl rfl rfl ?_
      refine SeqK.r (b_load (r := .a _) rfl Fx.ty3 rfl rfl rfl rfl rfl rfl) rfl ?_
      refine SeqK.q (q_eql rfl rfl rfl) rfl rfl rfl ?_
      refine SeqK.qD (q_mvC rfl rfl) rfl rfl rfl (fun g85 => ?_) (fun g85 => ?_)
      ·
        refine SeqK.on (q_fieldL _ rfl Fx.fl36_4 rfl rfl) rfl rfl rfl rfl rfl ?_
        refine SeqK.on (q_fieldL _ rfl Fx.fl33_0 rfl rfl) rfl rfl rfl rfl rfl ?_
        refine SeqK.rOn (b_load (r := .a _) rfl Fx.ty3 rfl rfl rfl rfl rfl rfl) rfl rfl rfl ?_
        refine SeqK.on (q_eql rfl rfl rfl) rfl rfl rfl rfl rfl ?_
        refine SeqK.q (q_pkT rfl rfl rfl) rfl rfl rfl ?_
        refine SeqK.q (q_asC rfl rfl) rfl rfl rfl ?_
        refine SeqK.nil ?_
        refine AW.condD rfl (fun h81 => ?_) (fun h81 => ?_)
        ·
          refine AW.seq ?_
          refine AW.reg ?_
          refine SeqK.q (q_fieldL _ rfl Fx.fl36_4 rfl rfl) rfl rfl rfl ?_
          refine SeqK.q (q_fieldL _ rfl Fx.fl33_1 rfl rfl) rfl rfl rfl ?_
          refine SeqK.r (b_load (r := .a _) rfl Fx.ty2 rfl rfl rfl rfl rfl rfl) rfl ?_
          refine SeqK.q (q_build2 (zs := [_, _]) (r := [_, _]) [(0, 1), (1, 1)] _ rfl Fx.ze24 rfl Fx.bp24 rfl rfl rfl rfl) rfl rfl rfl ?_
          refine SeqK.xw 94 rfl XW.tm0 ?_
          refine SeqK.q (q_call _ rfl Fx.fn67 rfl (checked_any ⟨e.vn, []⟩ (bok_c hr.vn) cnt_c) rfl) rfl rfl rfl ?_
          refine SeqK.q (q_extract _ rfl rfl rfl) rfl rfl rfl ?_
          refine SeqK.q (q_extract _ rfl rfl rfl) rfl rfl rfl ?_
          refine SeqK.r (b_store (r := [_, _]) rfl rfl Fx.ty24 rfl rfl rfl rfl rfl rfl) rfl ?_
          refine SeqK.q (q_asC rfl rfl) rfl rfl rfl ?_
          refine SeqK.nil ?_
          refine AW.ret ?_
          exact fin_x (x := .tup [_, _]) (H) (.cellL rfl rfl Fx.ty24 rfl rfl (.tmp rfl .nil)) rfl (fun _ _ h => h) (⟨by rw [leafE, if_neg h11, if_neg (by simp only [List.length_map] at *; omega), if_pos ⟨g85, h81⟩]; rfl, rfl⟩)
        ·
          refine AW.seq ?_
          refine AW.reg ?_
          refine SeqK.q (q_fieldL _ rfl Fx.fl36_0 rfl rfl) rfl rfl rfl ?_
          refine SeqK.r (b_load (r := .a _) rfl Fx.ty3 rfl rfl rfl rfl rfl rfl) rfl ?_
          refine SeqK.q (q_eql rfl rfl rfl) rfl rfl rfl ?_
          refine SeqK.qD (q_mvC rfl rfl) rfl rfl rfl (fun g102 => ?_) (fun g102 => ?_)
          ·
            refine SeqK.on (q_fieldL _ rfl Fx.fl36_3 rfl rfl) rfl rfl rfl rfl rfl ?_
            refine SeqK.rOn (b_load (r := .a _) rfl Fx.ty3 rfl rfl rfl rfl rfl rfl) rfl rfl rfl ?_
            refine SeqK.on (q_geq rfl rfl rfl) rfl rfl rfl rfl rfl ?_
            refine SeqK.q (q_pkT rfl rfl rfl) rfl rfl rfl ?_
            refine SeqK.q (q_asC rfl rfl) rfl rfl rfl ?_
            refine SeqK.nil ?_
            refine AW.condD rfl (fun h98 => ?_) (fun h98 => ?_)
            ·
              refine AW.seq ?_
              refine AW.reg ?_
              refine SeqK.r (b_load (r := .g [_, _, _, _, _]) rfl Fx.ty62 rfl rfl rfl rfl rfl rfl) rfl ?_
              refine SeqK.q (q_buildSlice _ rfl Fx.el22 rfl (by decide) rfl) rfl rfl rfl ?_
              refine SeqK.xw 108 rfl .un ?_
              refine SeqK.q (q_build2 (zs := [_, _]) (r := [_, _]) [(0, 1), (1, 1)] _ rfl Fx.ze24 rfl Fx.bp24 rfl rfl rfl rfl) rfl rfl rfl ?_
              refine SeqK.q (q_call _ rfl Fx.fn67 rfl (checked_any ⟨0, [⟨1, 0, e.ix, 0, []⟩]⟩ (bok_v (by decide)) cnt_v) rfl) rfl rfl rfl ?_
              refine SeqK.q (q_extract _ rfl rfl rfl) rfl rfl rfl ?_
              refine SeqK.q (q_extract _ rfl rfl rfl) rfl rfl rfl ?_
              refine SeqK.r (b_store (r := [_, _]) rfl rfl Fx.ty24 rfl rfl rfl rfl rfl rfl) rfl ?_
              refine SeqK.q (q_asC rfl rfl) rfl rfl rfl ?_
              refine SeqK.nil ?_
              refine AW.ret ?_
              exact fin_x (x := .tup [_, _]) (H) (.cellL rfl rfl Fx.ty24 rfl rfl (.tmp rfl .nil)) rfl (fun _ _ h => h) (⟨by rw [leafE, if_neg h11, if_neg (by simp only [List.length_map] at *; omega), if_neg (by omega), if_pos ⟨g102, h98⟩]; rfl, rfl⟩)
            ·
              refine AW.skip ?_
              refine AW.seq ?_
              refine AW.reg ?_
              refine SeqK.q (q_build2 (zs := [_, _]) (r := [_, _]) [(0, 1), (1, 1)] _ rfl Fx.ze24 rfl Fx.bp24 rfl rfl rfl rfl) rfl rfl rfl ?_
              refine SeqK.xw 113 rfl XW.tm0 ?_
              refine SeqK.r (b_store (r := [_, _]) rfl rfl Fx.ty24 rfl rfl rfl rfl rfl rfl) rfl ?_
              refine SeqK.q (q_asC rfl rfl) rfl rfl rfl ?_
              refine SeqK.nil ?_
              refine AW.ret ?_
              exact fin_x (x := .tup [_, _]) (H) (.cellL rfl rfl Fx.ty24 rfl rfl (.tmp rfl .nil)) rfl (fun _ _ h => h) (⟨by rw [leafE, if_neg h11, if_neg (by simp only [List.length_map] at *; omega), if_neg (by omega), if_neg (by omega)]; rfl, rfl⟩)
          ·
            refine SeqK.off rfl rfl rfl rfl rfl rfl ?_
            refine SeqK.off rfl rfl rfl rfl rfl rfl ?_
            refine SeqK.off rfl rfl rfl rfl rfl rfl ?_
            refine SeqK.q (q_pkF rfl rfl rfl) rfl rfl rfl ?_
            refine SeqK.q (q_asC rfl rfl) rfl rfl rfl ?_
            refine SeqK.nil ?_
            refine AW.condF rfl ?_
            refine AW.skip ?_
            refine AW.seq ?_
            refine AW.reg ?_
            refine SeqK.q (q_build2 (zs := [_, _]) (r := [_, _]) [(0, 1), (1, 1)] _ rfl Fx.ze24 rfl Fx.bp24 rfl rfl rfl rfl) rfl rfl rfl ?_
            refine SeqK.xw 113 rfl XW.tm0 ?_
            refine SeqK.r (b_store (r := [_, _]) rfl rfl Fx.ty24 rfl rfl rfl rfl rfl rfl) rfl ?_
            refine SeqK.q (q_asC rfl rfl) rfl rfl rfl ?_
            refine SeqK.nil ?_
            refine AW.ret ?_
            exact fin_x (x := .tup [_, _]) (H) (.cellL rfl rfl Fx.ty24 rfl rfl (.tmp rfl .nil)) rfl (fun _ _ h => h) (⟨by rw [leafE, if_neg h11, if_neg (by simp only [List.length_map] at *; omega), if_neg (by omega), if_neg (by omega)]; rfl, rfl⟩)
      ·
        refine SeqK.off rfl rfl rfl rfl rfl rfl ?_
        refine SeqK.off rfl rfl rfl rfl rfl rfl ?_
        refine SeqK.off rfl rfl rfl rfl rfl rfl ?_
        refine SeqK.off rfl rfl rfl rfl rfl rfl ?_
        refine SeqK.q (q_pkF rfl rfl rfl) rfl rfl rfl ?_
        refine SeqK.q (q_asC rfl rfl) rfl rfl rfl ?_
        refine SeqK.nil ?_
        refine AW.condF rfl ?_
        refine AW.seq ?_
        refine AW.reg ?_
        refine SeqK.q (q_fieldL _ rfl Fx.fl36_0 rfl rfl) rfl rfl rfl ?_
        refine SeqK.r (b_load (r := .a _) rfl Fx.ty3 rfl rfl rfl rfl rfl rfl) rfl ?_
        refine SeqK.q (q_eql rfl rfl rfl) rfl rfl rfl ?_
        refine SeqK.qD (q_mvC rfl rfl) rfl rfl rfl (fun g102 => ?_) (fun g102 => ?_)
        ·
          refine SeqK.on (q_fieldL _ rfl Fx.fl36_3 rfl rfl) rfl rfl rfl rfl rfl ?_
          refine SeqK.rOn (b_load (r := .a _) rfl Fx.ty3 rfl rfl rfl rfl rfl rfl) rfl rfl rfl ?_
          refine SeqK.on (q_geq rfl rfl rfl) rfl rfl rfl rfl rfl ?_
          refine SeqK.q (q_pkT rfl rfl rfl) rfl rfl rfl ?_
          refine SeqK.q (q_asC rfl rfl) rfl rfl rfl ?_
          refine SeqK.nil ?_
          refine AW.condD rfl (fun h98 => ?_) (fun h98 => ?_)
          ·
            refine AW.seq ?_
            refine AW.reg ?_
            refine SeqK.r (b_load (r := .g [_, _, _, _, _]) rfl Fx.ty62 rfl rfl rfl rfl rfl rfl) rfl ?_
            refine SeqK.q (q_buildSlice _ rfl Fx.el22 rfl (by decide) rfl) rfl rfl rfl ?_
            refine SeqK.xw 108 rfl .un ?_
            refine SeqK.q (q_build2 (zs := [_, _]) (r := [_, _]) [(0, 1), (1, 1)] _ rfl Fx.ze24 rfl Fx.bp24 rfl rfl rfl rfl) rfl rfl rfl ?_
            refine SeqK.q (q_call _ rfl Fx.fn67 rfl (checked_any ⟨0, [⟨1, 0, e.ix, 0, []⟩]⟩ (bok_v (by decide)) cnt_v) rfl) rfl rfl rfl ?_
            refine SeqK.q (q_extract _ rfl rfl rfl) rfl rfl rfl ?_
            refine SeqK.q (q_extract _ rfl rfl rfl) rfl rfl rfl ?_
            refine SeqK.r (b_store (r := [_, _]) rfl rfl Fx.ty24 rfl rfl rfl rfl rfl rfl) rfl ?_
            refine SeqK.q (q_asC rfl rfl) rfl rfl rfl ?_
            refine SeqK.nil ?_
            refine AW.ret ?_
            exact fin_x (x := .tup [_, _]) (H) (.cellL rfl rfl Fx.ty24 rfl rfl (.tmp rfl .nil)) rfl (fun _ _ h => h) (⟨by rw [leafE, if_neg h11, if_neg (by simp only [List.length_map] at *; omega), if_neg (by omega), if_pos ⟨g102, h98⟩]; rfl, rfl⟩)
          ·
            refine AW.skip ?_
            refine AW.seq ?_
            refine AW.reg ?_
            refine SeqK.q (q_build2 (zs := [_, _]) (r := [_, _]) [(0, 1), (1, 1)] _ rfl Fx.ze24 rfl Fx.bp24 rfl rfl rfl rfl) rfl rfl rfl ?_
            refine SeqK.xw 113 rfl XW.tm0 ?_
            refine SeqK.r (b_store (r := [_, _]) rfl rfl Fx.ty24 rfl rfl rfl rfl rfl rfl) rfl ?_
            refine SeqK.q (q_asC rfl rfl) rfl rfl rfl ?_
            refine SeqK.nil ?_
            refine AW.ret ?_
            exact fin_x (x := .tup [_, _]) (H) (.cellL rfl rfl Fx.ty24 rfl rfl (.tmp rfl .nil)) rfl (fun _ _ h => h) (⟨by rw [leafE, if_neg h11, if_neg (by simp only [List.length_map] at *; omega), if_neg (by omega), if_neg (by omega)]; rfl, rfl⟩)
        ·
          refine SeqK.off rfl rfl rfl rfl rfl rfl ?_
          refine SeqK.off rfl rfl rfl rfl rfl rfl ?_
          refine SeqK.off rfl rfl rfl rfl rfl rfl ?_
          refine SeqK.q (q_pkF rfl rfl rfl) rfl rfl rfl ?_
          refine SeqK.q (q_asC rfl rfl) rfl rfl rfl ?_
          refine SeqK.nil ?_
          refine AW.condF rfl ?_
          refine AW.skip ?_
          refine AW.seq ?_
          refine AW.reg ?_
          refine SeqK.q (q_build2 (zs := [_, _]) (r := [_, _]) [(0, 1), (1, 1)] _ rfl Fx.ze24 rfl Fx.bp24 rfl rfl rfl rfl) rfl rfl rfl ?_
          refine SeqK.xw 113 rfl XW.tm0 ?_
          refine SeqK.r (b_store (r := [_, _]) rfl rfl Fx.ty24 rfl rfl rfl rfl rfl rfl) rfl ?_
          refine SeqK.q (q_asC rfl rfl) rfl rfl rfl ?_
          refine SeqK.nil ?_
          refine AW.ret ?_
          exact fin_x (x := .tup [_, _]) (H) (.cellL rfl rfl Fx.ty24 rfl rfl (.tmp rfl .nil)) rfl (fun _ _ h => h) (⟨by rw [leafE, if_neg h11, if_neg (by simp only [List.length_map] at *; omega), if_neg (by omega), if_neg (by omega)]; rfl, rfl⟩)

end Go.Proofs.YtfbdokfcebpkaaaDoor.W
namespace Go.Proofs.YtfbdokfcebpkaaaDoor.W
open Go.RowKit E M
set_option linter.unusedVariables false
set_option linter.unusedSimpArgs false
set_option linter.unusedSectionVars false
abbrev gd (r : Tm × Int) : Prop := r.2 = 0 → vldT r.1 = true ∧ r.1.cnt ≤ 20000

set_option maxHeartbeats 8000000 in
set_option maxRecDepth 20000 in
theorem of_of (e : Ex) (hr : rgE e) (hgd : ∀ a ∈ e.args, gd (ofE a)) (ih : ∀ a ∈ e.args, Pure Tryd.prog 23 [exC a] (trC (ofE a))) : Pure Tryd.prog 23 [exC e] (trC (ofE e)) := by
  intro H
  refine Spec.enter Tryd.func23 rfl ?_
  refine AW.wk (Wk.keep 94 [(0, .c (exC e))] [] (H) rfl ⟨rfl, trivial⟩ trivial (fun _ _ h => h) rfl) ?_
  refine AW.seq ?_
  refine AW.reg ?_
  refine SeqK.r (b_box (r := [_, _, _, _, _, _, _, _]) rfl rfl rfl rfl rfl rfl) rfl ?_
  refine SeqK.r (b_alloc (r := [_, _]) rfl rfl Fx.ze24 rfl rfl rfl rfl) rfl ?_
  refine SeqK.q (q_asC rfl rfl) rfl rfl rfl ?_
  refine SeqK.nil ?_
  refine AW.seq ?_
  refine AW.seq ?_
  refine AW.reg ?_
  refine SeqK.q (q_fieldL _ rfl Fx.fl36_0 rfl rfl) rfl rfl rfl ?_
  refine SeqK.r (b_load (r := .a _) rfl Fx.ty3 rfl rfl rfl rfl rfl rfl) rfl ?_
  refine SeqK.nil ?_
  refine AW.block ?_
  refine AW.seq ?_
  refine AW.seq ?_
  refine AW.reg ?_
  refine SeqK.q (q_eql rfl rfl rfl) rfl rfl rfl ?_
  refine SeqK.q (q_asC rfl rfl) rfl rfl rfl ?_
  refine SeqK.nil ?_
  refine AW.condD rfl (fun h11 => ?_) (fun h11 => ?_)
  ·
    refine AW.skip ?_
    refine AW.condD rfl (fun h11 => ?_) (fun h11 => ?_)
    ·
      refine AW.seq ?_
      refine AW.reg ?_
      refine SeqK.r (b_load (r := .g [_, _, _, _, _, _, _, _]) rfl Fx.ty36 rfl rfl rfl rfl rfl rfl) rfl ?_
      refine SeqK.q (q_call _ rfl Fx.fn62 rfl (leaf_of e hr ih) rfl) rfl rfl rfl ?_
      refine SeqK.q (q_extract _ rfl rfl rfl) rfl rfl rfl ?_
      refine SeqK.q (q_extract _ rfl rfl rfl) rfl rfl rfl ?_
      refine SeqK.r (b_store (r := [_, _]) rfl rfl Fx.ty24 rfl rfl rfl rfl rfl rfl) rfl ?_
      refine SeqK.q (q_asC rfl rfl) rfl rfl rfl ?_
      refine SeqK.nil ?_
      refine AW.ret ?_
      exact fin_x (x := .tup [_, _]) (H) (.cellL rfl rfl Fx.ty24 rfl rfl (.tmp rfl .nil)) rfl (fun _ _ h => h) (⟨by rw [ofE_eq e, stepE, if_pos (by omega)]; rfl, rfl⟩)
    ·
      exact absurd (by omega) h11
  ·
    refine AW.seq ?_
    refine AW.reg ?_
    refine SeqK.q (q_eql rfl rfl rfl) rfl rfl rfl ?_
    refine SeqK.q (q_asC rfl rfl) rfl rfl rfl ?_
    refine SeqK.nil ?_
    refine AW.condD rfl (fun h11 => ?_) (fun h11 => ?_)
    ·
      refine AW.skip ?_
      refine AW.condD rfl (fun h11 => ?_) (fun h11 => ?_)
      ·
        refine AW.seq ?_
        refine AW.reg ?_
        refine SeqK.r (b_load (r := .g [_, _, _, _, _, _, _, _]) rfl Fx.ty36 rfl rfl rfl rfl rfl rfl) rfl ?_
        refine SeqK.q (q_call _ rfl Fx.fn62 rfl (leaf_of e hr ih) rfl) rfl rfl rfl ?_
        refine SeqK.q (q_extract _ rfl rfl rfl) rfl rfl rfl ?_
        refine SeqK.q (q_extract _ rfl rfl rfl) rfl rfl rfl ?_
        refine SeqK.r (b_store (r := [_, _]) rfl rfl Fx.ty24 rfl rfl rfl rfl rfl rfl) rfl ?_
        refine SeqK.q (q_asC rfl rfl) rfl rfl rfl ?_
        refine SeqK.nil ?_
        refine AW.ret ?_
        exact fin_x (x := .tup [_, _]) (H) (.cellL rfl rfl Fx.ty24 rfl rfl (.tmp rfl .nil)) rfl (fun _ _ h => h) (⟨by rw [ofE_eq e, stepE, if_pos (by omega)]; rfl, rfl⟩)
      ·
        exact absurd (by omega) h11
    ·
      refine AW.reg ?_
      refine SeqK.q (q_eql rfl rfl rfl) rfl rfl rfl ?_
      refine SeqK.q (q_asC rfl rfl) rfl rfl rfl ?_
      refine SeqK.nil ?_
      refine AW.condD rfl (fun h11 => ?_) (fun h11 => ?_)
      ·
        refine AW.seq ?_
        refine AW.reg ?_
        refine SeqK.r (b_load (r := .g [_, _, _, _, _, _, _, _]) rfl Fx.ty36 rfl rfl rfl rfl rfl rfl) rfl ?_
        refine SeqK.q (q_call _ rfl Fx.fn62 rfl (leaf_of e hr ih) rfl) rfl rfl rfl ?_
        refine SeqK.q (q_extract _ rfl rfl rfl) rfl rfl rfl ?_
        refine SeqK.q (q_extract _ rfl rfl rfl) rfl rfl rfl ?_
        refine SeqK.r (b_store (r := [_, _]) rfl rfl Fx.ty24 rfl rfl rfl rfl rfl rfl) rfl ?_
        refine SeqK.q (q_asC rfl rfl) rfl rfl rfl ?_
        refine SeqK.nil ?_
        refine AW.ret ?_
        exact fin_x (x := .tup [_, _]) (H) (.cellL rfl rfl Fx.ty24 rfl rfl (.tmp rfl .nil)) rfl (fun _ _ h => h) (⟨by rw [ofE_eq e, stepE, if_pos (by omega)]; rfl, rfl⟩)
      ·
        refine AW.seq ?_
        refine AW.reg ?_
        refine SeqK.q (q_eql rfl rfl rfl) rfl rfl rfl ?_
        refine SeqK.q (q_asC rfl rfl) rfl rfl rfl ?_
        refine SeqK.nil ?_
        refine AW.condD rfl (fun h19 => ?_) (fun h19 => ?_)
        ·
          refine AW.seq ?_
          refine AW.seq ?_
          refine AW.reg ?_
          refine SeqK.q (q_fieldL _ rfl Fx.fl36_5 rfl rfl) rfl rfl rfl ?_
          refine SeqK.r (b_load (r := .a _) rfl Fx.ty34 rfl rfl rfl rfl rfl rfl) rfl ?_
          refine SeqK.q (q_len rfl Fx.un34 rfl) rfl rfl rfl ?_
          refine SeqK.q (q_neq rfl rfl rfl) rfl rfl rfl ?_
          refine SeqK.nil ?_
          refine AW.condD rfl (fun h24 => ?_) (fun h24 => ?_)
          ·
            refine AW.seq ?_
            refine AW.reg ?_
            refine SeqK.r (b_load (r := .g [_, _, _, _, _, _, _, _]) rfl Fx.ty36 rfl rfl rfl rfl rfl rfl) rfl ?_
            refine SeqK.q (q_call _ rfl Fx.fn63 rfl (ops_of e hr.len ih) rfl) rfl rfl rfl ?_
            refine SeqK.q (q_extract _ rfl rfl rfl) rfl rfl rfl ?_
            refine SeqK.q (q_extract _ rfl rfl rfl) rfl rfl rfl ?_
            refine SeqK.r (b_store (r := [_, _]) rfl rfl Fx.ty24 rfl rfl rfl rfl rfl rfl) rfl ?_
            refine SeqK.q (q_asC rfl rfl) rfl rfl rfl ?_
            refine SeqK.nil ?_
            refine AW.ret ?_
            exact fin_x (x := .tup [_, _]) (H) (.cellL rfl rfl Fx.ty24 rfl rfl (.tmp rfl .nil)) rfl (fun _ _ h => h) (⟨by rw [ofE_eq e, stepE, if_neg (by omega), if_pos h19, unR_ne (by rw [List.length_map]; rw [List.length_map] at h24; omega)]; rfl, rfl⟩)
          ·
            have hl1 : e.args.length = 1 := by rw [List.length_map] at h24; omega
            have h01 : 0 < e.args.length := by omega
            refine AW.skip ?_
            refine AW.seq ?_
            refine AW.reg ?_
            refine SeqK.q (q_fieldL _ rfl Fx.fl36_5 rfl rfl) rfl rfl rfl ?_
            refine SeqK.r (b_load (r := .a _) rfl Fx.ty34 rfl rfl rfl rfl rfl rfl) rfl ?_
            refine SeqK.q (q_index _ rfl Fx.sl34 rfl rfl (by omega) (idx_ex h01)) rfl rfl rfl ?_
            refine SeqK.q (q_load (.g [_, _, _, _, _, _, _, _]) rfl Fx.ty36 rfl rfl rfl) rfl rfl rfl ?_
            refine SeqK.q (q_call _ rfl Fx.fn23 rfl (ih _ (List.getElem_mem h01)) rfl) rfl rfl rfl ?_
            refine SeqK.q (q_mvT rfl rfl) rfl rfl rfl ?_
            refine SeqK.q (q_extract _ rfl rfl rfl) rfl rfl rfl ?_
            refine SeqK.q (q_extract _ rfl rfl rfl) rfl rfl rfl ?_
            refine SeqK.r (b_alloc (r := [_, _]) rfl rfl Fx.ze24 rfl rfl rfl rfl) rfl ?_
            refine SeqK.r (b_store (r := [_, _]) rfl rfl Fx.ty24 rfl rfl rfl rfl rfl rfl) rfl ?_
            refine SeqK.q (q_asC rfl rfl) rfl rfl rfl ?_
            refine SeqK.nil ?_
            refine AW.seq ?_
            refine AW.seq ?_
            refine AW.reg ?_
            refine SeqK.q (q_mvC rfl rfl) rfl rfl rfl ?_
            refine SeqK.q (q_neq rfl rfl rfl) rfl rfl rfl ?_
            refine SeqK.nil ?_
            refine AW.condD rfl (fun h38 => ?_) (fun h38 => ?_)
            ·
              refine AW.seq ?_
              refine AW.reg ?_
              refine SeqK.q (q_build2 (zs := [_, _]) (r := [_, _]) [(0, 1), (1, 1)] _ rfl Fx.ze24 rfl Fx.bp24 rfl rfl rfl rfl) rfl rfl rfl ?_
              refine SeqK.xw 39 rfl XW.tm0 ?_
              refine SeqK.q (q_mvC rfl rfl) rfl rfl rfl ?_
              refine SeqK.r (b_store (r := [_, _]) rfl rfl Fx.ty24 rfl rfl rfl rfl rfl rfl) rfl ?_
              refine SeqK.q (q_asC rfl rfl) rfl rfl rfl ?_
              refine SeqK.nil ?_
              refine AW.ret ?_
              exact fin_x (x := .tup [_, _]) (H) (.cellL rfl rfl Fx.ty24 rfl rfl (.tmp rfl .nil)) rfl (fun _ _ h => h) (⟨by rw [ofE_eq e, stepE, if_neg (by omega), if_pos h19, unR_one (by simpa using h01) (by simpa using hl1)]; simp only [List.getElem_map]; rw [if_pos h38]; rfl, rfl⟩)
            ·
              have hg0 := hgd _ (List.getElem_mem h01) (Classical.not_not.1 h38)
              refine AW.skip ?_
              refine AW.seq ?_
              refine AW.reg ?_
              refine SeqK.r (b_load (r := .g [_, _]) rfl Fx.ty24 rfl rfl rfl rfl rfl rfl) rfl ?_
              refine SeqK.q (q_call _ rfl Fx.fn30 rfl (scale_any _ (-1) (vldT_bok hg0.1) (vldT_one hg0.1) (by decide) (by omega)) rfl) rfl rfl rfl ?_
              refine SeqK.q (q_extract _ rfl rfl rfl) rfl rfl rfl ?_
              refine SeqK.q (q_extract _ rfl rfl rfl) rfl rfl rfl ?_
              refine SeqK.r (b_store (r := [_, _]) rfl rfl Fx.ty24 rfl rfl rfl rfl rfl rfl) rfl ?_
              refine SeqK.q (q_asC rfl rfl) rfl rfl rfl ?_
              refine SeqK.nil ?_
              refine AW.ret ?_
              exact fin_x (x := .tup [_, _]) (H) (.cellL rfl rfl Fx.ty24 rfl rfl (.tmp rfl .nil)) rfl (fun _ _ h => h) (⟨by rw [ofE_eq e, stepE, if_neg (by omega), if_pos h19, unR_one (by simpa using h01) (by simpa using hl1)]; simp only [List.getElem_map]; rw [if_neg h38]; rfl, rfl⟩)
        ·
          refine AW.seq ?_
          refine AW.seq ?_
          refine AW.reg ?_
          refine SeqK.q (q_eql rfl rfl rfl) rfl rfl rfl ?_
          refine SeqK.q (q_asC rfl rfl) rfl rfl rfl ?_
          refine SeqK.nil ?_
          refine AW.condD rfl (fun h45 => ?_) (fun h45 => ?_)
          ·
            refine AW.skip ?_
            refine AW.condD rfl (fun h45 => ?_) (fun h45 => ?_)
            ·
              refine AW.seq ?_
              refine AW.seq ?_
              refine AW.reg ?_
              refine SeqK.q (q_fieldL _ rfl Fx.fl36_5 rfl rfl) rfl rfl rfl ?_
              refine SeqK.r (b_load (r := .a _) rfl Fx.ty34 rfl rfl rfl rfl rfl rfl) rfl ?_
              refine SeqK.q (q_len rfl Fx.un34 rfl) rfl rfl rfl ?_
              refine SeqK.q (q_neq rfl rfl rfl) rfl rfl rfl ?_
              refine SeqK.nil ?_
              refine AW.condD rfl (fun h54 => ?_) (fun h54 => ?_)
              ·
                refine AW.seq ?_
                refine AW.reg ?_
                refine SeqK.r (b_load (r := .g [_, _, _, _, _, _, _, _]) rfl Fx.ty36 rfl rfl rfl rfl rfl rfl) rfl ?_
                refine SeqK.q (q_call _ rfl Fx.fn63 rfl (ops_of e hr.len ih) rfl) rfl rfl rfl ?_
                refine SeqK.q (q_extract _ rfl rfl rfl) rfl rfl rfl ?_
                refine SeqK.q (q_extract _ rfl rfl rfl) rfl rfl rfl ?_
                refine SeqK.r (b_store (r := [_, _]) rfl rfl Fx.ty24 rfl rfl rfl rfl rfl rfl) rfl ?_
                refine SeqK.q (q_asC rfl rfl) rfl rfl rfl ?_
                refine SeqK.nil ?_
                refine AW.ret ?_
                exact fin_x (x := .tup [_, _]) (H) (.cellL rfl rfl Fx.ty24 rfl rfl (.tmp rfl .nil)) rfl (fun _ _ h => h) (⟨by rw [ofE_eq e, stepE, if_neg (by omega), if_neg h19, if_pos (by omega), binR_ne (by rw [List.length_map]; rw [List.length_map] at h54; omega)]; rfl, rfl⟩)
              ·
                have hl2 : e.args.length = 2 := by rw [List.length_map] at h54; omega
                have h01 : 0 < e.args.length := by omega
                have h12 : 1 < e.args.length := by omega
                refine AW.skip ?_
                refine AW.seq ?_
                refine AW.reg ?_
                refine SeqK.q (q_fieldL _ rfl Fx.fl36_5 rfl rfl) rfl rfl rfl ?_
                refine SeqK.r (b_load (r := .a _) rfl Fx.ty34 rfl rfl rfl rfl rfl rfl) rfl ?_
                refine SeqK.q (q_index _ rfl Fx.sl34 rfl rfl (by omega) (idx_ex h01)) rfl rfl rfl ?_
                refine SeqK.q (q_load (.g [_, _, _, _, _, _, _, _]) rfl Fx.ty36 rfl rfl rfl) rfl rfl rfl ?_
                refine SeqK.q (q_call _ rfl Fx.fn23 rfl (ih _ (List.getElem_mem h01)) rfl) rfl rfl rfl ?_
                refine SeqK.q (q_mvT rfl rfl) rfl rfl rfl ?_
                refine SeqK.q (q_extract _ rfl rfl rfl) rfl rfl rfl ?_
                refine SeqK.q (q_extract _ rfl rfl rfl) rfl rfl rfl ?_
                refine SeqK.r (b_alloc (r := [_, _]) rfl rfl Fx.ze24 rfl rfl rfl rfl) rfl ?_
                refine SeqK.r (b_store (r := [_, _]) rfl rfl Fx.ty24 rfl rfl rfl rfl rfl rfl) rfl ?_
                refine SeqK.q (q_asC rfl rfl) rfl rfl rfl ?_
                refine SeqK.nil ?_
                refine AW.seq ?_
                refine AW.seq ?_
                refine AW.reg ?_
                refine SeqK.q (q_mvC rfl rfl) rfl rfl rfl ?_
                refine SeqK.q (q_neq rfl rfl rfl) rfl rfl rfl ?_
                refine SeqK.nil ?_
                refine AW.condD rfl (fun h68 => ?_) (fun h68 => ?_)
                ·
                  refine AW.seq ?_
                  refine AW.reg ?_
                  refine SeqK.q (q_build2 (zs := [_, _]) (r := [_, _]) [(0, 1), (1, 1)] _ rfl Fx.ze24 rfl Fx.bp24 rfl rfl rfl rfl) rfl rfl rfl ?_
                  refine SeqK.xw 69 rfl XW.tm0 ?_
                  refine SeqK.q (q_mvC rfl rfl) rfl rfl rfl ?_
                  refine SeqK.r (b_store (r := [_, _]) rfl rfl Fx.ty24 rfl rfl rfl rfl rfl rfl) rfl ?_
                  refine SeqK.q (q_asC rfl rfl) rfl rfl rfl ?_
                  refine SeqK.nil ?_
                  refine AW.ret ?_
                  exact fin_x (x := .tup [_, _]) (H) (.cellL rfl rfl Fx.ty24 rfl rfl (.tmp rfl .nil)) rfl (fun _ _ h => h) (⟨by rw [ofE_eq e, stepE, if_neg (by omega), if_neg h19, if_pos (by omega), binR_two (by simpa using h01) (by simpa using h12) (by simpa using hl2)]; simp only [List.getElem_map]; rw [if_pos h68]; rfl, rfl⟩)
                ·
                  have hg0 := hgd _ (List.getElem_mem h01) (Classical.not_not.1 h68)
                  refine AW.skip ?_
                  refine AW.seq ?_
                  refine AW.reg ?_
                  refine SeqK.q (q_fieldL _ rfl Fx.fl36_5 rfl rfl) rfl rfl rfl ?_
                  refine SeqK.r (b_load (r := .a _) rfl Fx.ty34 rfl rfl rfl rfl rfl rfl) rfl ?_
                  refine SeqK.q (q_index _ rfl Fx.sl34 rfl rfl (by omega) (idx_ex h12)) rfl rfl rfl ?_
                  refine SeqK.q (q_load (.g [_, _, _, _, _, _, _, _]) rfl Fx.ty36 rfl rfl rfl) rfl rfl rfl ?_
                  refine SeqK.q (q_call _ rfl Fx.fn23 rfl (ih _ (List.getElem_mem h12)) rfl) rfl rfl rfl ?_
                  refine SeqK.q (q_mvT rfl rfl) rfl rfl rfl ?_
                  refine SeqK.q (q_extract _ rfl rfl rfl) rfl rfl rfl ?_
                  refine SeqK.q (q_extract _ rfl rfl rfl) rfl rfl rfl ?_
                  refine SeqK.r (b_alloc (r := [_, _]) rfl rfl Fx.ze24 rfl rfl rfl rfl) rfl ?_
                  refine SeqK.r (b_store (r := [_, _]) rfl rfl Fx.ty24 rfl rfl rfl rfl rfl rfl) rfl ?_
                  refine SeqK.q (q_asC rfl rfl) rfl rfl rfl ?_
                  refine SeqK.nil ?_
                  refine AW.seq ?_
                  refine AW.seq ?_
                  refine AW.reg ?_
                  refine SeqK.q (q_mvC rfl rfl) rfl rfl rfl ?_
                  refine SeqK.q (q_neq rfl rfl rfl) rfl rfl rfl ?_
                  refine SeqK.nil ?_
                  refine AW.condD rfl (fun h80 => ?_) (fun h80 => ?_)
                  ·
                    refine AW.seq ?_
                    refine AW.reg ?_
                    refine SeqK.q (q_build2 (zs := [_, _]) (r := [_, _]) [(0, 1), (1, 1)] _ rfl Fx.ze24 rfl Fx.bp24 rfl rfl rfl rfl) rfl rfl rfl ?_
                    refine SeqK.xw 81 rfl XW.tm0 ?_
                    refine SeqK.q (q_mvC rfl rfl) rfl rfl rfl ?_
                    refine SeqK.r (b_store (r := [_, _]) rfl rfl Fx.ty24 rfl rfl rfl rfl rfl rfl) rfl ?_
                    refine SeqK.q (q_asC rfl rfl) rfl rfl rfl ?_
                    refine SeqK.nil ?_
                    refine AW.ret ?_
                    exact fin_x (x := .tup [_, _]) (H) (.cellL rfl rfl Fx.ty24 rfl rfl (.tmp rfl .nil)) rfl (fun _ _ h => h) (⟨by rw [ofE_eq e, stepE, if_neg (by omega), if_neg h19, if_pos (by omega), binR_two (by simpa using h01) (by simpa using h12) (by simpa using hl2)]; simp only [List.getElem_map]; rw [if_neg h68, if_pos h80]; rfl, rfl⟩)
                  ·
                    have hg1 := hgd _ (List.getElem_mem h12) (Classical.not_not.1 h80)
                    refine AW.skip ?_
                    refine AW.seq ?_
                    refine AW.reg ?_
                    refine SeqK.q (q_fieldL _ rfl Fx.fl36_0 rfl rfl) rfl rfl rfl ?_
                    refine SeqK.r (b_load (r := .a _) rfl Fx.ty3 rfl rfl rfl rfl rfl rfl) rfl ?_
                    refine SeqK.r (b_load (r := .g [_, _]) rfl Fx.ty24 rfl rfl rfl rfl rfl rfl) rfl ?_
                    refine SeqK.r (b_load (r := .g [_, _]) rfl Fx.ty24 rfl rfl rfl rfl rfl rfl) rfl ?_
                    refine SeqK.q (q_call _ rfl Fx.fn64 rfl (comb_any e.op _ _ hg0.1 hg1.1 (by omega)) rfl) rfl rfl rfl ?_
                    refine SeqK.q (q_extract _ rfl rfl rfl) rfl rfl rfl ?_
                    refine SeqK.q (q_extract _ rfl rfl rfl) rfl rfl rfl ?_
                    refine SeqK.r (b_store (r := [_, _]) rfl rfl Fx.ty24 rfl rfl rfl rfl rfl rfl) rfl ?_
                    refine SeqK.q (q_asC rfl rfl) rfl rfl rfl ?_
                    refine SeqK.nil ?_
                    refine AW.ret ?_
                    exact fin_x (x := .tup [_, _]) (H) (.cellL rfl rfl Fx.ty24 rfl rfl (.tmp rfl .nil)) rfl (fun _ _ h => h) (⟨by rw [ofE_eq e, stepE, if_neg (by omega), if_neg h19, if_pos (by omega), binR_two (by simpa using h01) (by simpa using h12) (by simpa using hl2)]; simp only [List.getElem_map]; rw [if_neg h68, if_neg h80]; rfl, rfl⟩)
            ·
              exact absurd (by omega) h45
          ·
            refine AW.seq ?_
            refine AW.reg ?_
            refine SeqK.q (q_eql rfl rfl rfl) rfl rfl rfl ?_
            refine SeqK.q (q_asC rfl rfl) rfl rfl rfl ?_
            refine SeqK.nil ?_
            refine AW.condD rfl (fun h45 => ?_) (fun h45 => ?_)
            ·
              refine AW.skip ?_
              refine AW.condD rfl (fun h45 => ?_) (fun h45 => ?_)
              ·
                refine AW.seq ?_
                refine AW.seq ?_
                refine AW.reg ?_
                refine SeqK.q (q_fieldL _ rfl Fx.fl36_5 rfl rfl) rfl rfl rfl ?_
                refine SeqK.r (b_load (r := .a _) rfl Fx.ty34 rfl rfl rfl rfl rfl rfl) rfl ?_
                refine SeqK.q (q_len rfl Fx.un34 rfl) rfl rfl rfl ?_
                refine SeqK.q (q_neq rfl rfl rfl) rfl rfl rfl ?_
                refine SeqK.nil ?_
                refine AW.condD rfl (fun h54 => ?_) (fun h54 => ?_)
                ·
                  refine AW.seq ?_
                  refine AW.reg ?_
                  refine SeqK.r (b_load (r := .g [_, _, _, _, _, _, _, _]) rfl Fx.ty36 rfl rfl rfl rfl rfl rfl) rfl ?_
                  refine SeqK.q (q_call _ rfl Fx.fn63 rfl (ops_of e hr.len ih) rfl) rfl rfl rfl ?_
                  refine SeqK.q (q_extract _ rfl rfl rfl) rfl rfl rfl ?_
                  refine SeqK.q (q_extract _ rfl rfl rfl) rfl rfl rfl ?_
                  refine SeqK.r (b_store (r := [_, _]) rfl rfl Fx.ty24 rfl rfl rfl rfl rfl rfl) rfl ?_
                  refine SeqK.q (q_asC rfl rfl) rfl rfl rfl ?_
                  refine SeqK.nil ?_
                  refine AW.ret ?_
                  exact fin_x (x := .tup [_, _]) (H) (.cellL rfl rfl Fx.ty24 rfl rfl (.tmp rfl .nil)) rfl (fun _ _ h => h) (⟨by rw [ofE_eq e, stepE, if_neg (by omega), if_neg h19, if_pos (by omega), binR_ne (by rw [List.length_map]; rw [List.length_map] at h54; omega)]; rfl, rfl⟩)
                ·
                  have hl2 : e.args.length = 2 := by rw [List.length_map] at h54; omega
                  have h01 : 0 < e.args.length := by omega
                  have h12 : 1 < e.args.length := by omega
                  refine AW.skip ?_
                  refine AW.seq ?_
                  refine AW.reg ?_
                  refine SeqK.q (q_fieldL _ rfl Fx.fl36_5 rfl rfl) rfl rfl rfl ?_
                  refine SeqK.r (b_load (r := .a _) rfl Fx.ty34 rfl rfl rfl rfl rfl rfl) rfl ?_
                  refine SeqK.q (q_index _ rfl Fx.sl34 rfl rfl (by omega) (idx_ex h01)) rfl rfl rfl ?_
                  refine SeqK.q (q_load (.g [_, _, _, _, _, _, _, _]) rfl Fx.ty36 rfl rfl rfl) rfl rfl rfl ?_
                  refine SeqK.q (q_call _ rfl Fx.fn23 rfl (ih _ (List.getElem_mem h01)) rfl) rfl rfl rfl ?_
                  refine SeqK.q (q_mvT rfl rfl) rfl rfl rfl ?_
                  refine SeqK.q (q_extract _ rfl rfl rfl) rfl rfl rfl ?_
                  refine SeqK.q (q_extract _ rfl rfl rfl) rfl rfl rfl ?_
                  refine SeqK.r (b_alloc (r := [_, _]) rfl rfl Fx.ze24 rfl rfl rfl rfl) rfl ?_
                  refine SeqK.r (b_store (r := [_, _]) rfl rfl Fx.ty24 rfl rfl rfl rfl rfl rfl) rfl ?_
                  refine SeqK.q (q_asC rfl rfl) rfl rfl rfl ?_
                  refine SeqK.nil ?_
                  refine AW.seq ?_
                  refine AW.seq ?_
                  refine AW.reg ?_
                  refine SeqK.q (q_mvC rfl rfl) rfl rfl rfl ?_
                  refine SeqK.q (q_neq rfl rfl rfl) rfl rfl rfl ?_
                  refine SeqK.nil ?_
                  refine AW.condD rfl (fun h68 => ?_) (fun h68 => ?_)
                  ·
                    refine AW.seq ?_
                    refine AW.reg ?_
                    refine SeqK.q (q_build2 (zs := [_, _]) (r := [_, _]) [(0, 1), (1, 1)] _ rfl Fx.ze24 rfl Fx.bp24 rfl rfl rfl rfl) rfl rfl rfl ?_
                    refine SeqK.xw 69 rfl XW.tm0 ?_
                    refine SeqK.q (q_mvC rfl rfl) rfl rfl rfl ?_
                    refine SeqK.r (b_store (r := [_, _]) rfl rfl Fx.ty24 rfl rfl rfl rfl rfl rfl) rfl ?_
                    refine SeqK.q (q_asC rfl rfl) rfl rfl rfl ?_
                    refine SeqK.nil ?_
                    refine AW.ret ?_
                    exact fin_x (x := .tup [_, _]) (H) (.cellL rfl rfl Fx.ty24 rfl rfl (.tmp rfl .nil)) rfl (fun _ _ h => h) (⟨by rw [ofE_eq e, stepE, if_neg (by omega), if_neg h19, if_pos (by omega), binR_two (by simpa using h01) (by simpa using h12) (by simpa using hl2)]; simp only [List.getElem_map]; rw [if_pos h68]; rfl, rfl⟩)
                  ·
                    have hg0 := hgd _ (List.getElem_mem h01) (Classical.not_not.1 h68)
                    refine AW.skip ?_
                    refine AW.seq ?_
                    refine AW.reg ?_
                    refine SeqK.q (q_fieldL _ rfl Fx.fl36_5 rfl rfl) rfl rfl rfl ?_
                    refine SeqK.r (b_load (r := .a _) rfl Fx.ty34 rfl rfl rfl rfl rfl rfl) rfl ?_
                    refine SeqK.q (q_index _ rfl Fx.sl34 rfl rfl (by omega) (idx_ex h12)) rfl rfl rfl ?_
                    refine SeqK.q (q_load (.g [_, _, _, _, _, _, _, _]) rfl Fx.ty36 rfl rfl rfl) rfl rfl rfl ?_
                    refine SeqK.q (q_call _ rfl Fx.fn23 rfl (ih _ (List.getElem_mem h12)) rfl) rfl rfl rfl ?_
                    refine SeqK.q (q_mvT rfl rfl) rfl rfl rfl ?_
                    refine SeqK.q (q_extract _ rfl rfl rfl) rfl rfl rfl ?_
                    refine SeqK.q (q_extract _ rfl rfl rfl) rfl rfl rfl ?_
                    refine SeqK.r (b_alloc (r := [_, _]) rfl rfl Fx.ze24 rfl rfl rfl rfl) rfl ?_
                    refine SeqK.r (b_store (r := [_, _]) rfl rfl Fx.ty24 rfl rfl rfl rfl rfl rfl) rfl ?_
                    refine SeqK.q (q_asC rfl rfl) rfl rfl rfl ?_
                    refine SeqK.nil ?_
                    refine AW.seq ?_
                    refine AW.seq ?_
                    refine AW.reg ?_
                    refine SeqK.q (q_mvC rfl rfl) rfl rfl rfl ?_
                    refine SeqK.q (q_neq rfl rfl rfl) rfl rfl rfl ?_
                    refine SeqK.nil ?_
                    refine AW.condD rfl (fun h80 => ?_) (fun h80 => ?_)
                    ·
                      refine AW.seq ?_
                      refine AW.reg ?_
                      refine SeqK.q (q_build2 (zs := [_, _]) (r := [_, _]) [(0, 1), (1, 1)] _ rfl Fx.ze24 rfl Fx.bp24 rfl rfl rfl rfl) rfl rfl rfl ?_
                      refine SeqK.xw 81 rfl XW.tm0 ?_
                      refine SeqK.q (q_mvC rfl rfl) rfl rfl rfl ?_
                      refine SeqK.r (b_store (r := [_, _]) rfl rfl Fx.ty24 rfl rfl rfl rfl rfl rfl) rfl ?_
                      refine SeqK.q (q_asC rfl rfl) rfl rfl rfl ?_
                      refine SeqK.nil ?_
                      refine AW.ret ?_
                      exact fin_x (x := .tup [_, _]) (H) (.cellL rfl rfl Fx.ty24 rfl rfl (.tmp rfl .nil)) rfl (fun _ _ h => h) (⟨by rw [ofE_eq e, stepE, if_neg (by omega), if_neg h19, if_pos (by omega), binR_two (by simpa using h01) (by simpa using h12) (by simpa using hl2)]; simp only [List.getElem_map]; rw [if_neg h68, if_pos h80]; rfl, rfl⟩)
                    ·
                      have hg1 := hgd _ (List.getElem_mem h12) (Classical.not_not.1 h80)
                      refine AW.skip ?_
                      refine AW.seq ?_
                      refine AW.reg ?_
                      refine SeqK.q (q_fieldL _ rfl Fx.fl36_0 rfl rfl) rfl rfl rfl ?_
                      refine SeqK.r (b_load (r := .a _) rfl Fx.ty3 rfl rfl rfl rfl rfl rfl) rfl ?_
                      refine SeqK.r (b_load (r := .g [_, _]) rfl Fx.ty24 rfl rfl rfl rfl rfl rfl) rfl ?_
                      refine SeqK.r (b_load (r := .g [_, _]) rfl Fx.ty24 rfl rfl rfl rfl rfl rfl) rfl ?_
                      refine SeqK.q (q_call _ rfl Fx.fn64 rfl (comb_any e.op _ _ hg0.1 hg1.1 (by omega)) rfl) rfl rfl rfl ?_
                      refine SeqK.q (q_extract _ rfl rfl rfl) rfl rfl rfl ?_
                      refine SeqK.q (q_extract _ rfl rfl rfl) rfl rfl rfl ?_
                      refine SeqK.r (b_store (r := [_, _]) rfl rfl Fx.ty24 rfl rfl rfl rfl rfl rfl) rfl ?_
                      refine SeqK.q (q_asC rfl rfl) rfl rfl rfl ?_
                      refine SeqK.nil ?_
                      refine AW.ret ?_
                      exact fin_x (x := .tup [_, _]) (H) (.cellL rfl rfl Fx.ty24 rfl rfl (.tmp rfl .nil)) rfl (fun _ _ h => h) (⟨by rw [ofE_eq e, stepE, if_neg (by omega), if_neg h19, if_pos (by omega), binR_two (by simpa using h01) (by simpa using h12) (by simpa using hl2)]; simp only [List.getElem_map]; rw [if_neg h68, if_neg h80]; rfl, rfl⟩)
              ·
                exact absurd (by omega) h45
            ·
              refine AW.seq ?_
              refine AW.reg ?_
              refine SeqK.q (q_eql rfl rfl rfl) rfl rfl rfl ?_
              refine SeqK.q (q_asC rfl rfl) rfl rfl rfl ?_
              refine SeqK.nil ?_
              refine AW.condD rfl (fun h45 => ?_) (fun h45 => ?_)
              ·
                refine AW.skip ?_
                refine AW.condD rfl (fun h45 => ?_) (fun h45 => ?_)
                ·
                  refine AW.seq ?_
                  refine AW.seq ?_
                  refine AW.reg ?_
                  refine SeqK.q (q_fieldL _ rfl Fx.fl36_5 rfl rfl) rfl rfl rfl ?_
                  refine SeqK.r (b_load (r := .a _) rfl Fx.ty34 rfl rfl rfl rfl rfl rfl) rfl ?_
                  refine SeqK.q (q_len rfl Fx.un34 rfl) rfl rfl rfl ?_
                  refine SeqK.q (q_neq rfl rfl rfl) rfl rfl rfl ?_
                  refine SeqK.nil ?_
                  refine AW.condD rfl (fun h54 => ?_) (fun h54 => ?_)
                  ·
                    refine AW.seq ?_
                    refine AW.reg ?_
                    refine SeqK.r (b_load (r := .g [_, _, _, _, _, _, _, _]) rfl Fx.ty36 rfl rfl rfl rfl rfl rfl) rfl ?_
                    refine SeqK.q (q_call _ rfl Fx.fn63 rfl (ops_of e hr.len ih) rfl) rfl rfl rfl ?_
                    refine SeqK.q (q_extract _ rfl rfl rfl) rfl rfl rfl ?_
                    refine SeqK.q (q_extract _ rfl rfl rfl) rfl rfl rfl ?_
                    refine SeqK.r (b_store (r := [_, _]) rfl rfl Fx.ty24 rfl rfl rfl rfl rfl rfl) rfl ?_
                    refine SeqK.q (q_asC rfl rfl) rfl rfl rfl ?_
                    refine SeqK.nil ?_
                    refine AW.ret ?_
                    exact fin_x (x := .tup [_, _]) (H) (.cellL rfl rfl Fx.ty24 rfl rfl (.tmp rfl .nil)) rfl (fun _ _ h => h) (⟨by rw [ofE_eq e, stepE, if_neg (by omega), if_neg h19, if_pos (by omega), binR_ne (by rw [List.length_map]; rw [List.length_map] at h54; omega)]; rfl, rfl⟩)
                  ·
                    have hl2 : e.args.length = 2 := by rw [List.length_map] at h54; omega
                    have h01 : 0 < e.args.length := by omega
                    have h12 : 1 < e.args.length := by omega
                    refine AW.skip ?_
                    refine AW.seq ?_
                    refine AW.reg ?_
                    refine SeqK.q (q_fieldL _ rfl Fx.fl36_5 rfl rfl) rfl rfl rfl ?_
                    refine SeqK.r (b_load (r := .a _) rfl Fx.ty34 rfl rfl rfl rfl rfl rfl) rfl ?_
                    refine SeqK.q (q_index _ rfl Fx.sl34 rfl rfl (by omega) (idx_ex h01)) rfl rfl rfl ?_
                    refine SeqK.q (q_load (.g [_, _, _, _, _, _, _, _]) rfl Fx.ty36 rfl rfl rfl) rfl rfl rfl ?_
                    refine SeqK.q (q_call _ rfl Fx.fn23 rfl (ih _ (List.getElem_mem h01)) rfl) rfl rfl rfl ?_
                    refine SeqK.q (q_mvT rfl rfl) rfl rfl rfl ?_
                    refine SeqK.q (q_extract _ rfl rfl rfl) rfl rfl rfl ?_
                    refine SeqK.q (q_extract _ rfl rfl rfl) rfl rfl rfl ?_
                    refine SeqK.r (b_alloc (r := [_, _]) rfl rfl Fx.ze24 rfl rfl rfl rfl) rfl ?_
                    refine SeqK.r (b_store (r := [_, _]) rfl rfl Fx.ty24 rfl rfl rfl rfl rfl rfl) rfl ?_
                    refine SeqK.q (q_asC rfl rfl) rfl rfl rfl ?_
                    refine SeqK.nil ?_
                    refine AW.seq ?_
                    refine AW.seq ?_
                    refine AW.reg ?_
                    refine SeqK.q (q_mvC rfl rfl) rfl rfl rfl ?_
                    refine SeqK.q (q_neq rfl rfl rfl) rfl rfl rfl ?_
                    refine SeqK.nil ?_
                    refine AW.condD rfl (fun h68 => ?_) (fun h68 => ?_)
                    ·
                      refine AW.seq ?_
                      refine AW.reg ?_
                      refine SeqK.q (q_build2 (zs := [_, _]) (r := [_, _]) [(0, 1), (1, 1)] _ rfl Fx.ze24 rfl Fx.bp24 rfl rfl rfl rfl) rfl rfl rfl ?_
                      refine SeqK.xw 69 rfl XW.tm0 ?_
                      refine SeqK.q (q_mvC rfl rfl) rfl rfl rfl ?_
                      refine SeqK.r (b_store (r := [_, _]) rfl rfl Fx.ty24 rfl rfl rfl rfl rfl rfl) rfl ?_
                      refine SeqK.q (q_asC rfl rfl) rfl rfl rfl ?_
                      refine SeqK.nil ?_
                      refine AW.ret ?_
                      exact fin_x (x := .tup [_, _]) (H) (.cellL rfl rfl Fx.ty24 rfl rfl (.tmp rfl .nil)) rfl (fun _ _ h => h) (⟨by rw [ofE_eq e, stepE, if_neg (by omega), if_neg h19, if_pos (by omega), binR_two (by simpa using h01) (by simpa using h12) (by simpa using hl2)]; simp only [List.getElem_map]; rw [if_pos h68]; rfl, rfl⟩)
                    ·
                      have hg0 := hgd _ (List.getElem_mem h01) (Classical.not_not.1 h68)
                      refine AW.skip ?_
                      refine AW.seq ?_
                      refine AW.reg ?_
                      refine SeqK.q (q_fieldL _ rfl Fx.fl36_5 rfl rfl) rfl rfl rfl ?_
                      refine SeqK.r (b_load (r := .a _) rfl Fx.ty34 rfl rfl rfl rfl rfl rfl) rfl ?_
                      refine SeqK.q (q_index _ rfl Fx.sl34 rfl rfl (by omega) (idx_ex h12)) rfl rfl rfl ?_
                      refine SeqK.q (q_load (.g [_, _, _, _, _, _, _, _]) rfl Fx.ty36 rfl rfl rfl) rfl rfl rfl ?_
                      refine SeqK.q (q_call _ rfl Fx.fn23 rfl (ih _ (List.getElem_mem h12)) rfl) rfl rfl rfl ?_
                      refine SeqK.q (q_mvT rfl rfl) rfl rfl rfl ?_
                      refine SeqK.q (q_extract _ rfl rfl rfl) rfl rfl rfl ?_
                      refine SeqK.q (q_extract _ rfl rfl rfl) rfl rfl rfl ?_
                      refine SeqK.r (b_alloc (r := [_, _]) rfl rfl Fx.ze24 rfl rfl rfl rfl) rfl ?_
                      refine SeqK.r (b_store (r := [_, _]) rfl rfl Fx.ty24 rfl rfl rfl rfl rfl rfl) rfl ?_
                      refine SeqK.q (q_asC rfl rfl) rfl rfl rfl ?_
                      refine SeqK.nil ?_
                      refine AW.seq ?_
                      refine AW.seq ?_
                      refine AW.reg ?_
                      refine SeqK.q (q_mvC rfl rfl) rfl rfl rfl ?_
                      refine SeqK.q (q_neq rfl rfl rfl) rfl rfl rfl ?_
                      refine SeqK.nil ?_
                      refine AW.condD rfl (fun h80 => ?_) (fun h80 => ?_)
                      ·
                        refine AW.seq ?_
                        refine AW.reg ?_
                        refine SeqK.q (q_build2 (zs := [_, _]) (r := [_, _]) [(0, 1), (1, 1)] _ rfl Fx.ze24 rfl Fx.bp24 rfl rfl rfl rfl) rfl rfl rfl ?_
                        refine SeqK.xw 81 rfl XW.tm0 ?_
                        refine SeqK.q (q_mvC rfl rfl) rfl rfl rfl ?_
                        refine SeqK.r (b_store (r := [_, _]) rfl rfl Fx.ty24 rfl rfl rfl rfl rfl rfl) rfl ?_
                        refine SeqK.q (q_asC rfl rfl) rfl rfl rfl ?_
                        refine SeqK.nil ?_
                        refine AW.ret ?_
                        exact fin_x (x := .tup [_, _]) (H) (.cellL rfl rfl Fx.ty24 rfl rfl (.tmp rfl .nil)) rfl (fun _ _ h => h) (⟨by rw [ofE_eq e, stepE, if_neg (by omega), if_neg h19, if_pos (by omega), binR_two (by simpa using h01) (by simpa using h12) (by simpa using hl2)]; simp only [List.getElem_map]; rw [if_neg h68, if_pos h80]; rfl, rfl⟩)
                      ·
                        have hg1 := hgd _ (List.getElem_mem h12) (Classical.not_not.1 h80)
                        refine AW.skip ?_
                        refine AW.seq ?_
                        refine AW.reg ?_
                        refine SeqK.q (q_fieldL _ rfl Fx.fl36_0 rfl rfl) rfl rfl rfl ?_
                        refine SeqK.r (b_load (r := .a _) rfl Fx.ty3 rfl rfl rfl rfl rfl rfl) rfl ?_
                        refine SeqK.r (b_load (r := .g [_, _]) rfl Fx.ty24 rfl rfl rfl rfl rfl rfl) rfl ?_
                        refine SeqK.r (b_load (r := .g [_, _]) rfl Fx.ty24 rfl rfl rfl rfl rfl rfl) rfl ?_
                        refine SeqK.q (q_call _ rfl Fx.fn64 rfl (comb_any e.op _ _ hg0.1 hg1.1 (by omega)) rfl) rfl rfl rfl ?_
                        refine SeqK.q (q_extract _ rfl rfl rfl) rfl rfl rfl ?_
                        refine SeqK.q (q_extract _ rfl rfl rfl) rfl rfl rfl ?_
                        refine SeqK.r (b_store (r := [_, _]) rfl rfl Fx.ty24 rfl rfl rfl rfl rfl rfl) rfl ?_
                        refine SeqK.q (q_asC rfl rfl) rfl rfl rfl ?_
                        refine SeqK.nil ?_
                        refine AW.ret ?_
                        exact fin_x (x := .tup [_, _]) (H) (.cellL rfl rfl Fx.ty24 rfl rfl (.tmp rfl .nil)) rfl (fun _ _ h => h) (⟨by rw [ofE_eq e, stepE, if_neg (by omega), if_neg h19, if_pos (by omega), binR_two (by simpa using h01) (by simpa using h12) (by simpa using hl2)]; simp only [List.getElem_map]; rw [if_neg h68, if_neg h80]; rfl, rfl⟩)
                ·
                  exact absurd (by omega) h45
              ·
                refine AW.seq ?_
                refine AW.reg ?_
                refine SeqK.q (q_eql rfl rfl rfl) rfl rfl rfl ?_
                refine SeqK.q (q_asC rfl rfl) rfl rfl rfl ?_
                refine SeqK.nil ?_
                refine AW.condD rfl (fun h45 => ?_) (fun h45 => ?_)
                ·
                  refine AW.skip ?_
                  refine AW.condD rfl (fun h45 => ?_) (fun h45 => ?_)
                  ·
                    refine AW.seq ?_
                    refine AW.seq ?_
                    refine AW.reg ?_
                    refine SeqK.q (q_fieldL _ rfl Fx.fl36_5 rfl rfl) rfl rfl rfl ?_
                    refine SeqK.r (b_load (r := .a _) rfl Fx.ty34 rfl rfl rfl rfl rfl rfl) rfl ?_
                    refine SeqK.q (q_len rfl Fx.un34 rfl) rfl rfl rfl ?_
                    refine SeqK.q (q_neq rfl rfl rfl) rfl rfl rfl ?_
                    refine SeqK.nil ?_
                    refine AW.condD rfl (fun h54 => ?_) (fun h54 => ?_)
                    ·
                      refine AW.seq ?_
                      refine AW.reg ?_
                      refine SeqK.r (b_load (r := .g [_, _, _, _, _, _, _, _]) rfl Fx.ty36 rfl rfl rfl rfl rfl rfl) rfl ?_
                      refine SeqK.q (q_call _ rfl Fx.fn63 rfl (ops_of e hr.len ih) rfl) rfl rfl rfl ?_
                      refine SeqK.q (q_extract _ rfl rfl rfl) rfl rfl rfl ?_
                      refine SeqK.q (q_extract _ rfl rfl rfl) rfl rfl rfl ?_
                      refine SeqK.r (b_store (r := [_, _]) rfl rfl Fx.ty24 rfl rfl rfl rfl rfl rfl) rfl ?_
                      refine SeqK.q (q_asC rfl rfl) rfl rfl rfl ?_
                      refine SeqK.nil ?_
                      refine AW.ret ?_
                      exact fin_x (x := .tup [_, _]) (H) (.cellL rfl rfl Fx.ty24 rfl rfl (.tmp rfl .nil)) rfl (fun _ _ h => h) (⟨by rw [ofE_eq e, stepE, if_neg (by omega), if_neg h19, if_pos (by omega), binR_ne (by rw [List.length_map]; rw [List.length_map] at h54; omega)]; rfl, rfl⟩)
                    ·
                      have hl2 : e.args.length = 2 := by rw [List.length_map] at h54; omega
                      have h01 : 0 < e.args.length := by omega
                      have h12 : 1 < e.args.length := by omega
                      refine AW.skip ?_
                      refine AW.seq ?_
                      refine AW.reg ?_
                      refine SeqK.q (q_fieldL _ rfl Fx.fl36_5 rfl rfl) rfl rfl rfl ?_
                      refine SeqK.r (b_load (r := .a _) rfl Fx.ty34 rfl rfl rfl rfl rfl rfl) rfl ?_
                      refine SeqK.q (q_index _ rfl Fx.sl34 rfl rfl (by omega) (idx_ex h01)) rfl rfl rfl ?_
                      refine SeqK.q (q_load (.g [_, _, _, _, _, _, _, _]) rfl Fx.ty36 rfl rfl rfl) rfl rfl rfl ?_
                      refine SeqK.q (q_call _ rfl Fx.fn23 rfl (ih _ (List.getElem_mem h01)) rfl) rfl rfl rfl ?_
                      refine SeqK.q (q_mvT rfl rfl) rfl rfl rfl ?_
                      refine SeqK.q (q_extract _ rfl rfl rfl) rfl rfl rfl ?_
                      refine SeqK.q (q_extract _ rfl rfl rfl) rfl rfl rfl ?_
                      refine SeqK.r (b_alloc (r := [_, _]) rfl rfl Fx.ze24 rfl rfl rfl rfl) rfl ?_
                      refine SeqK.r (b_store (r := [_, _]) rfl rfl Fx.ty24 rfl rfl rfl rfl rfl rfl) rfl ?_
                      refine SeqK.q (q_asC rfl rfl) rfl rfl rfl ?_
                      refine SeqK.nil ?_
                      refine AW.seq ?_
                      refine AW.seq ?_
                      refine AW.reg ?_
                      refine SeqK.q (q_mvC rfl rfl) rfl rfl rfl ?_
                      refine SeqK.q (q_neq rfl rfl rfl) rfl rfl rfl ?_
                      refine SeqK.nil ?_
                      refine AW.condD rfl (fun h68 => ?_) (fun h68 => ?_)
                      ·
                        refine AW.seq ?_
                        refine AW.reg ?_
                        refine SeqK.q (q_build2 (zs := [_, _]) (r := [_, _]) [(0, 1), (1, 1)] _ rfl Fx.ze24 rfl Fx.bp24 rfl rfl rfl rfl) rfl rfl rfl ?_
                        refine SeqK.xw 69 rfl XW.tm0 ?_
                        refine SeqK.q (q_mvC rfl rfl) rfl rfl rfl ?_
                        refine SeqK.r (b_store (r := [_, _]) rfl rfl Fx.ty24 rfl rfl rfl rfl rfl rfl) rfl ?_
                        refine SeqK.q (q_asC rfl rfl) rfl rfl rfl ?_
                        refine SeqK.nil ?_
                        refine AW.ret ?_
                        exact fin_x (x := .tup [_, _]) (H) (.cellL rfl rfl Fx.ty24 rfl rfl (.tmp rfl .nil)) rfl (fun _ _ h => h) (⟨by rw [ofE_eq e, stepE, if_neg (by omega), if_neg h19, if_pos (by omega), binR_two (by simpa using h01) (by simpa using h12) (by simpa using hl2)]; simp only [List.getElem_map]; rw [if_pos h68]; rfl, rfl⟩)
                      ·
                        have hg0 := hgd _ (List.getElem_mem h01) (Classical.not_not.1 h68)
                        refine AW.skip ?_
                        refine AW.seq ?_
                        refine AW.reg ?_
                        refine SeqK.q (q_fieldL _ rfl Fx.fl36_5 rfl rfl) rfl rfl rfl ?_
                        refine SeqK.r (b_load (r := .a _) rfl Fx.ty34 rfl rfl rfl rfl rfl rfl) rfl ?_
                        refine SeqK.q (q_index _ rfl Fx.sl34 rfl rfl (by omega) (idx_ex h12)) rfl rfl rfl ?_
                        refine SeqK.q (q_load (.g [_, _, _, _, _, _, _, _]) rfl Fx.ty36 rfl rfl rfl) rfl rfl rfl ?_
                        refine SeqK.q (q_call _ rfl Fx.fn23 rfl (ih _ (List.getElem_mem h12)) rfl) rfl rfl rfl ?_
                        refine SeqK.q (q_mvT rfl rfl) rfl rfl rfl ?_
                        refine SeqK.q (q_extract _ rfl rfl rfl) rfl rfl rfl ?_
                        refine SeqK.q (q_extract _ rfl rfl rfl) rfl rfl rfl ?_
                        refine SeqK.r (b_alloc (r := [_, _]) rfl rfl Fx.ze24 rfl rfl rfl rfl) rfl ?_
                        refine SeqK.r (b_store (r := [_, _]) rfl rfl Fx.ty24 rfl rfl rfl rfl rfl rfl) rfl ?_
                        refine SeqK.q (q_asC rfl rfl) rfl rfl rfl ?_
                        refine SeqK.nil ?_
                        refine AW.seq ?_
                        refine AW.seq ?_
                        refine AW.reg ?_
                        refine SeqK.q (q_mvC rfl rfl) rfl rfl rfl ?_
                        refine SeqK.q (q_neq rfl rfl rfl) rfl rfl rfl ?_
                        refine SeqK.nil ?_
                        refine AW.condD rfl (fun h80 => ?_) (fun h80 => ?_)
                        ·
                          refine AW.seq ?_
                          refine AW.reg ?_
                          refine SeqK.q (q_build2 (zs := [_, _]) (r := [_, _]) [(0, 1), (1, 1)] _ rfl Fx.ze24 rfl Fx.bp24 rfl rfl rfl rfl) rfl rfl rfl ?_
                          refine SeqK.xw 81 rfl XW.tm0 ?_
                          refine SeqK.q (q_mvC rfl rfl) rfl rfl rfl ?_
                          refine SeqK.r (b_store (r := [_, _]) rfl rfl Fx.ty24 rfl rfl rfl rfl rfl rfl) rfl ?_
                          refine SeqK.q (q_asC rfl rfl) rfl rfl rfl ?_
                          refine SeqK.nil ?_
                          refine AW.ret ?_
                          exact fin_x (x := .tup [_, _]) (H) (.cellL rfl rfl Fx.ty24 rfl rfl (.tmp rfl .nil)) rfl (fun _ _ h => h) (⟨by rw [ofE_eq e, stepE, if_neg (by omega), if_neg h19, if_pos (by omega), binR_two (by simpa using h01) (by simpa using h12) (by simpa using hl2)]; simp only [List.getElem_map]; rw [if_neg h68, if_pos h80]; rfl, rfl⟩)
                        ·
                          have hg1 := hgd _ (List.getElem_mem h12) (Classical.not_not.1 h80)
                          refine AW.skip ?_
                          refine AW.seq ?_
                          refine AW.reg ?_
                          refine SeqK.q (q_fieldL _ rfl Fx.fl36_0 rfl rfl) rfl rfl rfl ?_
                          refine SeqK.r (b_load (r := .a _) rfl Fx.ty3 rfl rfl rfl rfl rfl rfl) rfl ?_
                          refine SeqK.r (b_load (r := .g [_, _]) rfl Fx.ty24 rfl rfl rfl rfl rfl rfl) rfl ?_
                          refine SeqK.r (b_load (r := .g [_, _]) rfl Fx.ty24 rfl rfl rfl rfl rfl rfl) rfl ?_
                          refine SeqK.q (q_call _ rfl Fx.fn64 rfl (comb_any e.op _ _ hg0.1 hg1.1 (by omega)) rfl) rfl rfl rfl ?_
                          refine SeqK.q (q_extract _ rfl rfl rfl) rfl rfl rfl ?_
                          refine SeqK.q (q_extract _ rfl rfl rfl) rfl rfl rfl ?_
                          refine SeqK.r (b_store (r := [_, _]) rfl rfl Fx.ty24 rfl rfl rfl rfl rfl rfl) rfl ?_
                          refine SeqK.q (q_asC rfl rfl) rfl rfl rfl ?_
                          refine SeqK.nil ?_
                          refine AW.ret ?_
                          exact fin_x (x := .tup [_, _]) (H) (.cellL rfl rfl Fx.ty24 rfl rfl (.tmp rfl .nil)) rfl (fun _ _ h => h) (⟨by rw [ofE_eq e, stepE, if_neg (by omega), if_neg h19, if_pos (by omega), binR_two (by simpa using h01) (by simpa using h12) (by simpa using hl2)]; simp only [List.getElem_map]; rw [if_neg h68, if_neg h80]; rfl, rfl⟩)
                  ·
                    exact absurd (by omega) h45
                ·
                  refine AW.reg ?_
                  refine SeqK.q (q_eql rfl rfl rfl) rfl rfl rfl ?_
                  refine SeqK.q (q_asC rfl rfl) rfl rfl rfl ?_
                  refine SeqK.nil ?_
                  refine AW.condD rfl (fun h45 => ?_) (fun h45 => ?_)
                  ·
                    refine AW.seq ?_
                    refine AW.seq ?_
                    refine AW.reg ?_
                    refine SeqK.q (q_fieldL _ rfl Fx.fl36_5 rfl rfl) rfl rfl rfl ?_
                    refine SeqK.r (b_load (r := .a _) rfl Fx.ty34 rfl rfl rfl rfl rfl rfl) rfl ?_
                    refine SeqK.q (q_len rfl Fx.un34 rfl) rfl rfl rfl ?_
                    refine SeqK.q (q_neq rfl rfl rfl) rfl rfl rfl ?_
                    refine SeqK.nil ?_
                    refine AW.condD rfl (fun h54 => ?_) (fun h54 => ?_)
                    ·
                      refine AW.seq ?_
                      refine AW.reg ?_
                      refine SeqK.r (b_load (r := .g [_, _, _, _, _, _, _, _]) rfl Fx.ty36 rfl rfl rfl rfl rfl rfl) rfl ?_
                      refine SeqK.q (q_call _ rfl Fx.fn63 rfl (ops_of e hr.len ih) rfl) rfl rfl rfl ?_
                      refine SeqK.q (q_extract _ rfl rfl rfl) rfl rfl rfl ?_
                      refine SeqK.q (q_extract _ rfl rfl rfl) rfl rfl rfl ?_
                      refine SeqK.r (b_store (r := [_, _]) rfl rfl Fx.ty24 rfl rfl rfl rfl rfl rfl) rfl ?_
                      refine SeqK.q (q_asC rfl rfl) rfl rfl rfl ?_
                      refine SeqK.nil ?_
                      refine AW.ret ?_
                      exact fin_x (x := .tup [_, _]) (H) (.cellL rfl rfl Fx.ty24 rfl rfl (.tmp rfl .nil)) rfl (fun _ _ h => h) (⟨by rw [ofE_eq e, stepE, if_neg (by omega), if_neg h19, if_pos (by omega), binR_ne (by rw [List.length_map]; rw [List.length_map] at h54; omega)]; rfl, rfl⟩)
                    ·
                      have hl2 : e.args.length = 2 := by rw [List.length_map] at h54; omega
                      have h01 : 0 < e.args.length := by omega
                      have h12 : 1 < e.args.length := by omega
                      refine AW.skip ?_
                      refine AW.seq ?_
                      refine AW.reg ?_
                      refine SeqK.q (q_fieldL _ rfl Fx.fl36_5 rfl rfl) rfl rfl rfl ?_
                      refine SeqK.r (b_load (r := .a _) rfl Fx.ty34 rfl rfl rfl rfl rfl rfl) rfl ?_
                      refine SeqK.q (q_index _ rfl Fx.sl34 rfl rfl (by omega) (idx_ex h01)) rfl rfl rfl ?_
                      refine SeqK.q (q_load (.g [_, _, _, _, _, _, _, _]) rfl Fx.ty36 rfl rfl rfl) rfl rfl rfl ?_
                      refine SeqK.q (q_call _ rfl Fx.fn23 rfl (ih _ (List.getElem_mem h01)) rfl) rfl rfl rfl ?_
                      refine SeqK.q (q_mvT rfl rfl) rfl rfl rfl ?_
                      refine SeqK.q (q_extract _ rfl rfl rfl) rfl rfl rfl ?_
                      refine SeqK.q (q_extract _ rfl rfl rfl) rfl rfl rfl ?_
                      refine SeqK.r (b_alloc (r := [_, _]) rfl rfl Fx.ze24 rfl rfl rfl rfl) rfl ?_
                      refine SeqK.r (b_store (r := [_, _]) rfl rfl Fx.ty24 rfl rfl rfl rfl rfl rfl) rfl ?_
                      refine SeqK.q (q_asC rfl rfl) rfl rfl rfl ?_
                      refine SeqK.nil ?_
                      refine AW.seq ?_
                      refine AW.seq ?_
                      refine AW.reg ?_
                      refine SeqK.q (q_mvC rfl rfl) rfl rfl rfl ?_
                      refine SeqK.q (q_neq rfl rfl rfl) rfl rfl rfl ?_
                      refine SeqK.nil ?_
                      refine AW.condD rfl (fun h68 => ?_) (fun h68 => ?_)
                      ·
                        refine AW.seq ?_
                        refine AW.reg ?_
                        refine SeqK.q (q_build2 (zs := [_, _]) (r := [_, _]) [(0, 1), (1, 1)] _ rfl Fx.ze24 rfl Fx.bp24 rfl rfl rfl rfl) rfl rfl rfl ?_
                        refine SeqK.xw 69 rfl XW.tm0 ?_
                        refine SeqK.q (q_mvC rfl rfl) rfl rfl rfl ?_
                        refine SeqK.r (b_store (r := [_, _]) rfl rfl Fx.ty24 rfl rfl rfl rfl rfl rfl) rfl ?_
                        refine SeqK.q (q_asC rfl rfl) rfl rfl rfl ?_
                        refine SeqK.nil ?_
                        refine AW.ret ?_
                        exact fin_x (x := .tup [_, _]) (H) (.cellL rfl rfl Fx.ty24 rfl rfl (.tmp rfl .nil)) rfl (fun _ _ h => h) (⟨by rw [ofE_eq e, stepE, if_neg (by omega), if_neg h19, if_pos (by omega), binR_two (by simpa using h01) (by simpa using h12) (by simpa using hl2)]; simp only [List.getElem_map]; rw [if_pos h68]; rfl, rfl⟩)
                      ·
                        have hg0 := hgd _ (List.getElem_mem h01) (Classical.not_not.1 h68)
                        refine AW.skip ?_
                        refine AW.seq ?_
                        refine AW.reg ?_
                        refine SeqK.q (q_fieldL _ rfl Fx.fl36_5 rfl rfl) rfl rfl rfl ?_
                        refine SeqK.r (b_load (r := .a _) rfl Fx.ty34 rfl rfl rfl rfl rfl rfl) rfl ?_
                        refine SeqK.q (q_index _ rfl Fx.sl34 rfl rfl (by omega) (idx_ex h12)) rfl rfl rfl ?_
                        refine SeqK.q (q_load (.g [_, _, _, _, _, _, _, _]) rfl Fx.ty36 rfl rfl rfl) rfl rfl rfl ?_
                        refine SeqK.q (q_call _ rfl Fx.fn23 rfl (ih _ (List.getElem_mem h12)) rfl) rfl rfl rfl ?_
                        refine SeqK.q (q_mvT rfl rfl) rfl rfl rfl ?_
                        refine SeqK.q (q_extract _ rfl rfl rfl) rfl rfl rfl ?_
                        refine SeqK.q (q_extract _ rfl rfl rfl) rfl rfl rfl ?_
                        refine SeqK.r (b_alloc (r := [_, _]) rfl rfl Fx.ze24 rfl rfl rfl rfl) rfl ?_
                        refine SeqK.r (b_store (r := [_, _]) rfl rfl Fx.ty24 rfl rfl rfl rfl rfl rfl) rfl ?_
                        refine SeqK.q (q_asC rfl rfl) rfl rfl rfl ?_
                        refine SeqK.nil ?_
                        refine AW.seq ?_
                        refine AW.seq ?_
                        refine AW.reg ?_
                        refine SeqK.q (q_mvC rfl rfl) rfl rfl rfl ?_
                        refine SeqK.q (q_neq rfl rfl rfl) rfl rfl rfl ?_
                        refine SeqK.nil ?_
                        refine AW.condD rfl (fun h80 => ?_) (fun h80 => ?_)
                        ·
                          refine AW.seq ?_
                          refine AW.reg ?_
                          refine SeqK.q (q_build2 (zs := [_, _]) (r := [_, _]) [(0, 1), (1, 1)] _ rfl Fx.ze24 rfl Fx.bp24 rfl rfl rfl rfl) rfl rfl rfl ?_
                          refine SeqK.xw 81 rfl XW.tm0 ?_
                          refine SeqK.q (q_mvC rfl rfl) rfl rfl rfl ?_
                          refine SeqK.r (b_store (r := [_, _]) rfl rfl Fx.ty24 rfl rfl rfl rfl rfl rfl) rfl ?_
                          refine SeqK.q (q_asC rfl rfl) rfl rfl rfl ?_
                          refine SeqK.nil ?_
                          refine AW.ret ?_
                          exact fin_x (x := .tup [_, _]) (H) (.cellL rfl rfl Fx.ty24 rfl rfl (.tmp rfl .nil)) rfl (fun _ _ h => h) (⟨by rw [ofE_eq e, stepE, if_neg (by omega), if_neg h19, if_pos (by omega), binR_two (by simpa using h01) (by simpa using h12) (by simpa using hl2)]; simp only [List.getElem_map]; rw [if_neg h68, if_pos h80]; rfl, rfl⟩)
                        ·
                          have hg1 := hgd _ (List.getElem_mem h12) (Classical.not_not.1 h80)
                          refine AW.skip ?_
                          refine AW.seq ?_
                          refine AW.reg ?_
                          refine SeqK.q (q_fieldL _ rfl Fx.fl36_0 rfl rfl) rfl rfl rfl ?_
                          refine SeqK.r (b_load (r := .a _) rfl Fx.ty3 rfl rfl rfl rfl rfl rfl) rfl ?_
                          refine SeqK.r (b_load (r := .g [_, _]) rfl Fx.ty24 rfl rfl rfl rfl rfl rfl) rfl ?_
                          refine SeqK.r (b_load (r := .g [_, _]) rfl Fx.ty24 rfl rfl rfl rfl rfl rfl) rfl ?_
                          refine SeqK.q (q_call _ rfl Fx.fn64 rfl (comb_any e.op _ _ hg0.1 hg1.1 (by omega)) rfl) rfl rfl rfl ?_
                          refine SeqK.q (q_extract _ rfl rfl rfl) rfl rfl rfl ?_
                          refine SeqK.q (q_extract _ rfl rfl rfl) rfl rfl rfl ?_
                          refine SeqK.r (b_store (r := [_, _]) rfl rfl Fx.ty24 rfl rfl rfl rfl rfl rfl) rfl ?_
                          refine SeqK.q (q_asC rfl rfl) rfl rfl rfl ?_
                          refine SeqK.nil ?_
                          refine AW.ret ?_
                          exact fin_x (x := .tup [_, _]) (H) (.cellL rfl rfl Fx.ty24 rfl rfl (.tmp rfl .nil)) rfl (fun _ _ h => h) (⟨by rw [ofE_eq e, stepE, if_neg (by omega), if_neg h19, if_pos (by omega), binR_two (by simpa using h01) (by simpa using h12) (by simpa using hl2)]; simp only [List.getElem_map]; rw [if_neg h68, if_neg h80]; rfl, rfl⟩)
                  ·
                    refine AW.skip ?_
                    refine AW.seq ?_
                    refine AW.reg ?_
                    refine SeqK.r (b_load (r := .g [_, _, _, _, _, _, _, _]) rfl Fx.ty36 rfl rfl rfl rfl rfl rfl) rfl ?_
                    refine SeqK.q (q_call _ rfl Fx.fn63 rfl (ops_of e hr.len ih) rfl) rfl rfl rfl ?_
                    refine SeqK.q (q_extract _ rfl rfl rfl) rfl rfl rfl ?_
                    refine SeqK.q (q_extract _ rfl rfl rfl) rfl rfl rfl ?_
                    refine SeqK.r (b_store (r := [_, _]) rfl rfl Fx.ty24 rfl rfl rfl rfl rfl rfl) rfl ?_
                    refine SeqK.q (q_asC rfl rfl) rfl rfl rfl ?_
                    refine SeqK.nil ?_
                    refine AW.ret ?_
                    exact fin_x (x := .tup [_, _]) (H) (.cellL rfl rfl Fx.ty24 rfl rfl (.tmp rfl .nil)) rfl (fun _ _ h => h) (⟨by rw [ofE_eq e, stepE, if_neg (by omega), if_neg h19, if_neg (by omega)]; rfl, rfl⟩)

mutual
/-- what the walk through an expression asks: numbers in range, and the terms of the parts normal and small -/
def okE : Ex → Prop
  | .mk _ _ _ _ _ vn _ args => (R64 vn ∧ args.length ≤ 1000000) ∧ okEs args
def okEs : List Ex → Prop
  | [] => True
  | a :: r => (okE a ∧ gd (ofE a) ∧ a.vs.size ≤ 1152921504606846976) ∧ okEs r
end
theorem okEs_iff {l : List Ex} : okEs l ↔ ∀ a ∈ l, okE a ∧ gd (ofE a) ∧ a.vs.size ≤ 1152921504606846976 := by
  induction l with
  | nil => simp [okEs]
  | cons a r ih => simp [okEs, ih]
theorem of_any (e : Ex) : okE e → Pure Tryd.prog 23 [exC e] (trC (ofE e)) := by
  induction e using Ex.ind with
  | h e ih =>
    intro h
    cases e with | mk op tb nm ix vk vn vs args =>
    simp only [okE, okEs_iff] at h
    exact of_of _ ⟨h.1.1, h.1.2, fun a ha => (h.2 a ha).2.2⟩ (fun a ha => (h.2 a ha).2.1) fun a ha => ih a ha (h.2 a ha).1

end Go.Proofs.YtfbdokfcebpkaaaDoor.W
namespace Go.Proofs.YtfbdokfcebpkaaaDoor.W
open Go.RowKit E M
set_option linter.unusedVariables false
set_option linter.unusedSimpArgs false
set_option linter.unusedSectionVars false
theorem XW.ex0 {a b c d e f g : A} : XW (.c (.g [a, b, c, d, e, f, g, .t (.v (.slice none 0 0))])) (.c (.g [a, b, c, d, e, f, g, .t (.sl .un 8 [])])) := ⟨rfl, fun cx v h => by
  obtain ⟨us, rfl, h1, h2⟩ := h
  refine ⟨us, rfl, by simpa using h1, fun i x v hx hv => ?_⟩
  match i with
  | 0 => simp at hx; subst hx; exact h2 0 _ v rfl hv
  | 1 => simp at hx; subst hx; exact h2 1 _ v rfl hv
  | 2 => simp at hx; subst hx; exact h2 2 _ v rfl hv
  | 3 => simp at hx; subst hx; exact h2 3 _ v rfl hv
  | 4 => simp at hx; subst hx; exact h2 4 _ v rfl hv
  | 5 => simp at hx; subst hx; exact h2 5 _ v rfl hv
  | 6 => simp at hx; subst hx; exact h2 6 _ v rfl hv
  | 7 =>
    simp at hx; subst hx
    exact XW.nilU.2 cx v (h2 7 _ v rfl hv)
  | i + 8 => simp at hx⟩
theorem xwE2 {a b : Ex} : XW (.c (.a (.t (.sl .nn 8 [exL a, exL b])))) (.c (.a (.t (.sl .un 8 ([a, b].map exT'))))) := by
  have : [a, b].map exT' = [exL a, exL b] := by simp [exT_eq]
  rw [this]; exact XW.un
abbrev eN (n : Int) : Ex := .mk 1 ⟨#[]⟩ ⟨#[]⟩ 0 1 n ⟨#[]⟩ []
abbrev eV (i : Int) : Ex := .mk 2 ⟨#[]⟩ ⟨#[]⟩ i 0 0 ⟨#[]⟩ []
abbrev eB (op : Int) (l : List Ex) : Ex := .mk op ⟨#[]⟩ ⟨#[]⟩ 0 0 0 ⟨#[]⟩ l

set_option maxRecDepth 20000 in
theorem number_any (n : Int) : Pure Tryd.prog 38 [iC n] (.c (exC (eN n))) := by
  intro H
  refine Spec.enter Tryd.func38 rfl ?_
  refine AW.wk (Wk.keep 6 [(0, .c (iC n))] [] (H) rfl ⟨rfl, trivial⟩ trivial (fun _ _ h => h) rfl) ?_
  refine AW.seq ?_
  refine AW.reg ?_
  refine SeqK.r (b_alloc (r := [_, _, _, _, _, _, _, _]) rfl rfl Fx.ze36 rfl rfl rfl rfl) rfl ?_
  refine SeqK.nil ?_
  refine AW.seq ?_
  refine AW.reg ?_
  refine SeqK.q (q_mvC rfl rfl) rfl rfl rfl ?_
  refine SeqK.q (q_build2 (zs := [_, _, _]) (r := [_, _, _]) [(0, 1), (1, 1), (2, 1)] _ rfl Fx.ze33 rfl Fx.bp33 rfl rfl rfl rfl) rfl rfl rfl ?_
  refine SeqK.q (q_build2 (zs := [_, _, _, _, _, _, _, _]) (r := [_, _, _, _, _, _, _, _]) [(0, 1), (1, 1), (2, 1), (3, 1), (4, 3), (7, 1)] _ rfl Fx.ze36 rfl Fx.bp36 rfl rfl rfl rfl) rfl rfl rfl ?_
  refine SeqK.xw 5 rfl XW.ex0 ?_
  refine SeqK.r (b_store (r := [_, _, _, _, _, _, _, _]) rfl rfl Fx.ty36 rfl rfl rfl rfl rfl rfl) rfl ?_
  refine SeqK.nil ?_
  refine AW.ret ?_
  exact fin_x (x := .c _) H (.cellL rfl rfl Fx.ty36 rfl rfl .nil) rfl (fun _ _ h => h) ⟨rfl, rfl⟩

set_option maxRecDepth 20000 in
theorem column_any (i : Int) : Pure Tryd.prog 39 [iC i] (.c (exC (eV i))) := by
  intro H
  refine Spec.enter Tryd.func39 rfl ?_
  refine AW.wk (Wk.keep 5 [(0, .c (iC i))] [] (H) rfl ⟨rfl, trivial⟩ trivial (fun _ _ h => h) rfl) ?_
  refine AW.seq ?_
  refine AW.reg ?_
  refine SeqK.r (b_alloc (r := [_, _, _, _, _, _, _, _]) rfl rfl Fx.ze36 rfl rfl rfl rfl) rfl ?_
  refine SeqK.nil ?_
  refine AW.seq ?_
  refine AW.reg ?_
  refine SeqK.q (q_mvC rfl rfl) rfl rfl rfl ?_
  refine SeqK.q (q_build2 (zs := [_, _, _, _, _, _, _, _]) (r := [_, _, _, _, _, _, _, _]) [(0, 1), (1, 1), (2, 1), (3, 1), (4, 3), (7, 1)] _ rfl Fx.ze36 rfl Fx.bp36 rfl rfl rfl rfl) rfl rfl rfl ?_
  refine SeqK.xw 4 rfl XW.ex0 ?_
  refine SeqK.r (b_store (r := [_, _, _, _, _, _, _, _]) rfl rfl Fx.ty36 rfl rfl rfl rfl rfl rfl) rfl ?_
  refine SeqK.nil ?_
  refine AW.ret ?_
  exact fin_x (x := .c _) H (.cellL rfl rfl Fx.ty36 rfl rfl .nil) rfl (fun _ _ h => h) ⟨rfl, rfl⟩

set_option maxRecDepth 20000 in
theorem node_any (op : Int) (l : List Ex) : Pure Tryd.prog 37 [iC op, .a (.t (.sl .un 8 (l.map exT')))] (.c (exC (eB op l))) := by
  intro H
  refine Spec.enter Tryd.func37 rfl ?_
  refine AW.wk (Wk.keep 8 [(0, .c (iC op)), (1, .c (.a (.t (.sl .un 8 (l.map exT')))))] [] (H) rfl ⟨rfl, rfl, trivial⟩ trivial (fun _ _ h => h) rfl) ?_
  refine AW.seq ?_
  refine AW.reg ?_
  refine SeqK.r (b_alloc (r := [_, _, _, _, _, _, _, _]) rfl rfl Fx.ze36 rfl rfl rfl rfl) rfl ?_
  refine SeqK.nil ?_
  refine AW.seq ?_
  refine AW.reg ?_
  refine SeqK.q (q_mvC rfl rfl) rfl rfl rfl ?_
  refine SeqK.q (q_mvC rfl rfl) rfl rfl rfl ?_
  refine SeqK.q (q_build2 (zs := [_, _, _, _, _, _, _, _]) (r := [_, _, _, _, _, _, _, _]) [(0, 1), (1, 1), (2, 1), (3, 1), (4, 3), (7, 1)] _ rfl Fx.ze36 rfl Fx.bp36 rfl rfl rfl rfl) rfl rfl rfl ?_
  refine SeqK.r (b_store (r := [_, _, _, _, _, _, _, _]) rfl rfl Fx.ty36 rfl rfl rfl rfl rfl rfl) rfl ?_
  refine SeqK.nil ?_
  refine AW.ret ?_
  exact fin_x (x := .c _) H (.cellL rfl rfl Fx.ty36 rfl rfl .nil) rfl (fun _ _ h => h) ⟨rfl, rfl⟩

abbrev ex1 : Ex := eB 5 [eB 6 [eN 3, eB 4 [eV 0, eN 2]], eV 0]
abbrev ex2 : Ex := eB 8 [eV 1, eN 4]
abbrev ex3 : Ex := eB 6 [eV 0, eV 1]
abbrev tm1 : Tm := ⟨6, [⟨2, 0, 0, 0, []⟩]⟩
abbrev tm2 : Tm := ⟨0, [⟨1, 0, 1, 0, []⟩, ⟨-4, 2, 0, 4, [⟨0, [⟨1, 0, 1, 0, []⟩]⟩]⟩]⟩
theorem of1 : ofE ex1 = (tm1, 0) := by kernel_rfl
theorem of2 : ofE ex2 = (tm2, 0) := by kernel_rfl
theorem of3 : ofE ex3 = (tm0, 7) := by kernel_rfl
theorem ok1 : okE ex1 := by
  simp only [ex1, eB, eN, eV, okE, okEs]
  decide +kernel
theorem ok2 : okE ex2 := by
  simp only [ex2, eB, eN, eV, okE, okEs]
  decide +kernel
theorem ok3 : okE ex3 := by
  simp only [ex3, eB, eN, eV, okE, okEs]
  decide +kernel
theorem fm1 : fmtT tm1 = ⟨#[50, 42, 120, 48, 32, 43, 32, 54]⟩ := by kernel_rfl
theorem fm2 : fmtT tm2 = ⟨#[120, 49, 32, 45, 32, 52, 42, 100, 105, 118, 40, 120, 49, 44, 32, 52, 41]⟩ := by kernel_rfl

theorem num_v {k v : Int} (hk : k ≠ 2) (hv : 0 ≤ v ∧ v < 100) {a : Int} (ha : a.natAbs < 100) : NumP (· < 100) ⟨a, k, v, 0, []⟩ :=
  ⟨⟨ha, by show -9223372036854775808 ≤ a ∧ a ≤ 9223372036854775807; omega⟩, ⟨hv.1, by show v.toNat < 100; omega⟩, fun h => absurd h hk⟩
theorem num0 : numT (· < 100) ⟨0, [⟨1, 0, 1, 0, []⟩]⟩ := by
  refine (numT_eq _).2 ⟨⟨by decide, by decide⟩, fun p hp => ?_⟩
  obtain rfl : p = ⟨1, 0, 1, 0, []⟩ := by simpa using hp
  exact ⟨num_v (by decide) (by decide) (by decide), by simp⟩
theorem num1 : numT (· < 100) tm1 := by
  refine (numT_eq _).2 ⟨⟨by decide, by decide⟩, fun p hp => ?_⟩
  obtain rfl : p = ⟨2, 0, 0, 0, []⟩ := by simpa using hp
  exact ⟨num_v (by decide) (by decide) (by decide), by simp⟩
theorem num2 : numT (· < 100) tm2 := by
  refine (numT_eq _).2 ⟨⟨by decide, by decide⟩, fun p hp => ?_⟩
  have hp : p = ⟨1, 0, 1, 0, []⟩ ∨ p = ⟨-4, 2, 0, 4, [⟨0, [⟨1, 0, 1, 0, []⟩]⟩]⟩ := by simpa using hp
  rcases hp with rfl | rfl
  · exact ⟨num_v (by decide) (by decide) (by decide), by simp⟩
  · refine ⟨⟨⟨by decide, by decide⟩, ⟨by decide, by decide⟩, fun _ => ⟨by decide, by decide, by decide⟩⟩, fun o ho => ?_⟩
    obtain rfl : o = ⟨0, [⟨1, 0, 1, 0, []⟩]⟩ := by simpa using ho
    exact num0
theorem of1_any : Pure Tryd.prog 23 [exC ex1] (trC (tm1, 0)) := by rw [← of1]; exact of_any ex1 ok1
theorem of2_any : Pure Tryd.prog 23 [exC ex2] (trC (tm2, 0)) := by rw [← of2]; exact of_any ex2 ok2
theorem of3_any : Pure Tryd.prog 23 [exC ex3] (trC (tm0, 7)) := by rw [← of3]; exact of_any ex3 ok3
theorem fmt1_any : Pure Tryd.prog 16 [tmC tm1] (.c (sC ⟨#[50, 42, 120, 48, 32, 43, 32, 54]⟩)) := by rw [← fm1]; exact format_any numOk100 tm1 num1 (by decide)
theorem fmt2_any : Pure Tryd.prog 16 [tmC tm2] (.c (sC ⟨#[120, 49, 32, 45, 32, 52, 42, 100, 105, 118, 40, 120, 49, 44, 32, 52, 41]⟩)) := by rw [← fm2]; exact format_any numOk100 tm2 num2 (by decide)

set_option maxRecDepth 20000 in
theorem awake_any  : Pure Tryd.prog 12 [] (.c (bC true)) := by
  intro H
  refine Spec.enter Tryd.func12 rfl ?_
  refine AW.wk (Wk.keep 57 [] [] (H) rfl trivial trivial (fun _ _ h => h) rfl) ?_
  refine AW.seq ?_
  refine AW.reg ?_
  refine SeqK.q (q_asC rfl rfl) rfl rfl rfl ?_
  refine SeqK.nil ?_
  refine AW.seq ?_
  refine AW.reg ?_
  refine SeqK.q (q_call _ rfl Fx.fn38 rfl (number_any _) rfl) rfl rfl rfl ?_
  refine SeqK.q (q_call _ rfl Fx.fn39 rfl (column_any _) rfl) rfl rfl rfl ?_
  refine SeqK.q (q_call _ rfl Fx.fn38 rfl (number_any _) rfl) rfl rfl rfl ?_
  refine SeqK.q (q_buildSlice _ rfl Fx.el34 rfl (by decide) rfl) rfl rfl rfl ?_
  refine SeqK.xw 11 rfl (xwE2 (a := eV 0) (b := eN 2)) ?_
  refine SeqK.q (q_call _ rfl Fx.fn37 rfl (node_any 4 [eV 0, eN 2]) rfl) rfl rfl rfl ?_
  refine SeqK.q (q_buildSlice _ rfl Fx.el34 rfl (by decide) rfl) rfl rfl rfl ?_
  refine SeqK.xw 13 rfl (xwE2 (a := eN 3) (b := (eB 4 [eV 0, eN 2]))) ?_
  refine SeqK.q (q_call _ rfl Fx.fn37 rfl (node_any 6 [eN 3, (eB 4 [eV 0, eN 2])]) rfl) rfl rfl rfl ?_
  refine SeqK.q (q_call _ rfl Fx.fn39 rfl (column_any _) rfl) rfl rfl rfl ?_
  refine SeqK.q (q_buildSlice _ rfl Fx.el34 rfl (by decide) rfl) rfl rfl rfl ?_
  refine SeqK.xw 16 rfl (xwE2 (a := (eB 6 [eN 3, eB 4 [eV 0, eN 2]])) (b := eV 0)) ?_
  refine SeqK.q (q_call _ rfl Fx.fn37 rfl (node_any 5 [(eB 6 [eN 3, eB 4 [eV 0, eN 2]]), eV 0]) rfl) rfl rfl rfl ?_
  refine SeqK.q (q_call _ rfl Fx.fn23 rfl (of1_any) rfl) rfl rfl rfl ?_
  refine SeqK.q (q_mvT rfl rfl) rfl rfl rfl ?_
  refine SeqK.q (q_extract _ rfl rfl rfl) rfl rfl rfl ?_
  refine SeqK.q (q_extract _ rfl rfl rfl) rfl rfl rfl ?_
  refine SeqK.r (b_alloc (r := [_, _]) rfl rfl Fx.ze24 rfl rfl rfl rfl) rfl ?_
  refine SeqK.r (b_store (r := [_, _]) rfl rfl Fx.ty24 rfl rfl rfl rfl rfl rfl) rfl ?_
  refine SeqK.q (q_asC rfl rfl) rfl rfl rfl ?_
  refine SeqK.nil ?_
  refine AW.seq ?_
  refine AW.reg ?_
  refine SeqK.q (q_call _ rfl Fx.fn39 rfl (column_any _) rfl) rfl rfl rfl ?_
  refine SeqK.q (q_call _ rfl Fx.fn38 rfl (number_any _) rfl) rfl rfl rfl ?_
  refine SeqK.q (q_buildSlice _ rfl Fx.el34 rfl (by decide) rfl) rfl rfl rfl ?_
  refine SeqK.xw 24 rfl (xwE2 (a := eV 1) (b := eN 4)) ?_
  refine SeqK.q (q_call _ rfl Fx.fn37 rfl (node_any 8 [eV 1, eN 4]) rfl) rfl rfl rfl ?_
  refine SeqK.q (q_call _ rfl Fx.fn23 rfl (of2_any) rfl) rfl rfl rfl ?_
  refine SeqK.q (q_mvT rfl rfl) rfl rfl rfl ?_
  refine SeqK.q (q_extract _ rfl rfl rfl) rfl rfl rfl ?_
  refine SeqK.q (q_extract _ rfl rfl rfl) rfl rfl rfl ?_
  refine SeqK.r (b_alloc (r := [_, _]) rfl rfl Fx.ze24 rfl rfl rfl rfl) rfl ?_
  refine SeqK.r (b_store (r := [_, _]) rfl rfl Fx.ty24 rfl rfl rfl rfl rfl rfl) rfl ?_
  refine SeqK.q (q_asC rfl rfl) rfl rfl rfl ?_
  refine SeqK.nil ?_
  refine AW.seq ?_
  refine AW.reg ?_
  refine SeqK.q (q_call _ rfl Fx.fn39 rfl (column_any _) rfl) rfl rfl rfl ?_
  refine SeqK.q (q_call _ rfl Fx.fn39 rfl (column_any _) rfl) rfl rfl rfl ?_
  refine SeqK.q (q_buildSlice _ rfl Fx.el34 rfl (by decide) rfl) rfl rfl rfl ?_
  refine SeqK.xw 32 rfl (xwE2 (a := eV 0) (b := eV 1)) ?_
  refine SeqK.q (q_call _ rfl Fx.fn37 rfl (node_any 6 [eV 0, eV 1]) rfl) rfl rfl rfl ?_
  refine SeqK.q (q_call _ rfl Fx.fn23 rfl (of3_any) rfl) rfl rfl rfl ?_
  refine SeqK.q (q_mvT rfl rfl) rfl rfl rfl ?_
  refine SeqK.q (q_extract _ rfl rfl rfl) rfl rfl rfl ?_
  refine SeqK.q (q_extract _ rfl rfl rfl) rfl rfl rfl ?_
  refine SeqK.r (b_alloc (r := [_, _]) rfl rfl Fx.ze24 rfl rfl rfl rfl) rfl ?_
  refine SeqK.r (b_store (r := [_, _]) rfl rfl Fx.ty24 rfl rfl rfl rfl rfl rfl) rfl ?_
  refine SeqK.q (q_asC rfl rfl) rfl rfl rfl ?_
  refine SeqK.nil ?_
  refine AW.seq ?_
  refine AW.reg ?_
  refine SeqK.q (q_mvC rfl rfl) rfl rfl rfl ?_
  refine SeqK.q (q_eql rfl rfl rfl) rfl rfl rfl ?_
  refine SeqK.qD (q_mvC rfl rfl) rfl rfl rfl (fun g39 => ?_) (fun g39 => ?_)
  ·
    refine SeqK.rOn (b_load (r := .g [_, _]) rfl Fx.ty24 rfl rfl rfl rfl rfl rfl) rfl rfl rfl ?_
    refine SeqK.on (q_call _ rfl Fx.fn16 rfl (fmt1_any) rfl) rfl rfl rfl rfl rfl ?_
    refine SeqK.on (q_eqlS rfl rfl rfl) rfl rfl rfl rfl rfl ?_
    refine SeqK.q (q_pkT rfl rfl rfl) rfl rfl rfl ?_
    refine SeqK.qD (q_mvC rfl rfl) rfl rfl rfl (fun g44 => ?_) (fun g44 => ?_)
    ·
      refine SeqK.on (q_mvC rfl rfl) rfl rfl rfl rfl rfl ?_
      refine SeqK.on (q_eql rfl rfl rfl) rfl rfl rfl rfl rfl ?_
      refine SeqK.q (q_pkT rfl rfl rfl) rfl rfl rfl ?_
      refine SeqK.qD (q_mvC rfl rfl) rfl rfl rfl (fun g48 => ?_) (fun g48 => ?_)
      ·
        refine SeqK.rOn (b_load (r := .g [_, _]) rfl Fx.ty24 rfl rfl rfl rfl rfl rfl) rfl rfl rfl ?_
        refine SeqK.on (q_call _ rfl Fx.fn16 rfl (fmt2_any) rfl) rfl rfl rfl rfl rfl ?_
        refine SeqK.on (q_eqlS rfl rfl rfl) rfl rfl rfl rfl rfl ?_
        refine SeqK.q (q_pkT rfl rfl rfl) rfl rfl rfl ?_
        refine SeqK.qD (q_mvC rfl rfl) rfl rfl rfl (fun g53 => ?_) (fun g53 => ?_)
        ·
          refine SeqK.on (q_mvC rfl rfl) rfl rfl rfl rfl rfl ?_
          refine SeqK.on (q_eql rfl rfl rfl) rfl rfl rfl rfl rfl ?_
          refine SeqK.q (q_pkT rfl rfl rfl) rfl rfl rfl ?_
          refine SeqK.q (q_asC rfl rfl) rfl rfl rfl ?_
          refine SeqK.nil ?_
          refine AW.ret ?_
          exact fin_x (x := .c _) H (.tmp rfl .nil) rfl (fun _ _ h => h) ⟨rfl, rfl⟩
        ·
          exact absurd rfl g53
      ·
        exact absurd rfl g48
    ·
      exact absurd rfl g44
  ·
    exact absurd rfl g39

end Go.Proofs.YtfbdokfcebpkaaaDoor.W
/- Terms out of memory. -/
namespace Go.Proofs.YtfbdokfcebpkaaaDoor.W
open Go.RowKit E M
set_option linter.unusedVariables false
theorem rg_int {i : Int} (h : (Lit.int .i64 i).wf = true) : Rg i := ⟨of_decide_eq_true (Bool.and_eq_true_iff.1 h).1, of_decide_eq_true (Bool.and_eq_true_iff.1 h).2⟩
theorem tm_fun : tmT = fun t : Tm => tmL t := funext tmT_eq
theorem rd24 (N : Nat) : Reads Tryd.prog N 24 2 (fun t : Tm => tmL t) rgT := by
  induction N using Nat.strongRecOn with
  | ind N ih =>
    have hp : ∀ M, M < N → Reads Tryd.prog M 62 5 (fun p : Pt => ptT p) rgP := fun M hM =>
      (Reads.struct Tryd.underlying62 (ReadsF.cons rfl (by kernel_rfl) (fun _ _ => Reads.int Tryd.underlying2) (ReadsF.cons rfl (by kernel_rfl) (fun _ _ => Reads.int Tryd.underlying3) (ReadsF.cons rfl (by kernel_rfl) (fun _ _ => Reads.int Tryd.underlying3) (ReadsF.cons rfl (by kernel_rfl) (fun _ _ => Reads.int Tryd.underlying2) (ReadsF.cons rfl (by kernel_rfl) (fun M2 hM2 => Reads.slice Tryd.underlying60 (by kernel_rfl) (by decide) (fun M3 hM3 => ih M3 (by omega))) .nil)))))).conv
        (fun p => Pt.mk p.1 p.2.1 p.2.2.1 p.2.2.2.1 p.2.2.2.2.1) (fun p _ => by
          show [_, _, _, _, T.sl .un 2 (p.2.2.2.2.1.map tmT)] = _
          rw [tm_fun]; rfl) (fun p h => by
          obtain ⟨h1, h2, h3, h4, h5, _⟩ := h
          rw [rgP_eq]
          refine ⟨rg_int h1, rg_int h2, rg_int h3, ⟨rg_int h4, ?_⟩, h5.2.2⟩
          have := h5.1
          rw [show Tryd.prog.bytesOf 24 = 32 from by kernel_rfl] at this
          show p.2.2.2.2.1.length ≤ _
          omega)
    exact (Reads.struct Tryd.underlying24 (ReadsF.cons rfl (by kernel_rfl) (fun _ _ => Reads.int Tryd.underlying2) (ReadsF.cons rfl (by kernel_rfl) (fun M2 hM2 => Reads.slice Tryd.underlying22 (by kernel_rfl) (by decide) (fun M3 hM3 => hp M3 (by omega))) .nil))).conv
        (fun p => Tm.mk p.1 p.2.1) (fun p _ => rfl) (fun p h => by
          obtain ⟨h1, h2, _⟩ := h
          rw [rgT_eq]
          refine ⟨⟨rg_int h1, ?_⟩, h2.2.2⟩
          have := h2.1
          rw [show Tryd.prog.bytesOf 62 = 56 from by kernel_rfl] at this
          show p.2.1.length ≤ _
          omega)
end Go.Proofs.YtfbdokfcebpkaaaDoor.W
namespace Go.Proofs.YtfbdokfcebpkaaaDoor.W
open Go.RowKit E M
set_option linter.unusedVariables false
set_option linter.unusedSimpArgs false
set_option linter.unusedSectionVars false
abbrev w (n : Int) : Int := IntKind.i64.wrap n
def valV (r : List RV) (k v : Int) : Int × Bool :=
  if (r.length : Int) ≤ v then (0, false)
  else if k = 1 then (((r.getD v.toNat ⟨0, 0, ⟨#[]⟩⟩).s.size : Int), decide ((r.getD v.toNat ⟨0, 0, ⟨#[]⟩⟩).k = 2))
  else ((r.getD v.toNat ⟨0, 0, ⟨#[]⟩⟩).n, decide ((r.getD v.toNat ⟨0, 0, ⟨#[]⟩⟩).k = 1))
mutual
def valT (r : List RV) : Tm → Int × Bool
  | .mk c ps => valPs r ps c
def valPs (r : List RV) : List Pt → Int → Int × Bool
  | [], s => (s, true)
  | p :: l, s => if (valP r p).2 = true then valPs r l (w (s + w (p.coef * (valP r p).1))) else (0, false)
def valP (r : List RV) : Pt → Int × Bool
  | .mk _ k v b of => if k = 2 then (if (valO r of).2 = true then ((valO r of).1 / b, true) else (0, false)) else valV r k v
def valO (r : List RV) : List Tm → Int × Bool
  | [] => (0, false)
  | o :: _ => valT r o
end
/-- what a value asks of a term -/
structure vok (p : Pt) : Prop where
  var : p.kind ≠ 2 → 0 ≤ p.var
  dv : p.kind = 2 → 1 ≤ p.dv ∧ ∃ h : 0 < p.of.length, vldT p.of[0] = true
  two : p.kind = 0 ∨ p.kind = 1 ∨ p.kind = 2
theorem vldP_vok {p : Pt} (h : vldP p = true) : vok p := by
  have hb := vldP_bok h
  rw [vldP_eq] at h
  split at h
  · rename_i hk
    simp only [Bool.and_eq_true, decide_eq_true_eq] at h
    exact ⟨fun _ => h.2.1.1, fun hk2 => by omega, by omega⟩
  · simp only [Bool.and_eq_true, decide_eq_true_eq] at h
    have hk : p.kind = 2 := h.2.1.1.1.1
    exact ⟨fun hn => absurd hk hn, fun hk2 => ⟨(hb hk2).1.1, (hb hk2).2⟩, .inr (.inr hk)⟩
end Go.Proofs.YtfbdokfcebpkaaaDoor.W
/- The readers of the laws' arguments: data to trees. -/
namespace Go.Proofs.YtfbdokfcebpkaaaDoor.W
open Go.RowKit E M
set_option linter.unusedVariables false
end Go.Proofs.YtfbdokfcebpkaaaDoor.W
namespace Go.Proofs.YtfbdokfcebpkaaaDoor.W
open Go.RowKit E M
set_option linter.unusedVariables false
set_option linter.unusedSimpArgs false
set_option linter.unusedSectionVars false

theorem sm_iff' {t : Tm} (h : smB t = true) : t.cnt ≤ 80 ∧ vldT t = true := by simpa [smB] using h

end Go.Proofs.YtfbdokfcebpkaaaDoor.W
