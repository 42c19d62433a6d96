import Derived.Test.YtgnnjebfoffphaaGreatDoorM18
set_option maxRecDepth 20000
set_option maxHeartbeats 16000000
set_option linter.unusedSectionVars false
set_option linter.unusedSimpArgs false
set_option linter.unusedVariables false
namespace Go.Proofs.YtgnnjebfoffphaaGreatDoor.W
open Fx
open Go.RowKit E M
open Q
theorem operator_any (sc : Sp) (e : Ex) (ks : List Int) (hf : fmE e) (hk : ks.length = e.args.length) (h12o : ¬ e.op = 1 ∧ ¬ e.op = 2) (hta : ∀ a ∈ e.args, tsE a) (hev : allI ks 1 = true → e.op = 7 ∨ e.op = 8 → ∀ h : 1 < e.args.length, cnB icB e.args[1] = false → Ev [] e.args[1]) (hof : 3 ≤ e.op ∧ e.op ≤ 8 → Pu 158 [exC e] (trC (ofE e))) : Pu 80 [spC sc, exC e, iL .un ks] (i2X (opI e ks)) := by
 have hn := ((fmE_iff e).1 hf).1
 have hkl : ks.length ≤ 1000000000 := by omega
 intro H
 refine Spec.enter Tryz.func80 rfl ?_
 refine AW.wk (wK 103 (l := [(0, .c (spC sc)), (1, .c (exC e)), (2, .c (iL .un ks))]) (ll := []) (H := (H))) ?_
 refine D4 ?_
 refine AW.seq (D2 ?_)
 refine Z4 (AW.block (AW.seqM (fun s => s = ⟨103, sp [(2, .c (iL .un ks)), (3, .lp 3 0), (4, .lp 4 0), (6, .c (iC 0)), (7, .c (iC 0)), (11, .c (iC e.op)), (12, .c (bC (decide (3 ≤ e.op ∧ e.op ≤ 8))))], lv [(3, .box (zSp sc)), (4, .box (zEx e))], H⟩) ?_ ?_))
 ·
  refine D2 ?_
  refine cD ?_ ?_ <;> intro h12
  ·
   refine AW.skip ?_
   exact ⟨_, by exact Wk.keep 103 _ _ _ rfl ⟨rfl, rfl, rfl, rfl, rfl, rfl, bCe (by first | exact (jH (by omega)).symm | exact (jI (by omega)).symm | exact dcE (by omega)), trivial⟩ ⟨rfl, rfl, trivial⟩ (fun _ _ h => h) rfl, rfl⟩
  refine D2 ?_
  refine cD ?_ ?_ <;> intro h12
  ·
   refine AW.skip ?_
   exact ⟨_, by exact Wk.keep 103 _ _ _ rfl ⟨rfl, rfl, rfl, rfl, rfl, rfl, bCe (by first | exact (jH (by omega)).symm | exact (jI (by omega)).symm | exact dcE (by omega)), trivial⟩ ⟨rfl, rfl, trivial⟩ (fun _ _ h => h) rfl, rfl⟩
  refine D2 ?_
  refine cD ?_ ?_ <;> intro h12
  ·
   refine AW.skip ?_
   exact ⟨_, by exact Wk.keep 103 _ _ _ rfl ⟨rfl, rfl, rfl, rfl, rfl, rfl, bCe (by first | exact (jH (by omega)).symm | exact (jI (by omega)).symm | exact dcE (by omega)), trivial⟩ ⟨rfl, rfl, trivial⟩ (fun _ _ h => h) rfl, rfl⟩
  refine D2 ?_
  refine cD ?_ ?_ <;> intro h12
  ·
   refine AW.skip ?_
   exact ⟨_, by exact Wk.keep 103 _ _ _ rfl ⟨rfl, rfl, rfl, rfl, rfl, rfl, bCe (by first | exact (jH (by omega)).symm | exact (jI (by omega)).symm | exact dcE (by omega)), trivial⟩ ⟨rfl, rfl, trivial⟩ (fun _ _ h => h) rfl, rfl⟩
  refine D2 ?_
  refine cD ?_ ?_ <;> intro h12
  ·
   refine AW.skip ?_
   exact ⟨_, by exact Wk.keep 103 _ _ _ rfl ⟨rfl, rfl, rfl, rfl, rfl, rfl, bCe (by first | exact (jH (by omega)).symm | exact (jI (by omega)).symm | exact dcE (by omega)), trivial⟩ ⟨rfl, rfl, trivial⟩ (fun _ _ h => h) rfl, rfl⟩
  refine B2 ?_
  exact ⟨_, by exact Wk.keep 103 _ _ _ rfl ⟨rfl, rfl, rfl, rfl, rfl, rfl, bCe (by first | exact (jH (by omega)).symm | exact (jI (by omega)).symm | exact dcE (by omega)), trivial⟩ ⟨rfl, rfl, trivial⟩ (fun _ _ h => h) rfl, rfl⟩
 rintro s rfl
 refine cD ?_ ?_ <;> intro h12
 ·
  refine D2 ?_
  refine sQ (q_call _ rfl fn124 rfl (arithmetic_any e ks hf hkl hta hev (hof (by omega))) rfl) ?_
  refine G2 ?_
  exact aR (f2 (.tmp rfl (.tmp rfl .nil)) (⟨i2e (a := (1, arI e ks)) (by rw [opI, if_pos (by omega)]), rfl⟩))
 refine D2 ?_
 refine cD ?_ ?_ <;> intro h22
 ·
  refine D1 ?_
  refine Z16 fn126 (all_any ks .un _ hkl) ?_
  refine Z16 fn125 (is_any _ _) ?_
  refine G4 ?_
  exact aR (f2 (.tmp rfl (.tmp rfl .nil)) (⟨i2e (by rw [opI, if_neg (by omega), if_pos (by assumption)]), rfl⟩))
 refine AW.seqM (fun s => s = ⟨103, sp [(2, .c (iL .un ks)), (3, .lp 3 0), (4, .lp 4 0), (6, .c (iC 0)), (7, .c (iC 0)), (11, .c (iC e.op)), (29, .c (bC (decide (10 ≤ e.op ∧ e.op ≤ 15))))], lv [(3, .box (zSp sc)), (4, .box (zEx e))], H⟩) ?_ ?_
 ·
  refine D2 ?_
  refine cD ?_ ?_ <;> intro h29
  ·
   refine AW.skip ?_
   exact ⟨_, by exact Wk.keep 103 _ _ _ rfl ⟨rfl, rfl, rfl, rfl, rfl, rfl, bCe (by first | exact (jH (by omega)).symm | exact (jI (by omega)).symm | exact dcE (by omega)), trivial⟩ ⟨rfl, rfl, trivial⟩ (fun _ _ h => h) rfl, rfl⟩
  refine D2 ?_
  refine cD ?_ ?_ <;> intro h29
  ·
   refine AW.skip ?_
   exact ⟨_, by exact Wk.keep 103 _ _ _ rfl ⟨rfl, rfl, rfl, rfl, rfl, rfl, bCe (by first | exact (jH (by omega)).symm | exact (jI (by omega)).symm | exact dcE (by omega)), trivial⟩ ⟨rfl, rfl, trivial⟩ (fun _ _ h => h) rfl, rfl⟩
  refine D2 ?_
  refine cD ?_ ?_ <;> intro h29
  ·
   refine AW.skip ?_
   exact ⟨_, by exact Wk.keep 103 _ _ _ rfl ⟨rfl, rfl, rfl, rfl, rfl, rfl, bCe (by first | exact (jH (by omega)).symm | exact (jI (by omega)).symm | exact dcE (by omega)), trivial⟩ ⟨rfl, rfl, trivial⟩ (fun _ _ h => h) rfl, rfl⟩
  refine D2 ?_
  refine cD ?_ ?_ <;> intro h29
  ·
   refine AW.skip ?_
   exact ⟨_, by exact Wk.keep 103 _ _ _ rfl ⟨rfl, rfl, rfl, rfl, rfl, rfl, bCe (by first | exact (jH (by omega)).symm | exact (jI (by omega)).symm | exact dcE (by omega)), trivial⟩ ⟨rfl, rfl, trivial⟩ (fun _ _ h => h) rfl, rfl⟩
  refine D2 ?_
  refine cD ?_ ?_ <;> intro h29
  ·
   refine AW.skip ?_
   exact ⟨_, by exact Wk.keep 103 _ _ _ rfl ⟨rfl, rfl, rfl, rfl, rfl, rfl, bCe (by first | exact (jH (by omega)).symm | exact (jI (by omega)).symm | exact dcE (by omega)), trivial⟩ ⟨rfl, rfl, trivial⟩ (fun _ _ h => h) rfl, rfl⟩
  refine B2 ?_
  exact ⟨_, by exact Wk.keep 103 _ _ _ rfl ⟨rfl, rfl, rfl, rfl, rfl, rfl, bCe (by first | exact (jH (by omega)).symm | exact (jI (by omega)).symm | exact dcE (by omega)), trivial⟩ ⟨rfl, rfl, trivial⟩ (fun _ _ h => h) rfl, rfl⟩
 rintro s rfl
 refine cD ?_ ?_ <;> intro h29
 rotate_left
 ·
  refine D2 ?_
  refine cD ?_ ?_ <;> intro h80
  ·
   refine AW.seq ?_
   have k01 : 0 < ks.length := by omega
   refine B1 ?_
   refine Z12 sl43 (idx_map (f := i64T) k01) ?_
   refine G1 ?_
   refine Z16 fn110 (fits_any _ _) ?_
   refine Z16 fn125 (is_any _ _) ?_
   refine G4 ?_
   exact aR (f2 (.tmp rfl (.tmp rfl .nil)) (⟨i2e (by rw [opI, if_neg (by omega), if_neg (by omega), if_neg (by omega), if_pos (by assumption), getD_at k01]), rfl⟩))
  refine D2 ?_
  refine cD ?_ ?_ <;> intro h89
  ·
   refine AW.seq ?_
   have k01 : 0 < ks.length := by omega
   refine B1 ?_
   refine Z12 sl43 (idx_map (f := i64T) k01) ?_
   refine G2 ?_
   refine Z16 fn125 (is_any _ _) ?_
   refine G4 ?_
   exact aR (f2 (.tmp rfl (.tmp rfl .nil)) (⟨i2e (by rw [opI, if_neg (by omega), if_neg (by omega), if_neg (by omega), if_neg (by omega), if_pos (by assumption), getD_at k01]), rfl⟩))
  refine AW.skip (D1 ?_)
  refine Z16 fn126 (all_any ks .un _ hkl) ?_
  refine Z16 fn125 (is_any _ _) ?_
  refine G4 ?_
  exact aR (f2 (.tmp rfl (.tmp rfl .nil)) (⟨i2e (by rw [opI, if_neg (by omega), if_neg (by omega), if_neg (by omega), if_neg (by omega), if_neg (by omega)]), rfl⟩))
 refine AW.seq (D1 ?_)
 refine Z16 fn126 (all_any ks .un _ hkl) ?_
 refine Z38 ?_
 refine Z53 ?_ ?_ <;> intro g39
 ·
  refine Z14 ?_
  refine Z52 fn126 (all_any ks .un _ hkl) ?_
  refine G3 ?_
  refine AW.cond _ rfl (fun h43 => ?_) (fun h43 => ?_)
  ·
   refine D2 ?_
   exact aR (f2 (.tmp rfl (.tmp rfl .nil)) (⟨i2e (a := (0, 6)) (by rw [opI, if_neg (by omega), if_neg (by omega), if_pos (by omega), if_pos ⟨by simp_all, by simp_all⟩]), rfl⟩))
  refine AW.skip (AW.seq ?_)
  have hl2 : e.args.length = 2 := by have := hn; omega
  have h01 : 0 < e.args.length := by omega
  have h12 : 1 < e.args.length := by omega
  have k01 : 0 < ks.length := by omega
  have k12 : 1 < ks.length := by omega
  have hA : ¬ (allI ks 1 = false ∧ allI ks 2 = false) := by rintro ⟨a, b⟩; simp_all
  refine AW.draw mo ?_
  refine N8 ?_
  refine LexK.r (b_alloc (r := [_, _, _, _, _, _, _, _]) rfl rfl ze37 rfl rfl rfl rfl) rfl ?_
  refine LexK.r (b_alloc (r := [_, _, _, _, _, _, _, _]) rfl rfl ze37 rfl rfl rfl rfl) rfl ?_
  refine N3 ?_
  refine AW.seq (D3 ?_)
  refine Z17 ?_ ?_ <;> intro g55
  rotate_left
  ·
   iterate 3 refine oF ?_
   refine G2 ?_
   iterate 2 refine oF ?_
   refine G2 ?_
   iterate 2 refine oF ?_
   refine G2 ?_
   iterate 4 refine oF ?_
   refine G2 ?_
   iterate 4 refine oF ?_
   refine G2 ?_
   refine AW.condF rfl ?_
   refine AW.skip (D2 ?_)
   exact aR (f2 (.tmp rfl (.tmp rfl .nil)) (⟨i2e (a := (3, 0)) (by rw [opI, if_neg (by omega), if_neg (by omega), if_pos (by omega), if_neg hA, if_neg (by rintro ⟨k1, k2, k3, k4, k5, k6⟩; rw [getD_at h01] at k3; rw [getD_at h12] at k4; rw [getD_at k01] at k5; rw [getD_at k12] at k6; first | omega | (simp_all; done))]), rfl⟩))
  refine G4 ?_
  refine Z17 ?_ ?_ <;> intro g60
  rotate_left
  ·
   iterate 2 refine oF ?_
   refine G2 ?_
   iterate 2 refine oF ?_
   refine G2 ?_
   iterate 4 refine oF ?_
   refine G2 ?_
   iterate 4 refine oF ?_
   refine G2 ?_
   refine AW.condF rfl ?_
   refine AW.skip (D2 ?_)
   exact aR (f2 (.tmp rfl (.tmp rfl .nil)) (⟨i2e (a := (3, 0)) (by rw [opI, if_neg (by omega), if_neg (by omega), if_pos (by omega), if_neg hA, if_neg (by rintro ⟨k1, k2, k3, k4, k5, k6⟩; rw [getD_at h01] at k3; rw [getD_at h12] at k4; rw [getD_at k01] at k5; rw [getD_at k12] at k6; first | omega | (simp_all; done))]), rfl⟩))
  refine G1 ?_
  refine Z52 fn60 (isColumn_any _) ?_
  refine Z7 ?_
  refine Z53 ?_ ?_ <;> intro g64
  rotate_left
  ·
   iterate 2 refine oF ?_
   refine G2 ?_
   iterate 4 refine oF ?_
   refine G2 ?_
   iterate 4 refine oF ?_
   refine G2 ?_
   refine AW.condF rfl ?_
   refine AW.skip (D2 ?_)
   exact aR (f2 (.tmp rfl (.tmp rfl .nil)) (⟨i2e (a := (3, 0)) (by rw [opI, if_neg (by omega), if_neg (by omega), if_pos (by omega), if_neg hA, if_neg (by rintro ⟨k1, k2, k3, k4, k5, k6⟩; rw [getD_at h01] at k3; rw [getD_at h12] at k4; rw [getD_at k01] at k5; rw [getD_at k12] at k6; first | omega | (simp_all; done))]), rfl⟩))
  refine G1 ?_
  refine Z52 fn60 (isColumn_any _) ?_
  refine Z7 ?_
  refine Z53 ?_ ?_ <;> intro g68
  ·
   refine Z14 ?_
   refine Z50 sl43 (idx_map (f := i64T) k01) ?_
   refine G3 ?_
   refine Z17 ?_ ?_ <;> intro g74
   ·
    refine Z14 ?_
    refine Z50 sl43 (idx_map (f := i64T) k12) ?_
    refine G4 ?_
    refine cD ?_ ?_ <;> intro h79
    ·
     refine D2 ?_
     exact aR (f2 (.tmp rfl (.tmp rfl .nil)) (⟨i2e (a := (0, 7)) (by rw [opI, if_neg (by omega), if_neg (by omega), if_pos (by omega), if_neg hA, if_pos ⟨by assumption, by assumption, by rw [getD_at h01]; assumption, by rw [getD_at h12]; assumption, by rw [getD_at k01]; assumption, by rw [getD_at k12]; assumption⟩]), rfl⟩))
    refine AW.skip (D2 ?_)
    exact aR (f2 (.tmp rfl (.tmp rfl .nil)) (⟨i2e (a := (3, 0)) (by rw [opI, if_neg (by omega), if_neg (by omega), if_pos (by omega), if_neg hA, if_neg (by rintro ⟨k1, k2, k3, k4, k5, k6⟩; rw [getD_at h01] at k3; rw [getD_at h12] at k4; rw [getD_at k01] at k5; rw [getD_at k12] at k6; first | omega | (simp_all; done))]), rfl⟩))
   iterate 4 refine oF ?_
   refine G2 ?_
   refine AW.condF rfl ?_
   refine AW.skip (D2 ?_)
   exact aR (f2 (.tmp rfl (.tmp rfl .nil)) (⟨i2e (a := (3, 0)) (by rw [opI, if_neg (by omega), if_neg (by omega), if_pos (by omega), if_neg hA, if_neg (by rintro ⟨k1, k2, k3, k4, k5, k6⟩; rw [getD_at h01] at k3; rw [getD_at h12] at k4; rw [getD_at k01] at k5; rw [getD_at k12] at k6; first | omega | (simp_all; done))]), rfl⟩))
  iterate 4 refine oF ?_
  refine G2 ?_
  iterate 4 refine oF ?_
  refine G2 ?_
  refine AW.condF rfl ?_
  refine AW.skip (D2 ?_)
  exact aR (f2 (.tmp rfl (.tmp rfl .nil)) (⟨i2e (a := (3, 0)) (by rw [opI, if_neg (by omega), if_neg (by omega), if_pos (by omega), if_neg hA, if_neg (by rintro ⟨k1, k2, k3, k4, k5, k6⟩; rw [getD_at h01] at k3; rw [getD_at h12] at k4; rw [getD_at k01] at k5; rw [getD_at k12] at k6; first | omega | (simp_all; done))]), rfl⟩))
 iterate 3 refine oF ?_
 refine G2 ?_
 refine AW.condF rfl ?_
 refine AW.skip (AW.seq ?_)
 have hl2 : e.args.length = 2 := by have := hn; omega
 have h01 : 0 < e.args.length := by omega
 have h12 : 1 < e.args.length := by omega
 have k01 : 0 < ks.length := by omega
 have k12 : 1 < ks.length := by omega
 have hA : ¬ (allI ks 1 = false ∧ allI ks 2 = false) := by rintro ⟨a, b⟩; simp_all
 refine AW.draw mo ?_
 refine N8 ?_
 refine LexK.r (b_alloc (r := [_, _, _, _, _, _, _, _]) rfl rfl ze37 rfl rfl rfl rfl) rfl ?_
 refine LexK.r (b_alloc (r := [_, _, _, _, _, _, _, _]) rfl rfl ze37 rfl rfl rfl rfl) rfl ?_
 refine N3 ?_
 refine AW.seq (D3 ?_)
 refine Z17 ?_ ?_ <;> intro g55
 rotate_left
 ·
  iterate 3 refine oF ?_
  refine G2 ?_
  iterate 2 refine oF ?_
  refine G2 ?_
  iterate 2 refine oF ?_
  refine G2 ?_
  iterate 4 refine oF ?_
  refine G2 ?_
  iterate 4 refine oF ?_
  refine G2 ?_
  refine AW.condF rfl ?_
  refine AW.skip (D2 ?_)
  exact aR (f2 (.tmp rfl (.tmp rfl .nil)) (⟨i2e (a := (3, 0)) (by rw [opI, if_neg (by omega), if_neg (by omega), if_pos (by omega), if_neg hA, if_neg (by rintro ⟨k1, k2, k3, k4, k5, k6⟩; rw [getD_at h01] at k3; rw [getD_at h12] at k4; rw [getD_at k01] at k5; rw [getD_at k12] at k6; first | omega | (simp_all; done))]), rfl⟩))
 refine G4 ?_
 refine Z17 ?_ ?_ <;> intro g60
 rotate_left
 ·
  iterate 2 refine oF ?_
  refine G2 ?_
  iterate 2 refine oF ?_
  refine G2 ?_
  iterate 4 refine oF ?_
  refine G2 ?_
  iterate 4 refine oF ?_
  refine G2 ?_
  refine AW.condF rfl ?_
  refine AW.skip (D2 ?_)
  exact aR (f2 (.tmp rfl (.tmp rfl .nil)) (⟨i2e (a := (3, 0)) (by rw [opI, if_neg (by omega), if_neg (by omega), if_pos (by omega), if_neg hA, if_neg (by rintro ⟨k1, k2, k3, k4, k5, k6⟩; rw [getD_at h01] at k3; rw [getD_at h12] at k4; rw [getD_at k01] at k5; rw [getD_at k12] at k6; first | omega | (simp_all; done))]), rfl⟩))
 refine G1 ?_
 refine Z52 fn60 (isColumn_any _) ?_
 refine Z7 ?_
 refine Z53 ?_ ?_ <;> intro g64
 rotate_left
 ·
  iterate 2 refine oF ?_
  refine G2 ?_
  iterate 4 refine oF ?_
  refine G2 ?_
  iterate 4 refine oF ?_
  refine G2 ?_
  refine AW.condF rfl ?_
  refine AW.skip (D2 ?_)
  exact aR (f2 (.tmp rfl (.tmp rfl .nil)) (⟨i2e (a := (3, 0)) (by rw [opI, if_neg (by omega), if_neg (by omega), if_pos (by omega), if_neg hA, if_neg (by rintro ⟨k1, k2, k3, k4, k5, k6⟩; rw [getD_at h01] at k3; rw [getD_at h12] at k4; rw [getD_at k01] at k5; rw [getD_at k12] at k6; first | omega | (simp_all; done))]), rfl⟩))
 refine G1 ?_
 refine Z52 fn60 (isColumn_any _) ?_
 refine Z7 ?_
 refine Z53 ?_ ?_ <;> intro g68
 ·
  refine Z14 ?_
  refine Z50 sl43 (idx_map (f := i64T) k01) ?_
  refine G3 ?_
  refine Z17 ?_ ?_ <;> intro g74
  ·
   refine Z14 ?_
   refine Z50 sl43 (idx_map (f := i64T) k12) ?_
   refine G4 ?_
   refine cD ?_ ?_ <;> intro h79
   ·
    refine D2 ?_
    exact aR (f2 (.tmp rfl (.tmp rfl .nil)) (⟨i2e (a := (0, 7)) (by rw [opI, if_neg (by omega), if_neg (by omega), if_pos (by omega), if_neg hA, if_pos ⟨by assumption, by assumption, by rw [getD_at h01]; assumption, by rw [getD_at h12]; assumption, by rw [getD_at k01]; assumption, by rw [getD_at k12]; assumption⟩]), rfl⟩))
   refine AW.skip (D2 ?_)
   exact aR (f2 (.tmp rfl (.tmp rfl .nil)) (⟨i2e (a := (3, 0)) (by rw [opI, if_neg (by omega), if_neg (by omega), if_pos (by omega), if_neg hA, if_neg (by rintro ⟨k1, k2, k3, k4, k5, k6⟩; rw [getD_at h01] at k3; rw [getD_at h12] at k4; rw [getD_at k01] at k5; rw [getD_at k12] at k6; first | omega | (simp_all; done))]), rfl⟩))
  iterate 4 refine oF ?_
  refine G2 ?_
  refine AW.condF rfl ?_
  refine AW.skip (D2 ?_)
  exact aR (f2 (.tmp rfl (.tmp rfl .nil)) (⟨i2e (a := (3, 0)) (by rw [opI, if_neg (by omega), if_neg (by omega), if_pos (by omega), if_neg hA, if_neg (by rintro ⟨k1, k2, k3, k4, k5, k6⟩; rw [getD_at h01] at k3; rw [getD_at h12] at k4; rw [getD_at k01] at k5; rw [getD_at k12] at k6; first | omega | (simp_all; done))]), rfl⟩))
 iterate 4 refine oF ?_
 refine G2 ?_
 iterate 4 refine oF ?_
 refine G2 ?_
 refine AW.condF rfl ?_
 refine AW.skip (D2 ?_)
 exact aR (f2 (.tmp rfl (.tmp rfl .nil)) (⟨i2e (a := (3, 0)) (by rw [opI, if_neg (by omega), if_neg (by omega), if_pos (by omega), if_neg hA, if_neg (by rintro ⟨k1, k2, k3, k4, k5, k6⟩; rw [getD_at h01] at k3; rw [getD_at h12] at k4; rw [getD_at k01] at k5; rw [getD_at k12] at k6; first | omega | (simp_all; done))]), rfl⟩))
open Q
theorem XW.exN {a b c d e f g : A} : XW (.c (.g [a, b, c, d, e, f, g, nA])) (.c (.g [a, b, c, d, e, f, g, .t (.sl .un 8 [])])) :=
  XW.g (xr4 (xr2 (xr1 (.cons XW.nilU .nil))))
theorem upd_sw {α : Type} {H : Nat → Option α} {a b : Nat} {x y : Option α} (h : a ≠ b) : ∀ j o, upd (upd H b y) a x j = some o → upd (upd H a x) b y j = some o := fun j o hj => by
  by_cases e1 : j = a
  · subst e1; rw [upd_same] at hj; rw [upd_ne _ _ h, upd_same]; exact hj
  · rw [upd_ne _ _ e1] at hj
    by_cases e2 : j = b
    · subst e2; rw [upd_same] at hj ⊢; exact hj
    · rw [upd_ne _ _ e2] at hj ⊢; rw [upd_ne _ _ e1]; exact hj
abbrev bx1 (s : Sp) (l : List Ex) (i : Nat) : List Ex := (l.take i).map fun a => (bndE s a).1
abbrev bx2 (s : Sp) (l : List Ex) (i : Nat) : List Int := (l.take i).map fun a => (bndE s a).2.1
theorem bx1_put {s : Sp} {l : List Ex} {i : Nat} {zs : List (List E.T)} (hi : i < l.length) (h : zs = (bx1 s l i).map exT') : zs ++ [exL (bndE s l[i]).1] = (bx1 s l (i + 1)).map exT' := by
  rw [h, bx1, bx1, qJ hi, qK, qK, qX, qX, exT_eq]
theorem bx2_put {s : Sp} {l : List Ex} {i : Nat} {zs : List (List E.T)} (hi : i < l.length) (h : zs = (bx2 s l i).map i64T) : zs ++ [i64T (bndE s l[i]).2.1] = (bx2 s l (i + 1)).map i64T := by
  rw [h, bx2, bx2, qJ hi, qK, qK, qX, qX]
theorem bx1_len {s : Sp} {l : List Ex} {i : Nat} {zs : List (List E.T)} (hi : i ≤ l.length) (h : zs = (bx1 s l i).map exT') : zs.length = i := by rw [h, qA, qA, List.length_take]; omega
theorem bx2_len {s : Sp} {l : List Ex} {i : Nat} {zs : List (List E.T)} (hi : i ≤ l.length) (h : zs = (bx2 s l i).map i64T) : zs.length = i := by rw [h, qA, qA, List.length_take]; omega
theorem bnd_fail {s : Sp} {e : Ex} {i : Nat} (hi : i < e.args.length) (h0 : ∀ a ∈ e.args.take i, (bndE s a).2.2 = 0) (h : (bndE s e.args[i]).2.2 ≠ 0) : bndE s e = (ex0, 0, (bndE s e.args[i]).2.2) := by
  have key : ∀ (l : List Ex) (i : Nat) (hi : i < l.length) (es : List Ex) (ks : List Int), (∀ a ∈ l.take i, (bndE s a).2.2 = 0) → (bndE s l[i]).2.2 ≠ 0 → lsB (l.map (bndE s)) es ks = ([], [], (bndE s l[i]).2.2) := by
    intro l
    induction l with
    | nil => intro i hi; simp at hi
    | cons x r ih =>
      intro i hi es ks h0 h
      rw [qL, lsB]
      cases i with
      | zero => rw [if_pos (show (bndE s x).2.2 ≠ 0 from h)]; rfl
      | succ i =>
        rw [if_neg (by rw [h0 x (by simp)]; simp)]
        exact ih i (by simpa using hi) _ _ (fun a ha => h0 a (by simp [ha])) h
  rw [bndE_eq, outB, key e.args i hi [] [] h0 h, if_pos h]
theorem bnd_all {s : Sp} {e : Ex} (h0 : ∀ a ∈ e.args, (bndE s a).2.2 = 0) : bndE s e = nodeB s (e.wA (e.args.map fun a => (bndE s a).1)) (e.args.map fun a => (bndE s a).2.1) := by
  rw [bndE_eq, outB, lsB_all _ [] [] fun x hx => by obtain ⟨a, ha, rfl⟩ := jE.1 hx; exact h0 a ha, if_neg (by simp)]
  simp only [List.nil_append, List.map_map]; rfl
theorem bnd_fm {s : Sp} (e : Ex) : fmE e → (bndE s e).2.2 = 0 → fmE (bndE s e).1 := by
  induction e using Ex.ind with
  | h e ih =>
    intro hf h
    have B := bnd_of h
    have hF := (fmE_iff e).1 hf
    refine (fmE_iff _).2 ⟨by rw [B.op, B.args, qA]; exact hF.1, fun a ha => ?_⟩
    rw [B.args] at ha
    obtain ⟨b, hb, rfl⟩ := jE.1 ha
    exact ih b hb (hF.2 b hb) (B.ok b hb)
theorem bnd_ts {s : Sp} (e : Ex) : tsE e → (bndE s e).2.2 = 0 → tsE (bndE s e).1 := by
  induction e using Ex.ind with
  | h e ih =>
    intro hf h
    have B := bnd_of h
    have hF := (tsE_iff e).1 hf
    refine (tsE_iff _).2 ⟨by rw [B.vs]; exact hF.1, fun a ha => ?_⟩
    rw [B.args] at ha
    obtain ⟨b, hb, rfl⟩ := jE.1 ha
    exact ih b hb (hF.2 b hb) (B.ok b hb)
theorem sf_ev0 {r : List RV} {e : Ex} (h : Sf e) (hc : cixE r.length e) (hf : fmE e) : Ev r e := by
  have h1 := (fmE_iff e).1 hf
  exact sf_ev h hc (by have := h1.1; omega) (fun a ha => by have := ((fmE_iff a).1 (h1.2 a ha)).1; omega) hf
theorem bind_of (sc : Sp) (e : Ex) (hs : okSp sc) (hf : fmE e) (ht : tsE e) (ih : ∀ a ∈ e.args, Pu 35 [spC sc, exC a] (bnX (bndE sc a))) (hop : (∀ a ∈ e.args, (bndE sc a).2.2 = 0) → ¬ (e.wA (e.args.map fun a => (bndE sc a).1)).op = 1 → ¬ (e.wA (e.args.map fun a => (bndE sc a).1)).op = 2 → Pu 80 [spC sc, exC (e.wA (e.args.map fun a => (bndE sc a).1)), iL .un (e.args.map fun a => (bndE sc a).2.1)] (i2X (opI (e.wA (e.args.map fun a => (bndE sc a).1)) (e.args.map fun a => (bndE sc a).2.1)))) : Pu 35 [spC sc, exC e] (bnX (bndE sc e)) := by
  have hn := (fmE_iff e).1 hf
  have htn := (tsE_iff e).1 ht
  have hl2 : e.args.length ≤ 2 := by have := hn.1; omega
  intro H
  refine Spec.enter Tryz.func35 rfl ?_
  refine AW.wk (wK 86 (l := [(0, .c (spC sc)), (1, .c (exC e))]) (ll := []) (H := (H))) ?_
  refine D5 ?_
  refine D1 ?_
  refine D1 ?_
  refine AW.seq (D5 ?_)
  refine AW.block (AW.tip 8 3 1 rfl (fun k1 hk1 => ?_))
  refine AW.tip 7 37 8 rfl (fun k0 hk0 => ?_)
  refine AW.loop (fun (i : Nat) s => ∃ (kt ku : Nat) (zs us : List (List E.T)), (i ≤ e.args.length ∧ H ku = none ∧ upd H ku (some (.tip 3 1 us.length)) kt = none ∧ zs = (bx1 sc e.args i).map exT' ∧ us = (bx2 sc e.args i).map i64T ∧ ∀ a ∈ e.args.take i, (bndE sc a).2.2 = 0) ∧ s = ⟨86, sp [(2, .lp 2 0), (3, .lp 3 0), (4, .lp 4 0), (5, .c (iC 0)), (6, .c (iC 0)), (7, .c (.a (.ts kt .ne 8 zs))), (8, .c (.a (.ts ku .ne 1 us))), (20, .c (exsC .un e.args)), (21, iX .i64 (((e.args.map exT').length : Nat) : Int)), (22, nX i)], lv [(2, .box (zSp sc)), (3, .box (zEx e)), (4, .box zL4)], (upd (upd H ku (some (.tip 3 1 us.length))) kt (some (.tip 37 8 zs.length)))⟩) (fun i => e.args.length - i) 0 ⟨_, by exact wK 86, k0, k1, [], [], ⟨qZ _, hk1, hk0, rfl, rfl, by simp⟩, rfl⟩ (fun i s hs => ?_)
  obtain ⟨kt, ku, zs, us, ⟨hi0, hku, hkt2, hzs, hus, h0⟩, rfl⟩ := hs
  refine D2 ?_
  refine AW.seq ?_
  refine cD ?_ ?_ <;> intro h23
  ·
    have hi := oI h23
    have hzl := bx1_len (by omega) hzs
    have hul := bx2_len (by omega) hus
    refine AW.skip (AW.seq (AW.block (D5 ?_)))
    refine D2 ?_
    refine Z16 fn35 (ih _ (qC hi)) ?_
    refine G8 ?_
    refine AW.seq (D3 ?_)
    refine cD ?_ ?_ <;> intro h34
    ·
      refine D1 ?_
      refine SeqK.xw 35 rfl XW.exN ?_
      refine G4 ?_
      exact aR (fin_x (x := .tup [_, _, _]) (H) (.cellL rfl rfl ty37 rfl rfl (.tmp rfl (.tmp rfl .nil))) rfl ((fun j o h => upd_sub (f := upd H ku _) hkt2 j o (upd_sub hku j o h))) (⟨bne (a := (ex0, 0, _)) (bnd_fail hi h0 h34).symm, rfl⟩))
    ·
      have he0 : (bndE sc e.args[i]).2.2 = 0 := qY.1 h34
      refine AW.skip (B3 ?_)
      refine SeqK.app1 rfl (hkt2) rfl el27 rfl rfl (by simp [hzl]; omega) rfl rfl (fun k40 hk40 => ?_)
      obtain ⟨hk40n, hk40x⟩ := upd_lt hk40
      refine SeqK.gh (Wk.gh (Wk.keep 86 [(2, .lp 2 0), (3, .lp 3 0), (4, .lp 4 0), (5, .c (iC 0)), (6, .c (iC 0)), (8, .c (.a (.ts ku .ne 1 us))), (20, .c (exsC .un e.args)), (21, iX .i64 (((e.args.map exT').length : Nat) : Int)), (22, nX i), (11, .lp 11 0), (12, .c (iC (bndE sc e.args[i]).2.1)), (40, .c (.a (.ts k40 .ne 8 (zs ++ [exL (bndE sc e.args[i]).1]))))] [(2, .box (zSp sc)), (3, .box (zEx e)), (4, .box zL4), (11, .box [.t (.v (.int .i64 (bndE sc e.args[i]).1.op)), .t (.v (.string (bndE sc e.args[i]).1.tb)), .t (.v (.string (bndE sc e.args[i]).1.nm)), .t (.v (.int .i64 (bndE sc e.args[i]).1.ix)), .t (.v (.int .i64 (bndE sc e.args[i]).1.vk)), .t (.v (.int .i64 (bndE sc e.args[i]).1.vn)), .t (.v (.string (bndE sc e.args[i]).1.vs)), .t (.sl .un 8 ((bndE sc e.args[i]).1.args.map exT'))])] (upd (upd H k40 (some (.tip 37 8 (zs ++ [exL (bndE sc e.args[i]).1]).length))) ku (some (.tip 3 1 us.length))) rfl ⟨rfl, rfl, rfl, rfl, rfl, rfl, rfl, rfl, rfl, rfl, rfl, rfl, trivial⟩ ⟨rfl, rfl, rfl, rfl, trivial⟩ (upd_sw (fun e => hk40n e.symm)) rfl)) ?_
      rintro s1 rfl
      refine G3 ?_
      refine SeqK.app1 rfl (by rw [upd_ne _ _ (fun e => hk40n e.symm)]; exact hku) rfl el43 rfl rfl (by simp [hul]; omega) rfl rfl (fun k44 hk44 => ?_)
      refine G2 ?_
      refine B3 ?_
      obtain ⟨hk44n, hk44⟩ := upd_lt hk44
      exact ⟨i + 1, _, Wk.keep 86 [(2, .lp 2 0), (3, .lp 3 0), (4, .lp 4 0), (5, .c (iC 0)), (6, .c (iC 0)), (7, .c (.a (.ts (k40) .ne 8 (zs ++ [exL (bndE sc e.args[i]).1])))), (8, .c (.a (.ts (k44) .ne 1 (us ++ [i64T (bndE sc e.args[i]).2.1])))), (20, .c (exsC .un e.args)), (21, iX .i64 (((e.args.map exT').length : Nat) : Int)), (22, iX .i64 (((i + 1) : Nat) : Int))] [(2, .box (zSp sc)), (3, .box (zEx e)), (4, .box zL4)] ((upd (upd H (k44) (some (.tip 3 1 (us ++ [i64T (bndE sc e.args[i]).2.1]).length))) (k40) (some (.tip 37 8 (zs ++ [exL (bndE sc e.args[i]).1]).length)))) rfl ⟨rfl, rfl, rfl, rfl, rfl, rfl, rfl, rfl, rfl, rfl, trivial⟩ ⟨rfl, rfl, rfl, trivial⟩ (upd_sw hk44n.symm) rfl, by omega, k40, k44, zs ++ [exL (bndE sc e.args[i]).1], us ++ [i64T (bndE sc e.args[i]).2.1], ⟨hi, hk44, by rw [upd_ne _ _ hk44n.symm]; exact hk40x, bx1_put hi hzs, bx2_put hi hus, fun a ha => by
        rw [qJ hi] at ha
        rcases jC.1 ha with ha | ha
        · exact h0 a ha
        · rw [jF.1 ha]; exact he0⟩, rfl⟩
  ·
    refine AW.exit ?_
    refine eth_e ?_
    refine eth_e ?_
    refine exit_here ?_
    refine AW.seq ?_
    obtain rfl := oE h23 hi0
    rw [bx1, qT] at hzs
    rw [bx2, qT] at hus
    rw [qT] at h0
    refine AW.xw 7 rfl (XW.ts.trans (XW.es hzs)) ?_
    refine AW.xw 8 rfl (XW.ts.trans (XW.es hus)) ?_
    have h0' : ∀ a ∈ e.args, (bndE sc a).2.2 = 0 := h0
    have hB := bnd_all h0'
    refine B4 ?_
    refine AW.seq (D3 ?_)
    refine AW.block (D2 ?_)
    refine cD ?_ ?_ <;> intro h50
    ·
      refine AW.seq (AW.draw mo ?_)
      refine N8 ?_
      exact aR (fin_x (x := .tup [_, _, _]) (H) (.cellL rfl rfl ty37 rfl rfl (.tmp rfl (.tmp rfl .nil))) rfl ((fun j o h => upd_sub (f := upd H ku _) hkt2 j o (upd_sub hku j o h))) (⟨bne (a := ((e.wA (e.args.map fun a => (bndE sc a).1)), e.vk, 0)) (by rw [hB, nodeB, if_pos (by assumption)]), rfl⟩))
    ·
      refine D2 ?_
      refine cD ?_ ?_ <;> intro h56
      ·
        refine D2 ?_
        refine Z16 fn79 (columnS_any sc (e.wA (e.args.map fun a => (bndE sc a).1)) hs) ?_
        refine G7 ?_
        refine AW.seq (D3 ?_)
        refine cD ?_ ?_ <;> intro h66
        ·
          refine D1 ?_
          refine SeqK.xw 67 rfl XW.exN ?_
          refine G4 ?_
          exact aR (fin_x (x := .tup [_, _, _]) (H) (.cellL rfl rfl ty37 rfl rfl (.tmp rfl (.tmp rfl .nil))) rfl ((fun j o h => upd_sub (f := upd H ku _) hkt2 j o (upd_sub hku j o h))) (⟨bne (a := (ex0, 0, _)) (by rw [hB, nodeB, if_neg (by assumption), if_pos (by assumption), if_pos (by assumption)]), rfl⟩))
        ·
          refine AW.skip (D4 ?_)
          refine D5 ?_
          exact aR (fin_x (x := .tup [_, _, _]) (H) (.cellL rfl rfl ty37 rfl rfl (.tmp rfl (.tmp rfl .nil))) rfl ((fun j o h => upd_sub (f := upd H ku _) hkt2 j o (upd_sub hku j o h))) (⟨bne (a := (((e.wA (e.args.map fun a => (bndE sc a).1))).wI (colS sc (e.wA (e.args.map fun a => (bndE sc a).1))).1, _, 0)) (by rw [hB, nodeB, if_neg (by assumption), if_pos (by assumption), if_neg (by assumption)]), rfl⟩))
      ·
        refine AW.skip (D3 ?_)
        refine sQ (q_call _ rfl fn80 rfl (hop h0' (by assumption) (by assumption)) rfl) ?_
        refine G5 ?_
        refine AW.seq (D3 ?_)
        refine cD ?_ ?_ <;> intro h81
        ·
          refine D1 ?_
          refine SeqK.xw 82 rfl XW.exN ?_
          refine G4 ?_
          exact aR (fin_x (x := .tup [_, _, _]) (H) (.cellL rfl rfl ty37 rfl rfl (.tmp rfl (.tmp rfl .nil))) rfl ((fun j o h => upd_sub (f := upd H ku _) hkt2 j o (upd_sub hku j o h))) (⟨bne (a := (ex0, 0, _)) (by rw [hB, nodeB, if_neg (by assumption), if_neg (by assumption), if_pos (by assumption)]), rfl⟩))
        ·
          refine AW.skip (D5 ?_)
          exact aR (fin_x (x := .tup [_, _, _]) (H) (.cellL rfl rfl ty37 rfl rfl (.tmp rfl (.tmp rfl .nil))) rfl ((fun j o h => upd_sub (f := upd H ku _) hkt2 j o (upd_sub hku j o h))) (⟨bne (a := ((e.wA (e.args.map fun a => (bndE sc a).1)), _, 0)) (by rw [hB, nodeB, if_neg (by assumption), if_neg (by assumption), if_neg (by assumption)]), rfl⟩))
open Q
theorem szS_map {f : Ex → Ex} : ∀ l : List Ex, (∀ a ∈ l, szE (f a) = szE a) → szS (l.map f) = szS l
  | [], _ => rfl
  | a :: r, h => by rw [qL, szS, szS, h a (by simp), szS_map r fun b hb => h b (by simp [hb])]
theorem dpS_map {f : Ex → Ex} : ∀ l : List Ex, (∀ a ∈ l, dpE (f a) = dpE a) → dpS (l.map f) = dpS l
  | [], _ => rfl
  | a :: r, h => by rw [qL, dpS, dpS, h a (by simp), dpS_map r fun b hb => h b (by simp [hb])]
structure gdX (e : Ex) : Prop where
  fm : fmE e
  ts : tsE e
  rg : rgX e
  sz : szE e ≤ 400
  dp : dpE e ≤ 51
theorem gdX.arg {e a : Ex} (h : gdX e) (ha : a ∈ e.args) : gdX a := by
  have h1 := h.sz; have h2 := h.dp
  rw [szE_eq] at h1; rw [dpE_eq] at h2
  have k1 := sz_mem ha; have k2 := dp_mem ha
  exact ⟨((fmE_iff e).1 h.fm).2 a ha, ((tsE_iff e).1 h.ts).2 a ha, ((rgX_iff e).1 h.rg).2 a ha, by omega, by omega⟩
theorem bnd_m {s : Sp} (e : Ex) : (bndE s e).2.2 = 0 → szE (bndE s e).1 = szE e ∧ dpE (bndE s e).1 = dpE e ∧ (rgX e → rgX (bndE s e).1) := by
  induction e using Ex.ind with
  | h e ih =>
    intro h
    have B := bnd_of h
    have hs := szS_map (f := fun a => (bndE s a).1) e.args fun a ha => (ih a ha (B.ok a ha)).1
    have hd := dpS_map (f := fun a => (bndE s a).1) e.args fun a ha => (ih a ha (B.ok a ha)).2.1
    refine ⟨by rw [szE_eq, szE_eq e, B.args, hs], by rw [dpE_eq, dpE_eq e, B.args, hd], fun hr => ?_⟩
    have hr' := (rgX_iff e).1 hr
    refine (rgX_iff _).2 ⟨⟨by rw [B.vn]; exact hr'.1.1, by rw [B.vs]; exact hr'.1.2.1, by rw [B.args, qA]; exact hr'.1.2.2⟩, fun a ha => ?_⟩
    rw [B.args] at ha
    obtain ⟨b, hb, rfl⟩ := jE.1 ha
    exact (ih b hb (B.ok b hb)).2.2 (hr'.2 b hb)
theorem gdX.bnd {s : Sp} {e : Ex} (h : gdX e) (h0 : (bndE s e).2.2 = 0) : gdX (bndE s e).1 := by
  have hm := bnd_m e h0
  exact ⟨bnd_fm e h.fm h0, bnd_ts e h.ts h0, hm.2.2 h.rg, by rw [hm.1]; exact h.sz, by rw [hm.2.1]; exact h.dp⟩
abbrev bdP (sc : Sp) (e : Ex) : Prop := okSp sc → Pu 35 [spC sc, exC e] (bnX (bndE sc e))
theorem bind_any {sc : Sp} (hs : okSp sc) (e : Ex) : gdX e → Pu 35 [spC sc, exC e] (bnX (bndE sc e)) := by
  induction e using Ex.ind with
  | h e ih =>
    intro hg
    have hn := (fmE_iff e).1 hg.fm
    have htn := (tsE_iff e).1 hg.ts
    refine bind_of sc e hs hg.fm hg.ts (fun a ha => ih a ha (hg.arg ha)) fun h0 h1 h2 => ?_
    have hfx : fmE (e.wA (e.args.map fun a => (bndE sc a).1)) := (fmE_iff _).2 ⟨by show arN e.op (e.args.map _).length; rw [qA]; exact hn.1, fun a ha => by
      obtain ⟨b, hb, rfl⟩ := jE.1 ha
      exact bnd_fm b (hn.2 b hb) (h0 b hb)⟩
    have htx : ∀ a ∈ ((e.wA (e.args.map fun a => (bndE sc a).1))).args, tsE a := fun a ha => by
      obtain ⟨b, hb, rfl⟩ := jE.1 ha
      exact bnd_ts b (htn.2 b hb) (h0 b hb)
    have hev : allI (e.args.map fun a => (bndE sc a).2.1) 1 = true → ((e.wA (e.args.map fun a => (bndE sc a).1))).op = 7 ∨ ((e.wA (e.args.map fun a => (bndE sc a).1))).op = 8 → ∀ h : 1 < ((e.wA (e.args.map fun a => (bndE sc a).1))).args.length, cnB icB ((e.wA (e.args.map fun a => (bndE sc a).1))).args[1] = false → Ev [] ((e.wA (e.args.map fun a => (bndE sc a).1))).args[1] := fun hk _ h hc => by
      have h' : 1 < e.args.length := by have : 1 < ((e.args.map fun a => (bndE sc a).1)).length := h; rwa [qA] at this
      have e1 : ((e.wA (e.args.map fun a => (bndE sc a).1))).args[1] = (bndE sc e.args[1]).1 := by show ((e.args.map fun a => (bndE sc a).1))[1] = _; rw [qV]
      rw [e1] at hc ⊢
      have hm := qC h'
      have k1 := all_fit hk (bndE sc e.args[1]).2.1 (jE.2 ⟨_, hm, rfl⟩)
      exact sf_ev0 (bnd_sf _ (hn.2 _ hm) (h0 _ hm) (by omega)) (cix_const _ _ hc) (bnd_fm _ (hn.2 _ hm) (h0 _ hm))
    refine operator_any sc (e.wA (e.args.map fun a => (bndE sc a).1)) (e.args.map fun a => (bndE sc a).2.1) hfx (by rw [qA, qA]) ⟨h1, h2⟩ htx hev fun _ => of_any _ (okE_of _ ?_ ?_ ?_)
    · have hr' := (rgX_iff e).1 hg.rg
      refine (rgX_iff _).2 ⟨⟨hr'.1.1, hr'.1.2.1, by show (e.args.map _).length ≤ _; rw [qA]; exact hr'.1.2.2⟩, fun a ha => ?_⟩
      obtain ⟨b, hb, rfl⟩ := jE.1 ha
      exact (bnd_m b (h0 b hb)).2.2 (hr'.2 b hb)
    · rw [szE_eq]
      show 1 + szS (e.args.map fun a => (bndE sc a).1) ≤ _
      rw [szS_map e.args fun a ha => (bnd_m a (h0 a ha)).1, ← szE_eq]; exact hg.sz
    · rw [dpE_eq]
      show 1 + dpS (e.args.map fun a => (bndE sc a).1) ≤ _
      rw [dpS_map e.args fun a ha => (bnd_m a (h0 a ha)).2.1, ← dpE_eq]; exact hg.dp
theorem bdP_of {sc : Sp} {e : Ex} (h : gdX e) : bdP sc e := fun hs => bind_any hs e h
abbrev cnX (r : Ex × Int) : X := .tup [exC r.1, iC r.2]
theorem cne {a b : Ex × Int} (h : a = b) : cnX a = cnX b := by rw [h]
theorem condition_any (sc : Sp) (e : Ex) (hs : okSp sc) (hg : ¬ e.op = 0 → bdP sc e) : Pu 67 [spC sc, exC e] (cnX (cndB sc e)) := by
 intro H
 refine Spec.enter Tryz.func67 rfl ?_
 refine AW.wk (wK 31 (l := [(0, .c (spC sc)), (1, .c (exC e))]) (ll := []) (H := (H))) ?_
 refine D4 ?_
 refine AW.seq (D4 ?_)
 refine cD ?_ ?_ <;> intro h11
 ·
  refine D1 ?_
  refine SeqK.xw 12 rfl XW.exN ?_
  refine G2 ?_
  exact aR (f2 (.cellL rfl rfl ty37 rfl rfl (.tmp rfl .nil)) (⟨cne (a := (ex0, 0)) (by rw [cndB, if_pos h11]), rfl⟩))
 refine AW.skip (D2 ?_)
 refine Z16 fn35 (hg h11 hs) ?_
 refine G8 ?_
 refine AW.seq (AW.block (D3 ?_))
 refine cD ?_ ?_ <;> intro h20
 ·
  refine D1 ?_
  refine SeqK.xw 23 rfl XW.exN ?_
  refine G3 ?_
  exact aR (f2 (.cellL rfl rfl ty37 rfl rfl (.tmp rfl .nil)) (⟨cne (a := (ex0, _)) (by rw [cndB, if_neg h11, if_pos h20]), rfl⟩))
 refine D1 ?_
 refine Z16 fn110 (fits_any _ _) ?_
 refine G2 ?_
 refine AW.cond _ rfl (fun h25 => ?_) (fun h25 => ?_)
 ·
  refine D1 ?_
  refine SeqK.xw 29 rfl XW.exN ?_
  refine G2 ?_
  exact aR (f2 (.cellL rfl rfl ty37 rfl rfl (.tmp rfl .nil)) (⟨cne (a := (ex0, 6)) (by rw [cndB, if_neg h11, if_neg h20, if_pos (by simpa using h25)]), rfl⟩))
 refine AW.skip (D3 ?_)
 exact aR (f2 (.cellL rfl rfl ty37 rfl rfl (.tmp rfl .nil)) (⟨cne (a := ((bndE sc e).1, 0)) (by rw [cndB, if_neg h11, if_neg h20, if_neg (by simpa using h25)]), rfl⟩))
open Q
theorem upd_ap2 {α : Type} {H : Nat → Option α} {a k k2 : Nat} {w y x : Option α} (h0 : H a = none) (h1 : k ≠ a) (h2 : k2 ≠ k) : ∀ j o, upd (upd H k2 x) k y j = some o → upd (upd (upd (upd H a w) k y) a none) k2 x j = some o := fun j o h => by
  by_cases e1 : j = k2
  · subst e1; rw [upd_ne _ _ h2, upd_same] at h; rw [upd_same]; exact h
  · rw [upd_ne _ _ e1]
    by_cases e2 : j = k
    · subst e2; rw [upd_same] at h; rw [upd_ne _ _ h1, upd_same]; exact h
    · rw [upd_ne _ _ e2, upd_ne _ _ e1] at h
      by_cases e3 : j = a
      · subst e3; rw [h0] at h; cases h
      · rw [upd_ne _ _ e3, upd_ne _ _ e2, upd_ne _ _ e3]; exact h
theorem upd_lt2 {α : Type} {H : Nat → Option α} {a k k2 : Nat} {w y : α} (h : upd (upd H a (some w)) k (some y) k2 = none) (h0 : H a = none) : k2 ≠ k ∧ H k2 = none := by
  obtain ⟨h1, h2⟩ := upd_lt h
  exact ⟨h1, (upd_lt h2).2⟩
theorem okSp0 : okSp sp0 := ⟨qZ _, qZ _, fun x hx => by simp at hx, fun x hx => by simp at hx⟩
section
variable {t : Tb}
theorem tup_e1 {l : List (List Ex)} {i : Nat} {a : List (List Ex)} {b : List (List RV)} {R : List (List Ex) × List (List RV) × Int} (hi : i < l.length) (hI : tupB t (l.drop i) a b = R) (h : l[i].length ≠ t.cols.length) : ([], [], 1) = R := by
  rw [qH hi, tupB, if_pos h] at hI; exact hI
theorem tup_e2 {l : List (List Ex)} {i : Nat} {a : List (List Ex)} {b : List (List RV)} {R : List (List Ex) × List (List RV) × Int} {q : List Ex × List RV × Int} (hi : i < l.length) (hI : tupB t (l.drop i) a b = R) (h : ¬ l[i].length ≠ t.cols.length) (hq : tplB t l[i] 0 [] [] = q) (h2 : q.2.2 ≠ 0) : ([], [], q.2.2) = R := by
  subst hq
  rw [qH hi, tupB, if_neg h, if_pos h2] at hI; exact hI
theorem tup_st {l : List (List Ex)} {i : Nat} {a : List (List Ex)} {b : List (List RV)} {R : List (List Ex) × List (List RV) × Int} {es : List Ex} {vs : List RV} (hi : i < l.length) (hI : tupB t (l.drop i) a b = R) (h : ¬ l[i].length ≠ t.cols.length) (hq : tplB t l[i] 0 [] [] = (es, vs, 0)) : tupB t (l.drop (i + 1)) (a ++ [es]) (b ++ [vs]) = R := by
  rw [qH hi, tupB, if_neg h, hq, if_neg (by simp)] at hI; exact hI
theorem tup_en {l : List (List Ex)} {a : List (List Ex)} {b : List (List RV)} {R : List (List Ex) × List (List RV) × Int} (hI : tupB t (l.drop l.length) a b = R) : (a, b, 0) = R := by
  rw [List.drop_length, tupB] at hI; exact hI
theorem tpl_e1 {u : List Ex} {j : Nat} {es : List Ex} {vs : List RV} {q : List Ex × List RV × Int} (hj : j < u.length) (hJ : tplB t (u.drop j) j es vs = q) (h : (bndE sp0 u[j]).2.2 ≠ 0) : ([], [], (bndE sp0 u[j]).2.2) = q := by
  rw [qH hj, tplB, if_pos h] at hJ; exact hJ
theorem tpl_e2 {u : List Ex} {j : Nat} {es : List Ex} {vs : List RV} {q : List Ex × List RV × Int} (hj : j < u.length) (hJ : tplB t (u.drop j) j es vs = q) (h : ¬ (bndE sp0 u[j]).2.2 ≠ 0) (h2 : fitI (bndE sp0 u[j]).2.1 (t.cols.getD j co0).ty = false) : ([], [], 6) = q := by
  rw [qH hj, tplB, if_neg h, if_pos h2] at hJ; exact hJ
theorem tpl_e3 {u : List Ex} {j : Nat} {es : List Ex} {vs : List RV} {q : List Ex × List RV × Int} (hj : j < u.length) (hJ : tplB t (u.drop j) j es vs = q) (h : ¬ (bndE sp0 u[j]).2.2 ≠ 0) (h2 : ¬ fitI (bndE sp0 u[j]).2.1 (t.cols.getD j co0).ty = false) (h3 : (cstE (bndE sp0 u[j]).1).2 ≠ 0) : ([], [], (cstE (bndE sp0 u[j]).1).2) = q := by
  rw [qH hj, tplB, if_neg h, if_neg h2, if_pos h3] at hJ; exact hJ
theorem tpl_st {u : List Ex} {j : Nat} {es : List Ex} {vs : List RV} {q : List Ex × List RV × Int} (hj : j < u.length) (hJ : tplB t (u.drop j) j es vs = q) (h : ¬ (bndE sp0 u[j]).2.2 ≠ 0) (h2 : ¬ fitI (bndE sp0 u[j]).2.1 (t.cols.getD j co0).ty = false) (h3 : ¬ (cstE (bndE sp0 u[j]).1).2 ≠ 0) : tplB t (u.drop (j + 1)) (j + 1) (es ++ [(bndE sp0 u[j]).1]) (vs ++ [(cstE (bndE sp0 u[j]).1).1]) = q := by
  rw [qH hj, tplB, if_neg h, if_neg h2, if_neg h3] at hJ; exact hJ
theorem tpl_en {u : List Ex} {j : Nat} {es : List Ex} {vs : List RV} {q : List Ex × List RV × Int} (hj : j = u.length) (hJ : tplB t (u.drop j) j es vs = q) : q = (es, vs, 0) := by
  subst hj; rw [List.drop_length, tplB] at hJ; exact hJ.symm
end
theorem ex_put {es : List Ex} {zs : List (List E.T)} {e : Ex} (h : zs = es.map exT') : zs ++ [exL e] = (es ++ [e]).map exT' := by rw [h, qK, qX, exT_eq]
theorem mp_put {α : Type} {f : α → List E.T} {es : List α} {zs : List (List E.T)} {e : α} (h : zs = es.map f) : zs ++ [f e] = (es ++ [e]).map f := by rw [h, qK, qX]
abbrev tuX (r : List (List Ex) × List (List RV) × Int) : X := .tup [valsC .un r.1, rowsC .un r.2.1, iC r.2.2]
theorem tue {a b : List (List Ex) × List (List RV) × Int} (h : a = b) : tuX a = tuX b := by rw [h]
theorem tuples_any (t : Tb) (l : List (List Ex)) (z : Nz) (hl : l.length ≤ 1000000) (hcl : t.cols.length ≤ 1000000) (hty : ∀ c ∈ t.cols, c.ty = 1 ∨ c.ty = 2) (hg : ∀ u ∈ l, ∀ e ∈ u, gdX e) : Pu 65 [tbC t, valsC z l] (tuX (tupB t l [] [])) := by
 intro H
 refine Spec.enter Tryz.func65 rfl ?_
 refine AW.wk (wK 85 (l := [(0, .c (tbC t)), (1, .c (valsC z l))]) (ll := []) (H := (H))) ?_
 refine D4 ?_
 refine D1 ?_
 refine D1 ?_
 refine AW.seq (D4 ?_)
 refine AW.block (AW.tip 8 55 1 rfl (fun k1 hk1 => ?_))
 refine AW.tip 7 27 1 rfl (fun k0 hk0 => ?_)
 refine AW.loop (fun (i : Nat) s => ∃ (kt ku : Nat) (zs us : List (List E.T)) (a : List (List Ex)) (b : List (List RV)), (i ≤ l.length ∧ H ku = none ∧ upd H ku (some (.tip 55 1 us.length)) kt = none ∧ zs = a.map exLT ∧ us = b.map rowT ∧ zs.length = i ∧ us.length = i ∧ tupB t (l.drop i) a b = tupB t l [] []) ∧ s = ⟨85, sp [(2, .lp 2 0), (4, .c (.a nA)), (5, .c (.a nA)), (6, .c (iC 0)), (7, .c (.a (.ts kt .ne 1 zs))), (8, .c (.a (.ts ku .ne 1 us))), (19, .c (valsC z l)), (20, iX .i64 (((l.map exLT).length : Nat) : Int)), (21, nX i)], lv [(2, .box (zTb t))], (upd (upd H ku (some (.tip 55 1 us.length))) kt (some (.tip 27 1 zs.length)))⟩) (fun i => l.length - i) 0 ⟨_, by exact wK 85, k0, k1, [], [], [], [], ⟨qZ _, hk1, hk0, rfl, rfl, rfl, rfl, rfl⟩, rfl⟩ (fun i s hs => ?_)
 obtain ⟨kt, ku, zs, us, a, b, ⟨hi0, hku, hkt, hzs, hus, hzl, hul, hI⟩, rfl⟩ := hs
 refine D2 ?_
 refine AW.seq ?_
 refine cD ?_ ?_ <;> intro h22
 rotate_left
 ·
  refine AW.exit ?_
  refine eth_e ?_
  refine eth_e ?_
  refine exit_here ?_
  refine AW.seq ?_
  obtain rfl := oE h22 hi0
  have hE := tup_en hI
  refine AW.xw 7 rfl (XW.ts.trans (XW.es hzs)) ?_
  refine AW.xw 8 rfl (XW.ts.trans (XW.es hus)) ?_
  refine B5 ?_
  exact aR (fin_x (x := .tup [_, _, _]) (H) (.tmp rfl (.tmp rfl (.tmp rfl .nil))) rfl ((fun j o h => upd_sub (f := upd H ku _) hkt j o (upd_sub hku j o h))) (⟨tue (a := (a, b, 0)) hE, rfl⟩))
 have hi := oI h22
 have hgu := hg _ (qC hi)
 refine AW.skip (AW.seq (AW.block (D3 ?_)))
 refine AW.seq (D7 ?_)
 refine cD ?_ ?_ <;> intro h30
 ·
  refine D3 ?_
  refine AW.xw 4 rfl (XW.nilU (sz := 1)) ?_
  refine AW.xw 5 rfl (XW.nilU (sz := 1)) ?_
  exact aR (fin_x (x := .tup [_, _, _]) (H) (.tmp rfl (.tmp rfl (.tmp rfl .nil))) rfl ((fun j o h => upd_sub (f := upd H ku _) hkt j o (upd_sub hku j o h))) (⟨tue (a := ([], [], 1)) (tup_e1 hi hI (by (try simp only [qA] at *); omega)), rfl⟩))
 have hlu : ¬ l[i].length ≠ t.cols.length := by (try simp only [qA] at *); omega
 refine AW.skip (D1 ?_)
 refine D1 ?_
 refine AW.seq (D4 ?_)
 refine AW.block (AW.tip 12 35 3 rfl (fun k3 hk3 => ?_))
 refine AW.tip 11 37 8 rfl (fun k2 hk2 => ?_)
 refine AW.loop (fun (j : Nat) s => ∃ (kv kw : Nat) (xs ys : List (List E.T)) (es : List Ex) (vs : List RV), (j ≤ l[i].length ∧ (upd (upd H ku (some (.tip 55 1 us.length))) kt (some (.tip 27 1 zs.length))) kw = none ∧ upd (upd (upd H ku (some (.tip 55 1 us.length))) kt (some (.tip 27 1 zs.length))) kw (some (.tip 35 3 ys.length)) kv = none ∧ xs = es.map exT' ∧ ys = vs.map rvT ∧ xs.length = j ∧ ys.length = j ∧ tplB t (l[i].drop j) j es vs = tplB t l[i] 0 [] []) ∧ s = ⟨85, sp [(2, .lp 2 0), (4, .c (.a nA)), (5, .c (.a nA)), (6, .c (iC 0)), (7, .c (.a (.ts kt .ne 1 zs))), (8, .c (.a (.ts ku .ne 1 us))), (19, .c (valsC z l)), (20, iX .i64 (((l.map exLT).length : Nat) : Int)), (21, nX i), (10, .c (exsC .un l[i])), (11, .c (.a (.ts kv .ne 8 xs))), (12, .c (.a (.ts kw .ne 3 ys))), (31, .c (exsC .un l[i])), (32, iX .i64 (((l[i].map exT').length : Nat) : Int)), (33, nX j)], lv [(2, .box (zTb t))], (upd (upd (upd (upd H ku (some (.tip 55 1 us.length))) kt (some (.tip 27 1 zs.length))) kw (some (.tip 35 3 ys.length))) kv (some (.tip 37 8 xs.length)))⟩) (fun j => l[i].length - j) 0 ⟨_, Wk.keep 85 [(2, .lp 2 0), (4, .c (.a nA)), (5, .c (.a nA)), (6, .c (iC 0)), (7, .c (.a (.ts kt .ne 1 zs))), (8, .c (.a (.ts ku .ne 1 us))), (19, .c (valsC z l)), (20, iX .i64 (((l.map exLT).length : Nat) : Int)), (21, nX i), (10, .c (exsC .un l[i])), (11, .c (.a (.ts (k2) .ne 8 ([])))), (12, .c (.a (.ts (k3) .ne 3 ([])))), (31, .c (exsC .un l[i])), (32, iX .i64 (((l[i].map exT').length : Nat) : Int)), (33, iX .i64 ((((0 : Nat)) : Nat) : Int))] [(2, .box (zTb t))] ((upd (upd (upd (upd H ku (some (.tip 55 1 us.length))) kt (some (.tip 27 1 zs.length))) (k3) (some (.tip 35 3 ([]).length))) (k2) (some (.tip 37 8 ([]).length)))) rfl ⟨rfl, rfl, rfl, rfl, rfl, rfl, rfl, rfl, rfl, rfl, rfl, rfl, rfl, rfl, rfl, trivial⟩ ⟨rfl, trivial⟩ (fun _ _ h => h) rfl, k2, k3, [], [], [], [], ⟨qZ _, hk3, hk2, rfl, rfl, rfl, rfl, rfl⟩, rfl⟩ (fun j s hs => ?_)
 obtain ⟨kv, kw, xs, ys, es, vs, ⟨hj0, hkw, hkv, hxs, hys, hxl, hyl, hJ⟩, rfl⟩ := hs
 refine D2 ?_
 refine AW.seq ?_
 refine cD ?_ ?_ <;> intro h34
 rotate_left
 ·
  refine AW.exit ?_
  refine eth_e ?_
  refine eth_e ?_
  refine exit_here ?_
  have hjl : j = l[i].length := by rw [qA] at h34; omega
  have hq := tpl_en hjl hJ
  refine AW.xw 11 rfl (XW.ts.trans (XW.es hxs)) ?_
  refine AW.xw 12 rfl (XW.ts.trans (XW.es hys)) ?_
  refine AW.wk (Wk.keep 85 [(2, .lp 2 0), (4, .c (.a nA)), (5, .c (.a nA)), (6, .c (iC 0)), (7, .c (.a (.ts kt .ne 1 zs))), (8, .c (.a (.ts ku .ne 1 us))), (19, .c (valsC z l)), (20, iX .i64 (((l.map exLT).length : Nat) : Int)), (21, nX i), (11, .c (exsC .un es)), (12, .c (rowC .un vs))] [(2, .box (zTb t))] ((upd (upd H ku (some (.tip 55 1 us.length))) kt (some (.tip 27 1 zs.length)))) rfl ⟨rfl, rfl, rfl, rfl, rfl, rfl, rfl, rfl, rfl, rfl, rfl, trivial⟩ ⟨rfl, trivial⟩ (fun j o h => upd_sub (f := upd (upd (upd H ku (some (.tip 55 1 us.length))) kt (some (.tip 27 1 zs.length))) kw _) hkv j o (upd_sub (f := (upd (upd H ku (some (.tip 55 1 us.length))) kt (some (.tip 27 1 zs.length)))) hkw j o h)) rfl) ?_
  refine B3 ?_
  refine SeqK.app1 rfl hkt rfl el30 rfl rfl (by simp [hzl]; omega) rfl rfl (fun k77 hk77 => ?_)
  obtain ⟨hk77n, hk77x⟩ := upd_lt hk77
  refine G3 ?_
  refine SeqK.app rfl rfl el45 rfl (by rw [upd_ne _ _ hk77n.symm, upd_same]) rfl (by simp [hul]; omega) rfl rfl (fun k81 hk81 => ?_)
  refine G2 ?_
  refine B3 ?_
  obtain ⟨hk81n, hk81⟩ := upd_lt2 hk81 hku
  exact ⟨i + 1, _, by exact Wk.keep 85 _ _ _ rfl ⟨rfl, rfl, rfl, rfl, rfl, rfl, rfl, rfl, rfl, trivial⟩ ⟨rfl, trivial⟩ (upd_ap2 hku hk77n hk81n) rfl, by omega, k77, k81, zs ++ [exLT es], us ++ [rowT vs], a ++ [es], b ++ [vs], ⟨hi, hk81, by rw [upd_ne _ _ hk81n.symm]; exact hk77x, mp_put hzs, mp_put hus, by simp [hzl], by simp [hul], tup_st hi hI hlu hq⟩, rfl⟩
 have hj := oI h34
 have hge : gdX l[i][j] := hgu _ (qC hj)
 have hjc : j < t.cols.length := by omega
 have hgc : t.cols.getD j co0 = t.cols[j] := getD_at hjc
 refine AW.skip (AW.seq (AW.block (sR (sM ?_))))
 refine Z12 Fx.sl27 (idx_ex hj) ?_
 refine Z13 (.g [_, _, _, _, _, _, _, _]) Fx.ty37 ?_
 refine Z20 (r := [_, _, _, _, _, _, _, _]) Fx.ze37 ?_
 refine sA ?_
 refine Z3 (r := [_, _, _, _, _, _, _, _]) Fx.ty37 ?_
 refine Z4 (sR (Z19 (zs := [_, _, _]) (r := [_, _, _]) [(0, 1), (1, 1), (2, 1)] Fx.ze92 Fx.bp92 ?_))
 refine SeqK.xw 39 rfl (XW.g (.cons (XW.nilU (sz := 7)) (.cons (XW.nilU (sz := 5)) (.cons XW.reA .nil)))) ?_
 refine G1 ?_
 refine Z16 fn35 (bind_any okSp0 l[i][j] hge) ?_
 refine G8 ?_
 refine AW.seq (D3 ?_)
 refine cD ?_ ?_ <;> intro h46
 ·
  refine D4 ?_
  refine AW.xw 4 rfl (XW.nilU (sz := 1)) ?_
  refine AW.xw 5 rfl (XW.nilU (sz := 1)) ?_
  exact aR (fin_x (x := .tup [_, _, _]) (H) (.tmp rfl (.tmp rfl (.tmp rfl .nil))) rfl ((fun j o h => upd_sub (f := upd (upd (upd H ku (some (.tip 55 1 us.length))) kt (some (.tip 27 1 zs.length))) kw _) hkv j o (upd_sub (f := (upd (upd H ku (some (.tip 55 1 us.length))) kt (some (.tip 27 1 zs.length)))) hkw j o (upd_sub (f := upd H ku _) hkt j o (upd_sub hku j o h))))) (⟨tue (a := ([], [], _)) (tup_e2 hi hI hlu (tpl_e1 hj hJ h46).symm h46), rfl⟩))
 have hb0 : (bndE sp0 l[i][j]).2.2 = 0 := qY.1 h46
 refine AW.skip (AW.seq (D7 ?_))
 refine Z16 fn110 (fits_any _ _) ?_
 refine G2 ?_
 refine AW.cond _ rfl (fun h56 => ?_) (fun h56 => ?_)
 ·
  have hft : fitI (bndE sp0 l[i][j]).2.1 (t.cols.getD j co0).ty = false := by rw [hgc]; exact bnt h56
  refine D3 ?_
  refine AW.xw 4 rfl (XW.nilU (sz := 1)) ?_
  refine AW.xw 5 rfl (XW.nilU (sz := 1)) ?_
  exact aR (fin_x (x := .tup [_, _, _]) (H) (.tmp rfl (.tmp rfl (.tmp rfl .nil))) rfl ((fun j o h => upd_sub (f := upd (upd (upd H ku (some (.tip 55 1 us.length))) kt (some (.tip 27 1 zs.length))) kw _) hkv j o (upd_sub (f := (upd (upd H ku (some (.tip 55 1 us.length))) kt (some (.tip 27 1 zs.length)))) hkw j o (upd_sub (f := upd H ku _) hkt j o (upd_sub hku j o h))))) (⟨tue (a := ([], [], 6)) (tup_e2 hi hI hlu (tpl_e2 hj hJ h46 hft).symm (by decide)), rfl⟩))
 have hft : ¬ fitI (bndE sp0 l[i][j]).2.1 (t.cols.getD j co0).ty = false := by rw [hgc, bnf h56]; simp
 have hk3 : (bndE sp0 l[i][j]).2.1 ≠ 3 := by
  have h1 := jJ (bnf h56)
  have h2 := hty _ (qC hjc)
  omega
 refine AW.skip (D1 ?_)
 refine Z16 fn111 (constant_any (bndE sp0 l[i][j]).1 (hge.bnd hb0).fm (hge.bnd hb0).ts (fun hc => sf_ev0 (bnd_sf _ hge.fm hb0 hk3) (cix_const _ _ hc) (hge.bnd hb0).fm)) ?_
 refine G6 ?_
 refine AW.seq (D3 ?_)
 refine cD ?_ ?_ <;> intro h63
 ·
  refine D4 ?_
  refine AW.xw 4 rfl (XW.nilU (sz := 1)) ?_
  refine AW.xw 5 rfl (XW.nilU (sz := 1)) ?_
  exact aR (fin_x (x := .tup [_, _, _]) (H) (.tmp rfl (.tmp rfl (.tmp rfl .nil))) rfl ((fun j o h => upd_sub (f := upd (upd (upd H ku (some (.tip 55 1 us.length))) kt (some (.tip 27 1 zs.length))) kw _) hkv j o (upd_sub (f := (upd (upd H ku (some (.tip 55 1 us.length))) kt (some (.tip 27 1 zs.length)))) hkw j o (upd_sub (f := upd H ku _) hkt j o (upd_sub hku j o h))))) (⟨tue (a := ([], [], _)) (tup_e2 hi hI hlu (tpl_e3 hj hJ h46 hft h63).symm h63), rfl⟩))
 refine AW.skip (AW.drawO [0, 1, 2, 4, 5, 6, 3, 7, 8, 9] mo (by kernel_rfl) ?_)
 refine LexO.q rfl (by kernel_rfl) (q_mvC rfl rfl) rfl rfl rfl ?_
 refine LexO.r rfl (by kernel_rfl) (b_load (r := .g [_, _, _, _, _, _, _, _]) rfl ty37 rfl rfl rfl rfl rfl rfl) rfl ?_
 refine LexO.q rfl (by kernel_rfl) (q_buildSlice _ rfl el27 rfl (by decide) rfl) rfl rfl rfl ?_
 refine LexO.q rfl (by kernel_rfl) (q_mvC rfl rfl) rfl rfl rfl ?_
 refine LexO.r rfl (by kernel_rfl) (b_load (r := .g [_, _, _]) rfl ty35 rfl rfl rfl rfl rfl rfl) rfl ?_
 refine LexO.q rfl (by kernel_rfl) (q_buildSlice _ rfl el55 rfl (by decide) rfl) rfl rfl rfl ?_
 refine LexO.app1 rfl (by kernel_rfl) (by kernel_rfl) (by kernel_rfl) rfl hkv rfl el27 rfl rfl (by simp [hxl]; omega) rfl rfl (fun k68 hk68 => ?_)
 obtain ⟨hk68n, hk68x⟩ := upd_lt hk68
 refine LexO.app rfl (by kernel_rfl) (by kernel_rfl) (by kernel_rfl) rfl rfl el55 rfl (by rw [upd_ne _ _ hk68n.symm, upd_same]) rfl (by simp [hyl]; omega) rfl rfl (fun k72 hk72 => ?_)
 refine LexO.q rfl (by kernel_rfl) (q_asC rfl rfl) rfl rfl rfl ?_
 refine LexO.q rfl (by kernel_rfl) (q_asC rfl rfl) rfl rfl rfl ?_
 refine LexO.nil (by kernel_rfl) ?_
 refine B3 ?_
 obtain ⟨hk72n, hk72⟩ := upd_lt2 hk72 hkw
 exact ⟨j + 1, _, by exact Wk.keep 85 _ _ _ rfl ⟨rfl, rfl, rfl, rfl, rfl, rfl, rfl, rfl, rfl, rfl, rfl, rfl, rfl, rfl, rfl, trivial⟩ ⟨rfl, trivial⟩ (upd_ap2 hkw hk68n hk72n) rfl, by omega, k68, k72, xs ++ [exL (bndE sp0 l[i][j]).1], ys ++ [rvT (cstE (bndE sp0 l[i][j]).1).1], es ++ [(bndE sp0 l[i][j]).1], vs ++ [(cstE (bndE sp0 l[i][j]).1).1], ⟨hj, hk72, by rw [upd_ne _ _ hk72n.symm]; exact hk68x, ex_put hxs, mp_put hys, by simp [hxl], by simp [hyl], tpl_st hj hJ h46 hft h63⟩, rfl⟩
open Q
theorem okAln {t : Tb} (h : t.cols.length ≤ 1000000) : okSp (alnS t) := by
  refine ⟨by show 1 ≤ _; decide, qZ _, fun x hx => ?_, fun x hx => ?_⟩
  · have hx : x ∈ [(⟨t.nm, t, 0⟩ : Sr)] := hx
    rw [jF.1 hx]; exact h
  · have hx : x ∈ [(⟨t.nm, t, 0⟩ : Sr)] := hx
    rw [jF.1 hx]; exact ⟨Int.le_refl _, by show (0 : Int) ≤ _; decide⟩
abbrev asX (r : List As × Int) : X := .tup [assC .un r.1, iC r.2]
theorem ase {a b : List As × Int} (h : a = b) : asX a = asX b := by rw [h]
section
variable {t : Tb} {l out : List As} {i : Nat} {R : List As × Int}
theorem as_e4 (hi : i < l.length) (hI : asgB t (l.drop i) out = R) (h : colI t.cols l[i].col < 0) : ([], 4) = R := by
  rw [qH hi, asgB, if_pos h] at hI; exact hI
theorem as_e5 (hi : i < l.length) (hI : asgB t (l.drop i) out = R) (h : ¬ colI t.cols l[i].col < 0) (h2 : (out.any fun b => decide (b.ix = colI t.cols l[i].col)) = true) : ([], 5) = R := by
  rw [qH hi, asgB, if_neg h, if_pos h2] at hI; exact hI
theorem as_e (hi : i < l.length) (hI : asgB t (l.drop i) out = R) (h : ¬ colI t.cols l[i].col < 0) (h2 : (out.any fun b => decide (b.ix = colI t.cols l[i].col)) = false) (h3 : (bndE (alnS t) l[i].ex).2.2 ≠ 0) : ([], (bndE (alnS t) l[i].ex).2.2) = R := by
  rw [qH hi, asgB, if_neg h, if_neg (by rw [h2]; simp), if_pos h3] at hI; exact hI
theorem as_e6 (hi : i < l.length) (hI : asgB t (l.drop i) out = R) (h : ¬ colI t.cols l[i].col < 0) (h2 : (out.any fun b => decide (b.ix = colI t.cols l[i].col)) = false) (h3 : ¬ (bndE (alnS t) l[i].ex).2.2 ≠ 0) (h4 : fitI (bndE (alnS t) l[i].ex).2.1 (t.cols.getD (colI t.cols l[i].col).toNat co0).ty = false) : ([], 6) = R := by
  rw [qH hi, asgB, if_neg h, if_neg (by rw [h2]; simp), if_neg h3, if_pos h4] at hI; exact hI
theorem as_st (hi : i < l.length) (hI : asgB t (l.drop i) out = R) (h : ¬ colI t.cols l[i].col < 0) (h2 : (out.any fun b => decide (b.ix = colI t.cols l[i].col)) = false) (h3 : ¬ (bndE (alnS t) l[i].ex).2.2 ≠ 0) (h4 : ¬ fitI (bndE (alnS t) l[i].ex).2.1 (t.cols.getD (colI t.cols l[i].col).toNat co0).ty = false) : asgB t (l.drop (i + 1)) (out ++ [⟨l[i].col, colI t.cols l[i].col, (bndE (alnS t) l[i].ex).1⟩]) = R := by
  rw [qH hi, asgB, if_neg h, if_neg (by rw [h2]; simp), if_neg h3, if_neg h4] at hI; exact hI
theorem as_en (hI : asgB t (l.drop l.length) out = R) : (out, 0) = R := by rw [List.drop_length, asgB] at hI; exact hI
end
theorem upd_as {α : Type} {H : Nat → Option α} {a k k2 : Nat} {w y y2 : α} {x : Option α} (h0 : H a = none) (hk : upd H a (some w) k = none) : ∀ j o, upd H k2 x j = some o → upd (upd (upd (upd (upd H a (some w)) k (some y)) k (some y2)) a none) k2 x j = some o := fun j o h => by
  obtain ⟨h1, h2⟩ := upd_lt hk
  by_cases e1 : j = k2
  · subst e1; rw [upd_same] at h ⊢; exact h
  · rw [upd_ne _ _ e1] at h ⊢
    have e2 : j ≠ a := fun e => by subst e; rw [h0] at h; cases h
    have e3 : j ≠ k := fun e => by subst e; rw [h2] at h; cases h
    rw [upd_ne _ _ e2, upd_ne _ _ e3, upd_ne _ _ e3, upd_ne _ _ e2]; exact h
theorem asgEq_any (H : Heap) (k1 : Nat) (n : Int) (hp : H k1 = some (.box [.t (.v (.int .i64 n))])) (a : As) : E.Spec Tryz.prog 114 [asC a, .a (.bp k1 0)] H fun x H' => x = .c (bC (decide (a.ix = n))) ∧ H' = H := by
 refine Spec.enter Tryz.func114 rfl ?_
 refine AW.wk (wK 8 (l := [(0, .c (asC a)), (1, .c (.a (.bp k1 0)))]) (ll := []) (H := (H))) ?_
 refine D2 ?_
 refine D5 ?_
 exact aR (f1 (q := ⟨rfl, rfl⟩))
theorem upd_s3 {α : Type} {H : Nat → Option α} {a k : Nat} {w y y2 : α} (h0 : H a = none) (hk : upd H a (some w) k = none) : ∀ j o, H j = some o → upd (upd (upd H a (some w)) k (some y)) k (some y2) j = some o := fun j o h => by
  obtain ⟨h1, h2⟩ := upd_lt hk
  have e2 : j ≠ a := fun e => by subst e; rw [h0] at h; cases h
  have e3 : j ≠ k := fun e => by subst e; rw [h2] at h; cases h
  rw [upd_ne _ _ e3, upd_ne _ _ e3, upd_ne _ _ e2]; exact h
theorem assignments_any (t : Tb) (l : List As) (z : Nz) (hl : l.length ≤ 1000000) (hcl : t.cols.length ≤ 1000000) (hg : ∀ a ∈ l, gdX a.ex) : Pu 66 [tbC t, assC z l] (asX (asgB t l [])) := by
 intro H
 refine Spec.enter Tryz.func66 rfl ?_
 refine AW.wk (wK 63 (l := [(0, .c (tbC t)), (1, .c (assC z l))]) (ll := []) (H := (H))) ?_
 refine D3 ?_
 refine D1 ?_
 refine AW.seq (D4 ?_)
 refine AW.block (AW.tip 6 85 10 rfl (fun k0 hk0 => ?_))
 refine AW.loop (fun (i : Nat) s => ∃ (kt : Nat) (zs : List (List E.T)) (out : List As), (i ≤ l.length ∧ H kt = none ∧ zs = out.map asT ∧ zs.length = i ∧ asgB t (l.drop i) out = asgB t l []) ∧ s = ⟨63, sp [(2, .lp 2 0), (4, .c (.a nA)), (5, .c (iC 0)), (6, .c (.a (.ts kt .ne 10 zs))), (14, .c (assC z l)), (15, iX .i64 (((l.map asT).length : Nat) : Int)), (16, nX i)], lv [(2, .box (zTb t))], upd H kt (some (.tip 85 10 zs.length))⟩) (fun i => l.length - i) 0 ⟨_, by exact wK 63, k0, [], [], ⟨qZ _, hk0, rfl, rfl, rfl⟩, rfl⟩ (fun i s hs => ?_)
 obtain ⟨kt, zs, out, ⟨hi0, hkt, hzs, hzl0, hI⟩, rfl⟩ := hs
 refine D2 ?_
 refine AW.seq ?_
 refine cD ?_ ?_ <;> intro h17
 rotate_left
 ·
  refine AW.exit ?_
  refine eth_e ?_
  refine eth_e ?_
  refine exit_here ?_
  refine AW.seq ?_
  obtain rfl := oE h17 hi0
  have hE := as_en hI
  refine AW.xw 6 rfl (XW.ts.trans (XW.es hzs)) ?_
  refine B3 ?_
  exact aR (fin_x (x := .tup [_, _]) (H) (.tmp rfl (.tmp rfl .nil)) rfl ((fun j o h => upd_sub hkt j o h)) (⟨ase (a := (out, 0)) hE, rfl⟩))
 have hi := oI h17
 have hge := hg _ (qC hi)
 have hzl : zs.length = i := hzl0
 have hol : out.length = i := by rw [← hzl, hzs, qA]
 refine AW.skip (AW.seq (AW.block (D5 ?_)))
 refine D3 ?_
 refine sQ (q_call _ rfl fn112 rfl (column_any _ _ (by omega)) rfl) ?_
 refine G3 ?_
 refine SeqK.newAlloc (r := [_]) rfl rfl rfl ze3 rfl rfl rfl (fun k9 hk9 => ?_)
 refine G2 ?_
 refine AW.seq (D3 ?_)
 refine AW.cond _ rfl (fun h28 => ?_) (fun h28 => ?_)
 ·
  have hn : (colI t.cols l[i].col) < 0 := by have := jK (bnt h28); omega
  refine D2 ?_
  refine AW.xw 4 rfl (XW.nilU (sz := 10)) ?_
  exact aR (fin_x (x := .tup [_, _]) (H) (.tmp rfl (.tmp rfl .nil)) rfl ((fun j o h => upd_s3 hkt hk9 j o h)) (⟨ase (a := ([], 4)) (as_e4 hi hI hn), rfl⟩))
 have hn0 : 0 ≤ (colI t.cols l[i].col) := jJ (bnf h28)
 have hn : ¬ (colI t.cols l[i].col) < 0 := by omega
 have hnm : max (colI t.cols l[i].col) 0 = (colI t.cols l[i].col) := by omega
 rw [hnm]
 obtain ⟨hk9n, hk9x⟩ := upd_lt hk9
 have hnl := colI_lt (cols := t.cols) (nm := l[i].col)
 have hnt : (colI t.cols l[i].col).toNat < t.cols.length := by omega
 have hgc : t.cols.getD (colI t.cols l[i].col).toNat co0 = t.cols[(colI t.cols l[i].col).toNat] := getD_at hnt
 refine AW.skip (AW.seq (D1 ?_))
 refine SeqK.xw 29 rfl (XW.ts.trans (XW.es hzs)) ?_
 refine sQ (q_mkFn rfl rfl rfl) ?_
 refine SeqK.r (g_call rfl fn113 rfl (anyF_as _ 114 [.bp k9 0] (fun b => decide (b.ix = (colI t.cols l[i].col))) out .un fn114 (by omega) (fun b hb H1 h1 => asgEq_any H1 k9 _ (h1 _ _ (upd_same _ _ _)) b)) rfl rfl rfl) rfl ?_
 refine Z4 ?_
 refine AW.cond _ rfl (fun h31 => ?_) (fun h31 => ?_)
 ·
  refine D2 ?_
  refine AW.xw 4 rfl (XW.nilU (sz := 10)) ?_
  exact aR (fin_x (x := .tup [_, _]) (H) (.tmp rfl (.tmp rfl .nil)) rfl ((fun j o h => upd_s3 hkt hk9 j o h)) (⟨ase (a := ([], 5)) (as_e5 hi hI hn h31), rfl⟩))
 refine AW.skip (AW.seq (AW.draw mo ?_))
 refine N1 ?_
 refine Z35 fn38 (alone_any t) ?_
 refine N2 ?_
 refine Z35 fn35 (bind_any (okAln hcl) l[i].ex hge) ?_
 refine lQ (q_mvT rfl rfl) ?_
 refine N3 ?_
 refine LexK.r (b_alloc (r := [_, _, _, _, _, _, _, _]) rfl rfl ze37 rfl rfl rfl rfl) rfl ?_
 refine N4 ?_
 refine AW.seq (D3 ?_)
 refine cD ?_ ?_ <;> intro h42
 ·
  refine D3 ?_
  refine AW.xw 4 rfl (XW.nilU (sz := 10)) ?_
  exact aR (fin_x (x := .tup [_, _]) (H) (.tmp rfl (.tmp rfl .nil)) rfl ((fun j o h => upd_s3 hkt hk9 j o h)) (⟨ase (a := ([], _)) (as_e hi hI hn h31 h42), rfl⟩))
 refine AW.skip (AW.seq (D7 ?_))
 refine Z16 fn110 (fits_any _ _) ?_
 refine G2 ?_
 refine AW.cond _ rfl (fun h52 => ?_) (fun h52 => ?_)
 ·
  have hft : fitI (bndE (alnS t) l[i].ex).2.1 (t.cols.getD (colI t.cols l[i].col).toNat co0).ty = false := by rw [hgc]; exact bnt h52
  refine D2 ?_
  refine AW.xw 4 rfl (XW.nilU (sz := 10)) ?_
  exact aR (fin_x (x := .tup [_, _]) (H) (.tmp rfl (.tmp rfl .nil)) rfl ((fun j o h => upd_s3 hkt hk9 j o h)) (⟨ase (a := ([], 6)) (as_e6 hi hI hn h31 h42 hft), rfl⟩))
 have hft : ¬ fitI (bndE (alnS t) l[i].ex).2.1 (t.cols.getD (colI t.cols l[i].col).toNat co0).ty = false := by rw [hgc, bnf h52]; simp
 refine AW.skip (B7 ?_)
 refine SeqK.app rfl rfl el31 rfl (by rw [upd_ne _ _ hk9n.symm, upd_ne _ _ hk9n.symm, upd_same]) rfl (by simp [hzl]; omega) rfl rfl (fun k60 hk60 => ?_)
 refine sB ?_
 refine B3 ?_
 have hk60z : H k60 = none := (upd_lt (upd_lt (upd_lt hk60).2).2).2
 exact ⟨i + 1, _, by exact Wk.keep 63 _ _ _ rfl ⟨rfl, rfl, rfl, rfl, rfl, rfl, rfl, trivial⟩ ⟨rfl, trivial⟩ (upd_as hkt hk9) rfl, by omega, k60, zs ++ [asT ⟨l[i].col, (colI t.cols l[i].col), (bndE (alnS t) l[i].ex).1⟩], out ++ [⟨l[i].col, (colI t.cols l[i].col), (bndE (alnS t) l[i].ex).1⟩], ⟨hi, hk60z, mp_put hzs, by simp [hzl], as_st hi hI hn h31 h42 hft⟩, rfl⟩
open Q
abbrev itX (r : List It × Int) : X := .tup [itsC .un r.1, iC r.2]
theorem ite' {a b : List It × Int} (h : a = b) : itX a = itX b := by rw [h]
section
variable {s : Sp} {l out : List It} {i : Nat} {R : List It × Int}
theorem it_e (hi : i < l.length) (hI : itsB s (l.drop i) out = R) (h : l[i].ag ≠ 1) (h3 : (bndE s l[i].ex).2.2 ≠ 0) : ([], (bndE s l[i].ex).2.2) = R := by
  rw [qH hi, itsB, if_neg h, if_pos h3] at hI; exact hI
theorem it_e6 (hi : i < l.length) (hI : itsB s (l.drop i) out = R) (h : l[i].ag ≠ 1) (h3 : ¬ (bndE s l[i].ex).2.2 ≠ 0) (h4 : (bndE s l[i].ex).2.1 = 3 ∨ (l[i].ag = 3 ∧ fitI (bndE s l[i].ex).2.1 1 = false)) : ([], 6) = R := by
  rw [qH hi, itsB, if_neg h, if_neg h3, if_pos h4] at hI; exact hI
theorem it_st (hi : i < l.length) (hI : itsB s (l.drop i) out = R) (h : l[i].ag ≠ 1) (h3 : ¬ (bndE s l[i].ex).2.2 ≠ 0) (h4 : ¬ ((bndE s l[i].ex).2.1 = 3 ∨ (l[i].ag = 3 ∧ fitI (bndE s l[i].ex).2.1 1 = false))) : itsB s (l.drop (i + 1)) (out ++ [⟨l[i].ag, (bndE s l[i].ex).1⟩]) = R := by
  rw [qH hi, itsB, if_neg h, if_neg h3, if_neg h4] at hI; exact hI
theorem it_st1 (hi : i < l.length) (hI : itsB s (l.drop i) out = R) (h : ¬ l[i].ag ≠ 1) : itsB s (l.drop (i + 1)) (out ++ [l[i]]) = R := by
  rw [qH hi, itsB, if_pos (by omega)] at hI; exact hI
theorem it_en (hI : itsB s (l.drop l.length) out = R) : (out, 0) = R := by rw [List.drop_length, itsB] at hI; exact hI
end
theorem items_any (sc : Sp) (l : List It) (z : Nz) (hs : okSp sc) (hl : l.length ≤ 1000000000) (hg : ∀ x ∈ l, x.ag ≠ 1 → bdP sc x.ex) : Pu 72 [spC sc, itsC z l] (itX (itsB sc l [])) := by
 intro H
 refine Spec.enter Tryz.func72 rfl ?_
 refine AW.wk (wK 52 (l := [(0, .c (spC sc)), (1, .c (itsC z l))]) (ll := []) (H := (H))) ?_
 refine D3 ?_
 refine D1 ?_
 refine AW.seq (D4 ?_)
 refine AW.block (AW.tip 6 58 9 rfl (fun k0 hk0 => ?_))
 refine AW.loop (fun (i : Nat) s => ∃ (kt : Nat) (zs : List (List E.T)) (out : List It), (i ≤ l.length ∧ H kt = none ∧ zs = out.map itT ∧ zs.length = i ∧ itsB sc (l.drop i) out = itsB sc l []) ∧ s = ⟨52, sp [(2, .lp 2 0), (4, .c (.a nA)), (5, .c (iC 0)), (6, .c (.a (.ts kt .ne 9 zs))), (12, .c (itsC z l)), (13, iX .i64 (((l.map itT).length : Nat) : Int)), (14, nX i)], lv [(2, .box (zSp sc))], upd H kt (some (.tip 58 9 zs.length))⟩) (fun i => l.length - i) 0 ⟨_, by exact wK 52, k0, [], [], ⟨qZ _, hk0, rfl, rfl, rfl⟩, rfl⟩ (fun i s hs => ?_)
 obtain ⟨kt, zs, out, ⟨hi0, hkt, hzs, hzl0, hI⟩, rfl⟩ := hs
 refine D2 ?_
 refine AW.seq ?_
 refine cD ?_ ?_ <;> intro h15
 rotate_left
 ·
  refine AW.exit ?_
  refine eth_e ?_
  refine eth_e ?_
  refine exit_here ?_
  refine AW.seq ?_
  obtain rfl := oE h15 hi0
  have hE := it_en hI
  refine AW.xw 6 rfl (XW.ts.trans (XW.es hzs)) ?_
  refine B3 ?_
  exact aR (fin_x (x := .tup [_, _]) (H) (.tmp rfl (.tmp rfl .nil)) rfl ((fun j o h => upd_sub hkt j o h)) (⟨ite' (a := (out, 0)) hE, rfl⟩))
 have hi := oI h15
 have hzl : zs.length = i := hzl0
 refine AW.skip (AW.seq (AW.block (D5 ?_)))
 refine AW.seq (D4 ?_)
 refine cD ?_ ?_ <;> intro h20
 rotate_left
 ·
  refine AW.skip (B3 ?_)
  refine SeqK.app1 rfl (hkt) rfl el32 rfl rfl (by simp [hzl]; omega) rfl rfl (fun k49 hk49 => ?_)
  refine sB ?_
  refine B3 ?_
  exact ⟨i + 1, _, by exact wK 52, by omega, k49, zs ++ [itT l[i]], out ++ [l[i]], ⟨hi, hk49, mp_put hzs, by simp [hzl], it_st1 hi hI h20⟩, rfl⟩
 refine D3 ?_
 refine Z16 fn35 (hg _ (qC hi) h20 hs) ?_
 refine G8 ?_
 refine AW.seq (D3 ?_)
 refine cD ?_ ?_ <;> intro h30
 ·
  refine D3 ?_
  refine AW.xw 4 rfl (XW.nilU (sz := 9)) ?_
  exact aR (fin_x (x := .tup [_, _]) (H) (.tmp rfl (.tmp rfl .nil)) rfl ((fun j o h => upd_sub hkt j o h)) (⟨ite' (a := ([], _)) (it_e hi hI h20 h30), rfl⟩))
 refine AW.skip (AW.seq (D2 ?_))
 refine Z17 ?_ ?_ <;> intro g34
 ·
  iterate 4 refine oF ?_
  iterate 3 refine oU ?_
  refine G3 ?_
  refine AW.condT rfl ?_
  refine D2 ?_
  refine AW.xw 4 rfl (XW.nilU (sz := 9)) ?_
  exact aR (fin_x (x := .tup [_, _]) (H) (.tmp rfl (.tmp rfl .nil)) rfl ((fun j o h => upd_sub hkt j o h)) (⟨ite' (a := ([], 6)) (it_e6 hi hI h20 h30 (by first | exact .inl g34 | exact .inr ⟨g38, bnt h43⟩)), rfl⟩))
 refine G3 ?_
 refine Z48 ?_ ?_ <;> intro g38
 ·
  refine Z14 ?_
  refine Z52 fn110 (fits_any _ _) ?_
  refine G4 ?_
  refine AW.cond _ rfl (fun h43 => ?_) (fun h43 => ?_)
  ·
   refine D2 ?_
   refine AW.xw 4 rfl (XW.nilU (sz := 9)) ?_
   exact aR (fin_x (x := .tup [_, _]) (H) (.tmp rfl (.tmp rfl .nil)) rfl ((fun j o h => upd_sub hkt j o h)) (⟨ite' (a := ([], 6)) (it_e6 hi hI h20 h30 (by first | exact .inl g34 | exact .inr ⟨g38, bnt h43⟩)), rfl⟩))
  refine AW.skip (B4 ?_)
  refine B3 ?_
  refine SeqK.app1 rfl (hkt) rfl el32 rfl rfl (by simp [hzl]; omega) rfl rfl (fun k49 hk49 => ?_)
  refine sB ?_
  refine B3 ?_
  exact ⟨i + 1, _, by exact wK 52, by omega, k49, zs ++ [itT (⟨l[i].ag, (bndE sc l[i].ex).1⟩ : It)], out ++ [(⟨l[i].ag, (bndE sc l[i].ex).1⟩ : It)], ⟨hi, hk49, mp_put hzs, by simp [hzl], it_st hi hI h20 h30 (by rintro (k | ⟨_, k⟩); exact g34 k; rw [bnf h43] at k; cases k)⟩, rfl⟩
 iterate 3 refine oF ?_
 refine G3 ?_
 refine AW.condF rfl ?_
 refine AW.skip (B4 ?_)
 refine B3 ?_
 refine SeqK.app1 rfl (hkt) rfl el32 rfl rfl (by simp [hzl]; omega) rfl rfl (fun k49 hk49 => ?_)
 refine sB ?_
 refine B3 ?_
 exact ⟨i + 1, _, by exact wK 52, by omega, k49, zs ++ [itT (⟨l[i].ag, (bndE sc l[i].ex).1⟩ : It)], out ++ [(⟨l[i].ag, (bndE sc l[i].ex).1⟩ : It)], ⟨hi, hk49, mp_put hzs, by simp [hzl], it_st hi hI h20 h30 (by rintro (k | ⟨k, _⟩); exact g34 k; exact g38 k)⟩, rfl⟩
open Q
theorem plain_any (x : It) : Pu 116 [itC x] (.c (bC (decide (x.ag = 0)))) := by
 intro H
 refine Spec.enter Tryz.func116 rfl ?_
 refine AW.wk (wK 6 (l := [(0, .c (itC x))]) (ll := []) (H := (H))) ?_
 refine D2 ?_
 refine D4 ?_
 exact aR (f1 (q := ⟨rfl, rfl⟩))
theorem notPlain_any (H : Heap) (k1 : Nat) (hp : H k1 = some (.box [.t (.v (.func (Fn.func 116) #[] #[]))])) (x : It) : E.Spec Tryz.prog 118 [itC x, .a (.bp k1 0)] H fun x' H' => x' = .c (bC (!decide (x.ag = 0))) ∧ H' = H := by
 refine Spec.enter Tryz.func118 rfl ?_
 refine AW.wk (wK 8 (l := [(0, .c (itC x)), (1, .c (.a (.bp k1 0)))]) (ll := []) (H := (H))) ?_
 refine D2 ?_
 refine D1 ?_
 refine SeqK.xw 4 rfl XW.fn0 ?_
 refine G1 ?_
 refine SeqK.r (g_callV (f := 116) (cs := []) rfl rfl fn116 rfl (plain_any x _) rfl rfl rfl) rfl ?_
 refine G2 ?_
 exact aR (f1 (q := ⟨rfl, rfl⟩))
abbrev zIt (x : It) : List A := [.t (.v (.int .i64 x.ag)), .t (.v (.int .i64 x.ex.op)), .t (.v (.string x.ex.tb)), .t (.v (.string x.ex.nm)), .t (.v (.int .i64 x.ex.ix)), .t (.v (.int .i64 x.ex.vk)), .t (.v (.int .i64 x.ex.vn)), .t (.v (.string x.ex.vs)), .t (.sl .un 8 (x.ex.args.map exT'))]
theorem sameIx_any (H : Heap) (k1 : Nat) (x : It) (hp : H k1 = some (.box (zIt x))) (e : Ex) : E.Spec Tryz.prog 121 [exC e, .a (.bp k1 0)] H fun x' H' => x' = .c (bC (decide (e.ix = x.ex.ix))) ∧ H' = H := by
 refine Spec.enter Tryz.func121 rfl ?_
 refine AW.wk (wK 10 (l := [(0, .c (exC e)), (1, .c (.a (.bp k1 0)))]) (ll := []) (H := (H))) ?_
 refine D2 ?_
 refine D2 ?_
 refine sQ (q_fieldH _ rfl fl58_1 rfl rfl) ?_
 refine sQ (q_fieldH _ rfl fl37_3 rfl rfl) ?_
 refine G3 ?_
 exact aR (f1 (q := ⟨rfl, rfl⟩))
abbrev zSt (x : St) : List A := [.t (.v (.int .i64 x.k)), .t (.v (.string x.tb)), .t (.sl .un 6 (x.cr.cols.map coT)), .t (.sl .un 1 (x.cr.keys.map sLT)), .t (.sl .un 3 (x.cr.fks.map rfT)), .t (.sl .un 8 (x.cr.chks.map exT')), .t (.sl .un 1 (x.vals.map exLT)), .t (.sl .un 10 (x.sets.map asT)), .t (.sl .un 9 (x.its.map itT)), .t (.sl .un 2 (x.frm.map frT)), .t (.v (.int .i64 x.wh.op)), .t (.v (.string x.wh.tb)), .t (.v (.string x.wh.nm)), .t (.v (.int .i64 x.wh.ix)), .t (.v (.int .i64 x.wh.vk)), .t (.v (.int .i64 x.wh.vn)), .t (.v (.string x.wh.vs)), .t (.sl .un 8 (x.wh.args.map exT')), .t (.sl .un 8 (x.grp.map exT')), .t (.sl .un 2 (x.ord.map odT)), .t (.v (.int .i64 x.lim)), .t (.v (.string x.nm))]
theorem wrong_any (H : Heap) (k1 k2 : Nat) (st : St) (hp : H k1 = some (.box [.t (.v (.func (Fn.func 116) #[] #[]))])) (hp2 : H k2 = some (.box (zSt st))) (hgl : st.grp.length ≤ 1000000000) (x : It) : E.Spec Tryz.prog 119 [itC x, .a (.bp k1 0), .a (.bp k2 0)] H fun x' H' => x' = .c (bC (decide (x.ag = 0) && (!icB x.ex || !(st.grp.any fun e => decide (e.ix = x.ex.ix))))) ∧ H' = H := by
 refine Spec.enter Tryz.func119 rfl ?_
 refine AW.wk (wK 21 (l := [(0, .c (itC x)), (1, .c (.a (.bp k1 0))), (2, .c (.a (.bp k2 0)))]) (ll := []) (H := (H))) ?_
 refine sR (SeqK.newBox (r := [_, _, _, _, _, _, _, _, _]) rfl rfl rfl rfl rfl rfl (fun k3 hk3 => ?_))
 refine sB ?_
 refine sR (SeqK.r (g_load (r := .a _) rfl ty179 rfl (upd_sub hk3 _ _ hp) rfl rfl rfl rfl) rfl ?_)
 refine SeqK.xw 5 rfl XW.fn0 ?_
 refine SeqK.r (g_load (r := .g [_, _, _, _, _, _, _, _, _]) rfl ty58 rfl (by (repeat rw [upd_ne _ _ (by first | assumption | exact Ne.symm (by assumption))]); first | assumption | exact upd_same _ _ _) rfl rfl rfl rfl) rfl ?_
 refine SeqK.r (g_callV (f := 116) (cs := []) rfl rfl fn116 rfl (plain_any x _) rfl rfl rfl) rfl ?_
 refine Z53 ?_ ?_ <;> intro g8
 ·
  refine sO (q_fieldH _ rfl fl58_1 rfl rfl) ?_
  refine SeqK.rOn (g_load (r := .g [_, _, _, _, _, _, _, _]) rfl ty37 rfl (by (repeat rw [upd_ne _ _ (by first | assumption | exact Ne.symm (by assumption))]); first | assumption | exact upd_same _ _ _) rfl rfl rfl rfl) rfl rfl rfl ?_
  refine Z52 fn60 (isColumn_any _) ?_
  refine Z41 ?_
  refine SeqK.onB (q_mvC rfl rfl) rfl rfl rfl rfl rfl (fun g13 => ?_) (fun g13 => ?_)
  ·
   iterate 5 refine oF ?_
   refine G3 ?_
   exact aR (fin_x (x := .c _) (H) (.tmp rfl .nil) rfl ((fun j o h => upd_sub hk3 j o h)) (⟨bCe (by first | (rw [jH g8]; simp [*]; done) | (rw [jI g8]; rfl) | simp [*]), rfl⟩))
  refine sO (q_fieldH _ rfl fl40_8 rfl rfl) ?_
  refine SeqK.rOn (g_load (r := .a _) rfl ty27 rfl (upd_sub hk3 _ _ hp2) rfl rfl rfl rfl) rfl rfl rfl ?_
  refine sO (q_mkFn rfl rfl rfl) ?_
  refine SeqK.rOn (g_call rfl fn120 rfl (anyF_ex _ 121 [.bp k3 0] (fun e => decide (e.ix = x.ex.ix)) st.grp .un fn121 (by omega) (fun e he H1 h1 => sameIx_any H1 k3 x (h1 _ _ (upd_same _ _ _)) e)) rfl rfl rfl) rfl rfl rfl ?_
  refine G4 ?_
  exact aR (fin_x (x := .c _) (H) (.tmp rfl .nil) rfl ((fun j o h => upd_sub hk3 j o h)) (⟨bCe (by first | (rw [jH g8]; simp [*]; done) | (rw [jI g8]; rfl) | simp [*]), rfl⟩))
 iterate 5 refine oF ?_
 iterate 5 refine oU ?_
 refine G3 ?_
 exact aR (fin_x (x := .c _) (H) (.tmp rfl .nil) rfl ((fun j o h => upd_sub hk3 j o h)) (⟨bCe (by first | (rw [jH g8]; simp [*]; done) | (rw [jI g8]; rfl) | simp [*]), rfl⟩))
theorem grd_t {its : List It} {grp : List Ex} (h : grp.length = 0) (h2 : (its.any fun x => !decide (x.ag = 0)) = false) : true = grdB its grp := by rw [grdB, if_pos ⟨h, h2⟩]
theorem grd_f {its : List It} {grp : List Ex} (h : ¬ (grp.length = 0 ∧ (its.any fun x => !decide (x.ag = 0)) = false)) : (decide (0 < its.length) && !(its.any fun x => decide (x.ag = 0) && (!icB x.ex || !(grp.any fun e => decide (e.ix = x.ex.ix))))) = grdB its grp := by rw [grdB, if_neg h]
theorem upd_s2 {α : Type} {H : Nat → Option α} {a k : Nat} {w : α} {y : Option α} {y2 : Option α} (h0 : H a = none) (hk : upd H a (some w) k = none) : ∀ j o, H j = some o → upd (upd (upd H a (some w)) k y) k y2 j = some o := fun j o h => by
  obtain ⟨h1, h2⟩ := upd_lt hk
  have e2 : j ≠ a := fun e => by subst e; rw [h0] at h; cases h
  have e3 : j ≠ k := fun e => by subst e; rw [h2] at h; cases h
  rw [upd_ne _ _ e3, upd_ne _ _ e3, upd_ne _ _ e2]; exact h
theorem grouped_any (st : St) (hgl : st.grp.length ≤ 1000000000) (hil : st.its.length ≤ 1000000000) : Pu 73 [stC st] (.c (bC (grdB st.its st.grp))) := by
 intro H
 refine Spec.enter Tryz.func73 rfl ?_
 refine AW.wk (wK 28 (l := [(0, .c (stC st))]) (ll := []) (H := (H))) ?_
 refine sR (SeqK.newBox (r := [_, _, _, _, _, _, _, _, _, _, _, _, _, _, _, _, _, _, _, _, _, _]) rfl rfl rfl rfl rfl rfl (fun k1 hk1 => ?_))
 refine sB ?_
 refine sR (SeqK.newAlloc (r := [_]) rfl rfl rfl ze179 rfl rfl rfl (fun k3 hk3 => ?_))
 refine G2 ?_
 refine AW.seq (AW.seq ?_)
 obtain ⟨hk3n, hk3x⟩ := upd_lt hk3
 refine AW.reg (sQ (q_fieldH _ rfl fl40_8 rfl rfl) ?_)
 refine G3 ?_
 refine Z17 ?_ ?_ <;> intro g9
 ·
  refine sO (q_fieldH _ rfl fl40_5 rfl rfl) ?_
  refine SeqK.rOn (g_load (r := .a _) rfl ty32 rfl (by (repeat rw [upd_ne _ _ (by first | assumption | exact Ne.symm (by assumption))]); first | assumption | exact upd_same _ _ _) rfl rfl rfl rfl) rfl rfl rfl ?_
  refine sO (q_mkFn rfl rfl rfl) ?_
  refine SeqK.rOn (g_call rfl fn117 rfl (anyF_tm _ 118 [.bp k3 0] (fun x => !decide (x.ag = 0)) st.its .un fn118 (by omega) (fun x hx H1 h1 => notPlain_any H1 k3 (h1 _ _ (upd_same _ _ _)) x)) rfl rfl rfl) rfl rfl rfl ?_
  refine G3 ?_
  refine AW.cond _ rfl (fun h15 => ?_) (fun h15 => ?_)
  ·
   refine D1 ?_
   exact aR (fin_x (x := .c _) (H) (.tmp rfl .nil) rfl ((fun j o h => upd_s2 hk1 hk3 j o h)) (⟨bCe (grd_t (by (try simp only [qA] at g9); omega) (bnt h15)), rfl⟩))
  refine AW.skip (sR (sQ (q_mkFn rfl rfl rfl) ?_))
  refine sB ?_
  refine sR (sQ (q_fieldH _ rfl fl40_5 rfl rfl) ?_)
  refine G3 ?_
  refine Z17 ?_ ?_ <;> intro g21
  ·
   refine sO (q_fieldH _ rfl fl40_5 rfl rfl) ?_
   refine SeqK.rOn (g_load (r := .a _) rfl ty32 rfl (by (repeat rw [upd_ne _ _ (by first | assumption | exact Ne.symm (by assumption))]); first | assumption | exact upd_same _ _ _) rfl rfl rfl rfl) rfl rfl rfl ?_
   refine Z14 ?_
   refine SeqK.rOn (g_call rfl fn117 rfl (anyF_tm _ 119 [.bp k3 0, .bp k1 0] (fun x => decide (x.ag = 0) && (!icB x.ex || !(st.grp.any fun e => decide (e.ix = x.ex.ix)))) st.its .un fn119 (by omega) (fun x hx H1 h1 => wrong_any H1 k3 k1 st (h1 _ _ (upd_same _ _ _)) (h1 _ _ (by (repeat rw [upd_ne _ _ (by first | assumption | exact Ne.symm (by assumption))]); first | assumption | exact upd_same _ _ _)) hgl x)) rfl rfl rfl) rfl rfl rfl ?_
   refine G3 ?_
   exact aR (fin_x (x := .c _) (H) (.tmp rfl .nil) rfl ((fun j o h => upd_s2 hk1 hk3 j o h)) (⟨bCe (by rw [← grd_f (by first | (rintro ⟨k, _⟩; (try simp only [qA] at g9); omega) | (rintro ⟨_, k⟩; rw [k] at h15; cases h15))]; first | (rw [jH (by (try simp only [qA] at g21); omega)]; rfl) | (rw [jI (by (try simp only [qA] at g21); omega)]; rfl)), rfl⟩))
  iterate 5 refine oF ?_
  refine G2 ?_
  exact aR (fin_x (x := .c _) (H) (.tmp rfl .nil) rfl ((fun j o h => upd_s2 hk1 hk3 j o h)) (⟨bCe (by rw [← grd_f (by first | (rintro ⟨k, _⟩; (try simp only [qA] at g9); omega) | (rintro ⟨_, k⟩; rw [k] at h15; cases h15))]; first | (rw [jH (by (try simp only [qA] at g21); omega)]; rfl) | (rw [jI (by (try simp only [qA] at g21); omega)]; rfl)), rfl⟩))
 iterate 5 refine oF ?_
 refine G2 ?_
 refine AW.condF rfl ?_
 refine AW.skip (sR (sQ (q_mkFn rfl rfl rfl) ?_))
 refine sB ?_
 refine sR (sQ (q_fieldH _ rfl fl40_5 rfl rfl) ?_)
 refine G3 ?_
 refine Z17 ?_ ?_ <;> intro g21
 ·
  refine sO (q_fieldH _ rfl fl40_5 rfl rfl) ?_
  refine SeqK.rOn (g_load (r := .a _) rfl ty32 rfl (by (repeat rw [upd_ne _ _ (by first | assumption | exact Ne.symm (by assumption))]); first | assumption | exact upd_same _ _ _) rfl rfl rfl rfl) rfl rfl rfl ?_
  refine Z14 ?_
  refine SeqK.rOn (g_call rfl fn117 rfl (anyF_tm _ 119 [.bp k3 0, .bp k1 0] (fun x => decide (x.ag = 0) && (!icB x.ex || !(st.grp.any fun e => decide (e.ix = x.ex.ix)))) st.its .un fn119 (by omega) (fun x hx H1 h1 => wrong_any H1 k3 k1 st (h1 _ _ (upd_same _ _ _)) (h1 _ _ (by (repeat rw [upd_ne _ _ (by first | assumption | exact Ne.symm (by assumption))]); first | assumption | exact upd_same _ _ _)) hgl x)) rfl rfl rfl) rfl rfl rfl ?_
  refine G3 ?_
  exact aR (fin_x (x := .c _) (H) (.tmp rfl .nil) rfl ((fun j o h => upd_s2 hk1 hk3 j o h)) (⟨bCe (by rw [← grd_f (by first | (rintro ⟨k, _⟩; (try simp only [qA] at g9); omega) | (rintro ⟨_, k⟩; rw [k] at h15; cases h15))]; first | (rw [jH (by (try simp only [qA] at g21); omega)]; rfl) | (rw [jI (by (try simp only [qA] at g21); omega)]; rfl)), rfl⟩))
 iterate 5 refine oF ?_
 refine G2 ?_
 exact aR (fin_x (x := .c _) (H) (.tmp rfl .nil) rfl ((fun j o h => upd_s2 hk1 hk3 j o h)) (⟨bCe (by rw [← grd_f (by first | (rintro ⟨k, _⟩; (try simp only [qA] at g9); omega) | (rintro ⟨_, k⟩; rw [k] at h15; cases h15))]; first | (rw [jH (by (try simp only [qA] at g21); omega)]; rfl) | (rw [jI (by (try simp only [qA] at g21); omega)]; rfl)), rfl⟩))
open Q
theorem map_nil' {α β : Type} {f : α → β} {l : List α} (h : l.map f = []) : l = [] := List.map_eq_nil_iff.1 h
theorem cloneFr_any (l : List Fr) (z : Nz) (hl : l.length ≤ 1000000000) : Pu 70 [frsC z l] (.c (frsC .un l)) := by
 intro H
 refine Spec.enter Tryz.func70 rfl ?_
 refine AW.wk (wK 8 (l := [(0, .c (frsC z l))]) (ll := []) (H := (H))) ?_
 refine D1 ?_
 refine AW.seq (D1 ?_)
 refine SeqK.eqlNZ rfl rfl rfl rfl rfl rfl nk33 (fun b hb1 hb2 => ?_)
 refine Z4 ?_
 refine AW.cond _ rfl (fun h4 => ?_) (fun h4 => ?_)
 ·
  refine D1 ?_
  refine AW.xw 2 rfl (XW.nilU (sz := 2)) ?_
  exact aR (f1 (q := ⟨by rw [map_nil' (hb1 h4)]; rfl, rfl⟩))
 refine AW.skip (sR (sQ (q_build0 rfl el33) ?_))
 refine sM ?_
 refine sQ (q_app0 rfl el33 rfl rfl (by simp; omega)) ?_
 refine SeqK.xw 7 rfl .un ?_
 refine sB ?_
 exact aR (f1 (q := ⟨rfl, rfl⟩))
theorem cloneOd_any (l : List Od) (z : Nz) (hl : l.length ≤ 1000000000) : Pu 71 [odsC z l] (.c (odsC .un l)) := by
 intro H
 refine Spec.enter Tryz.func71 rfl ?_
 refine AW.wk (wK 8 (l := [(0, .c (odsC z l))]) (ll := []) (H := (H))) ?_
 refine D1 ?_
 refine AW.seq (D1 ?_)
 refine SeqK.eqlNZ rfl rfl rfl rfl rfl rfl nk38 (fun b hb1 hb2 => ?_)
 refine Z4 ?_
 refine AW.cond _ rfl (fun h4 => ?_) (fun h4 => ?_)
 ·
  refine D1 ?_
  refine AW.xw 2 rfl (XW.nilU (sz := 2)) ?_
  exact aR (f1 (q := ⟨by rw [map_nil' (hb1 h4)]; rfl, rfl⟩))
 refine AW.skip (sR (sQ (q_build0 rfl el38) ?_))
 refine sM ?_
 refine sQ (q_app0 rfl el38 rfl rfl (by simp; omega)) ?_
 refine SeqK.xw 7 rfl .un ?_
 refine sB ?_
 exact aR (f1 (q := ⟨rfl, rfl⟩))
theorem check_any (t : Tb) (e : Ex) (hcl : t.cols.length ≤ 1000000) (hg : bdP (alnS t) e) : Pu 18 [tbC t, exC e] (bnX (bndE (alnS t) e)) := by
 intro H
 refine Spec.enter Tryz.func18 rfl ?_
 refine AW.wk (wK 14 (l := [(0, .c (tbC t)), (1, .c (exC e))]) (ll := []) (H := (H))) ?_
 refine D5 ?_
 refine AW.seq (AW.draw mo ?_)
 refine N1 ?_
 refine Z35 fn38 (alone_any t) ?_
 refine N1 ?_
 refine Z35 fn35 (hg (okAln hcl)) ?_
 refine N7 ?_
 exact aR (fin_x (x := .tup [_, _, _]) (H) (.cellL rfl rfl ty37 rfl rfl (.tmp rfl (.tmp rfl .nil))) rfl (fun _ _ h => h) (⟨rfl, rfl⟩))
abbrev numS (l : List Vr) : Sp := ⟨[], l, true⟩
theorem okNum {l : List Vr} (h : l.length ≤ 1000000000) : okSp (numS l) := ⟨qZ _, h, fun x hx => by simp at hx, fun x hx => by simp at hx⟩
theorem type_any (e : Ex) (l : List Vr) (z : Nz) (hl : l.length ≤ 1000000000) (hg : gdX e) : Pu 14 [exC e, vsC z l] (.tup [iC (bndE (numS l) e).2.1, iC (bndE (numS l) e).2.2]) := by
 intro H
 refine Spec.enter Tryz.func14 rfl ?_
 refine AW.wk (wK 19 (l := [(0, .c (exC e)), (1, .c (vsC z l))]) (ll := []) (H := (H))) ?_
 refine D3 ?_
 refine D2 ?_
 refine SeqK.xw 11 rfl (XW.g (.cons (XW.nilU (sz := 7)) (.cons XW.un (.cons XW.reA .nil)))) ?_
 refine G1 ?_
 refine Z16 fn35 (bind_any (okNum hl) e hg) ?_
 refine G8 ?_
 refine D4 ?_
 exact aR (f2 (.tmp rfl (.tmp rfl .nil)) (⟨rfl, rfl⟩))
theorem srEq_any (H : Heap) (k1 : Nat) (x : Sr) (hp : H k1 = some (.box [.t (.v (.string x.nm)), .t (.v (.string x.t.nm)), .t (.sl .un 6 (x.t.cols.map coT)), .t (.sl .un 1 (x.t.keys.map iLT)), .t (.sl .un 3 (x.t.fks.map fkT)), .t (.sl .un 8 (x.t.chks.map exT')), .t (.v (.int .i64 x.f0))])) (y : Sr) : E.Spec Tryz.prog 69 [srC y, .a (.bp k1 0)] H fun x' H' => x' = .c (bC (decide (y.nm = x.nm))) ∧ H' = H := by
 refine Spec.enter Tryz.func69 rfl ?_
 refine AW.wk (wK 9 (l := [(0, .c (srC y)), (1, .c (.a (.bp k1 0)))]) (ll := []) (H := (H))) ?_
 refine D2 ?_
 refine D2 ?_
 refine sQ (q_fieldH _ rfl fl143_0 rfl rfl) ?_
 refine G1 ?_
 refine sQ (q_eqlS rfl rfl rfl) ?_
 refine sB ?_
 exact aR (f1 (q := ⟨rfl, rfl⟩))
theorem odGt_any (H : Heap) (k1 : Nat) (n : Int) (hp : H k1 = some (.box [.t (.v (.int .i64 n))])) (o : Od) : E.Spec Tryz.prog 75 [odC o, .a (.bp k1 0)] H fun x' H' => x' = .c (bC (decide (n < o.it))) ∧ H' = H := by
 refine Spec.enter Tryz.func75 rfl ?_
 refine AW.wk (wK 8 (l := [(0, .c (odC o)), (1, .c (.a (.bp k1 0)))]) (ll := []) (H := (H))) ?_
 refine D2 ?_
 refine D5 ?_
 exact aR (f1 (q := ⟨rfl, rfl⟩))
open Q
structure okTb (t : Tb) : Prop where
  cl : t.cols.length ≤ 1000000
  ty : ∀ c ∈ t.cols, c.ty = 1 ∨ c.ty = 2
structure okDb (d : List Tb) : Prop where
  len : d.length ≤ 1000000
  tb : ∀ t ∈ d, okTb t
structure okCh (st : St) : Prop where
  vl : st.vals.length ≤ 1000000
  vg : ∀ u ∈ st.vals, ∀ e ∈ u, gdX e
  sl : st.sets.length ≤ 1000000
  sg : ∀ a ∈ st.sets, gdX a.ex
  wg : ¬ st.wh.op = 0 → gdX st.wh
theorem fndI_lt {d : List Tb} {nm : ByteArray} : fndI d nm < d.length := by
  have := ixF_le (p := fun t : Tb => decide (t.nm = nm)) d 0
  simpa using this
section
variable {d : List Tb} {st : St}
theorem chg_n (h : fndI d st.tb < 0) : chgB d st = (bd0, 4) := by unfold chgB; dsimp only; rw [if_pos h]
theorem chg_2 (h : ¬ fndI d st.tb < 0) (h2 : st.k = 2 ∧ (tupB (tbA d (fndI d st.tb)) st.vals [] []).2.2 ≠ 0) : chgB d st = (bd0, (tupB (tbA d (fndI d st.tb)) st.vals [] []).2.2) := by unfold chgB; dsimp only; rw [if_neg h, if_pos h2]
theorem chg_3 (h : ¬ fndI d st.tb < 0) (h2 : ¬ (st.k = 2 ∧ (tupB (tbA d (fndI d st.tb)) st.vals [] []).2.2 ≠ 0)) (h3 : st.k = 3 ∧ (asgB (tbA d (fndI d st.tb)) st.sets []).2 ≠ 0) : chgB d st = (bd0, (asgB (tbA d (fndI d st.tb)) st.sets []).2) := by unfold chgB; dsimp only; rw [if_neg h, if_neg h2, if_pos h3]
theorem chg_w (h : ¬ fndI d st.tb < 0) (h2 : ¬ (st.k = 2 ∧ (tupB (tbA d (fndI d st.tb)) st.vals [] []).2.2 ≠ 0)) (h3 : ¬ (st.k = 3 ∧ (asgB (tbA d (fndI d st.tb)) st.sets []).2 ≠ 0)) {b : Bd}
    (hb : b = ⟨⟨st.k, st.tb, st.cr, if st.k = 2 then (tupB (tbA d (fndI d st.tb)) st.vals [] []).1 else st.vals, if st.k = 3 then (asgB (tbA d (fndI d st.tb)) st.sets []).1 else st.sets, st.its, st.frm, (cndB (alnS (tbA d (fndI d st.tb))) st.wh).1, st.grp, st.ord, st.lim, st.nm⟩, fndI d st.tb, [fndI d st.tb], vrsT (tbA d (fndI d st.tb)), if st.k = 2 then (tupB (tbA d (fndI d st.tb)) st.vals [] []).2.1 else []⟩) :
    (cndB (alnS (tbA d (fndI d st.tb))) st.wh).2 = (chgB d st).2 ∧ ((chgB d st).2 = 0 → b = (chgB d st).1) := by
  unfold chgB; dsimp only; rw [if_neg h, if_neg h2, if_neg h3]
  by_cases h4 : (cndB (alnS (tbA d (fndI d st.tb))) st.wh).2 ≠ 0
  · rw [if_pos h4]; exact ⟨rfl, fun k => absurd k h4⟩
  · rw [if_neg h4]; exact ⟨qY.1 h4, fun _ => hb⟩
end
abbrev bdX (b : Bd) (e : Int) : X := .tup [bdC b, iC e]
theorem bdXe {b b' : Bd} {e e' : Int} (h : b = b') (h2 : e = e') : bdX b e = bdX b' e' := by rw [h, h2]
theorem change_any (d : List Tb) (z : Nz) (st : St) (hd : okDb d) (hst : okCh st) (H : Heap) : E.Spec Tryz.prog 28 [scC z d, stC st] H fun x H' => ∃ b, x = bdX b (chgB d st).2 ∧ ((chgB d st).2 = 0 → b = (chgB d st).1) ∧ H' = H := by
 refine Spec.enter Tryz.func28 rfl ?_
 refine AW.wk (wK 81 (l := [(0, .c (scC z d)), (1, .c (stC st))]) (ll := []) (H := (H))) ?_
 refine D3 ?_
 refine D3 ?_
 refine sQ (q_call _ rfl fn63 rfl (find_any d z st.tb (by have := hd.len; omega)) rfl) ?_
 refine G5 ?_
 refine AW.seq (D3 ?_)
 refine AW.cond _ rfl (fun h18 => ?_) (fun h18 => ?_)
 ·
  refine D1 ?_
  refine SeqK.xw 19 rfl (XW.g (xr2 (.cons (XW.nilU (sz := 6)) (.cons (XW.nilU (sz := 1)) (.cons (XW.nilU (sz := 3)) (.cons (XW.nilU (sz := 8)) (.cons (XW.nilU (sz := 1)) (.cons (XW.nilU (sz := 10)) (.cons (XW.nilU (sz := 9)) (.cons (XW.nilU (sz := 2)) (xr4 (xr2 (xr1 (.cons (XW.nilU (sz := 8)) (.cons (XW.nilU (sz := 8)) (.cons (XW.nilU (sz := 2)) (xr2 (xr1 (.cons (XW.nilU (sz := 1)) (.cons (XW.nilU (sz := 5)) (.cons (XW.nilU (sz := 1)) .nil))))))))))))))))))))) ?_
  refine G2 ?_
  exact aR (f2 (.cellL rfl rfl ty47 rfl rfl (.tmp rfl .nil)) (⟨bd0, bdXe (b := bd0) (e := 4) rfl (by rw [chg_n (by have := jK (bnt h18); omega)]), fun k => by rw [chg_n (by have := jK (bnt h18); omega)], rfl⟩))
 have hn0 : 0 ≤ fndI d st.tb := jJ (bnf h18)
 have hn : ¬ fndI d st.tb < 0 := by omega
 have hnm : max (fndI d st.tb) 0 = fndI d st.tb := by omega
 rw [hnm]
 have hnl := fndI_lt (d := d) (nm := st.tb)
 have hnt : (fndI d st.tb).toNat < d.length := by omega
 have hga : (tbA d (fndI d st.tb)) = d[(fndI d st.tb).toNat] := getD_at hnt
 have hok := hd.tb _ (qC hnt)
 rw [← hga] at hok
 have hidx : (d.map tbT)[(fndI d st.tb).toNat]? = some (tbT (tbA d (fndI d st.tb))) := by rw [qR, qF hnt, ← hga]; rfl
 refine AW.skip (AW.seq (AW.draw mo ?_))
 refine N3 ?_
 refine lQ (q_buildSlice _ rfl el43 rfl (by decide) rfl) ?_
 refine N2 ?_
 refine Z28 sl23 (hidx) ?_
 refine N1 ?_
 refine lQ (q_call _ rfl fn64 rfl (variables_any (tbA d (fndI d st.tb)) (by have := hok.cl; omega)) rfl) ?_
 refine lQ (q_build2 (zs := [_, _, _, _, _, _, _, _, _, _, _, _, _, _, _, _, _, _, _, _, _, _, _, _, _, _]) (r := [_, _, _, _, _, _, _, _, _, _, _, _, _, _, _, _, _, _, _, _, _, _, _, _, _, _]) [(0, 22), (22, 1), (23, 1), (24, 1), (25, 1)] _ rfl ze47 rfl bp47 rfl rfl rfl rfl) ?_
 refine LexK.r (b_alloc (r := [_, _, _, _, _, _, _, _, _, _, _, _, _, _, _, _, _, _, _, _, _, _, _, _, _, _]) rfl rfl ze47 rfl rfl rfl rfl) rfl ?_
 refine N2 ?_
 refine D1 ?_
 refine AW.seq (D3 ?_)
 refine AW.block (D2 ?_)
 refine cD ?_ ?_ <;> intro h32
 ·
  refine AW.draw mo ?_
  refine N2 ?_
  refine Z28 sl23 (hidx) ?_
  refine N3 ?_
  refine Z35 fn65 (tuples_any (tbA d (fndI d st.tb)) st.vals .un hst.vl hok.cl hok.ty hst.vg) ?_
  refine lQ (q_mvT rfl rfl) ?_
  refine N10 ?_
  refine AW.seq (D3 ?_)
  refine cD ?_ ?_ <;> intro h63
  ·
   refine D1 ?_
   refine SeqK.xw 64 rfl (XW.g (xr2 (.cons (XW.nilU (sz := 6)) (.cons (XW.nilU (sz := 1)) (.cons (XW.nilU (sz := 3)) (.cons (XW.nilU (sz := 8)) (.cons (XW.nilU (sz := 1)) (.cons (XW.nilU (sz := 10)) (.cons (XW.nilU (sz := 9)) (.cons (XW.nilU (sz := 2)) (xr4 (xr2 (xr1 (.cons (XW.nilU (sz := 8)) (.cons (XW.nilU (sz := 8)) (.cons (XW.nilU (sz := 2)) (xr2 (xr1 (.cons (XW.nilU (sz := 1)) (.cons (XW.nilU (sz := 5)) (.cons (XW.nilU (sz := 1)) .nil))))))))))))))))))))) ?_
   refine G3 ?_
   exact aR (f2 (.cellL rfl rfl ty47 rfl rfl (.tmp rfl .nil)) (⟨bd0, bdXe (b := bd0) (e := _) rfl (by first | rw [chg_2 hn ⟨h32, h63⟩] | rw [chg_3 hn (by rintro ⟨k, _⟩; omega) ⟨h48, h63⟩] | exact absurd rfl h63), fun k => by first | rw [chg_2 hn ⟨h32, h63⟩] | rw [chg_3 hn (by rintro ⟨k, _⟩; omega) ⟨h48, h63⟩] | exact absurd rfl h63, rfl⟩))
  refine AW.skip (AW.seq (AW.draw mo ?_))
  refine N2 ?_
  refine Z28 sl23 (hidx) ?_
  refine N1 ?_
  refine Z35 fn38 (alone_any (tbA d (fndI d st.tb))) ?_
  refine N2 ?_
  refine Z35 fn67 (condition_any (alnS (tbA d (fndI d st.tb))) st.wh (okAln hok.cl) (fun h => bdP_of (hst.wg h))) ?_
  refine lQ (q_mvT rfl rfl) ?_
  refine N7 ?_
  refine D1 ?_
  first | refine SeqK.xw 79 rfl (XW.g (xr16 (xr4 (xr2 (xr1 (.cons XW.un (.cons XW.reA (.cons (XW.nilU (sz := 1)) .nil)))))))) ?_ | refine SeqK.xw 79 rfl (XW.g (xr16 (xr4 (xr2 (xr1 (.cons XW.un (.cons XW.reA (.cons XW.reA .nil)))))))) ?_
  refine G3 ?_
  exact aR (f2 (.cellL rfl rfl ty47 rfl rfl (.tmp rfl .nil)) (⟨_, bdXe (b := ⟨⟨st.k, st.tb, st.cr, (tupB (tbA d (fndI d st.tb)) st.vals [] []).1, st.sets, st.its, st.frm, (cndB (alnS (tbA d (fndI d st.tb))) st.wh).1, st.grp, st.ord, st.lim, st.nm⟩, fndI d st.tb, [fndI d st.tb], vrsT (tbA d (fndI d st.tb)), (tupB (tbA d (fndI d st.tb)) st.vals [] []).2.1⟩) (e := (cndB (alnS (tbA d (fndI d st.tb))) st.wh).2) rfl (chg_w hn (by first | (rintro ⟨k, _⟩; omega) | (rintro ⟨_, k⟩; exact h63 k)) (by first | (rintro ⟨k, _⟩; omega) | (rintro ⟨_, k⟩; exact h63 k)) (b := ⟨⟨st.k, st.tb, st.cr, (tupB (tbA d (fndI d st.tb)) st.vals [] []).1, st.sets, st.its, st.frm, (cndB (alnS (tbA d (fndI d st.tb))) st.wh).1, st.grp, st.ord, st.lim, st.nm⟩, fndI d st.tb, [fndI d st.tb], vrsT (tbA d (fndI d st.tb)), (tupB (tbA d (fndI d st.tb)) st.vals [] []).2.1⟩) (by simp [h32])).1, (chg_w hn (by first | (rintro ⟨k, _⟩; omega) | (rintro ⟨_, k⟩; exact h63 k)) (by first | (rintro ⟨k, _⟩; omega) | (rintro ⟨_, k⟩; exact h63 k)) (b := ⟨⟨st.k, st.tb, st.cr, (tupB (tbA d (fndI d st.tb)) st.vals [] []).1, st.sets, st.its, st.frm, (cndB (alnS (tbA d (fndI d st.tb))) st.wh).1, st.grp, st.ord, st.lim, st.nm⟩, fndI d st.tb, [fndI d st.tb], vrsT (tbA d (fndI d st.tb)), (tupB (tbA d (fndI d st.tb)) st.vals [] []).2.1⟩) (by simp [h32])).2, rfl⟩))
 refine D2 ?_
 refine cD ?_ ?_ <;> intro h48
 rotate_left
 ·
  refine AW.skip (AW.seq (D3 ?_))
  refine cD ?_ ?_ <;> intro h63
  ·
   refine D1 ?_
   refine SeqK.xw 64 rfl (XW.g (xr2 (.cons (XW.nilU (sz := 6)) (.cons (XW.nilU (sz := 1)) (.cons (XW.nilU (sz := 3)) (.cons (XW.nilU (sz := 8)) (.cons (XW.nilU (sz := 1)) (.cons (XW.nilU (sz := 10)) (.cons (XW.nilU (sz := 9)) (.cons (XW.nilU (sz := 2)) (xr4 (xr2 (xr1 (.cons (XW.nilU (sz := 8)) (.cons (XW.nilU (sz := 8)) (.cons (XW.nilU (sz := 2)) (xr2 (xr1 (.cons (XW.nilU (sz := 1)) (.cons (XW.nilU (sz := 5)) (.cons (XW.nilU (sz := 1)) .nil))))))))))))))))))))) ?_
   refine G3 ?_
   exact aR (f2 (.cellL rfl rfl ty47 rfl rfl (.tmp rfl .nil)) (⟨bd0, bdXe (b := bd0) (e := _) rfl (by first | rw [chg_2 hn ⟨h32, h63⟩] | rw [chg_3 hn (by rintro ⟨k, _⟩; omega) ⟨h48, h63⟩] | exact absurd rfl h63), fun k => by first | rw [chg_2 hn ⟨h32, h63⟩] | rw [chg_3 hn (by rintro ⟨k, _⟩; omega) ⟨h48, h63⟩] | exact absurd rfl h63, rfl⟩))
  refine AW.skip (AW.seq (AW.draw mo ?_))
  refine N2 ?_
  refine Z28 sl23 (hidx) ?_
  refine N1 ?_
  refine Z35 fn38 (alone_any (tbA d (fndI d st.tb))) ?_
  refine N2 ?_
  refine Z35 fn67 (condition_any (alnS (tbA d (fndI d st.tb))) st.wh (okAln hok.cl) (fun h => bdP_of (hst.wg h))) ?_
  refine lQ (q_mvT rfl rfl) ?_
  refine N7 ?_
  refine D1 ?_
  first | refine SeqK.xw 79 rfl (XW.g (xr16 (xr4 (xr2 (xr1 (.cons XW.un (.cons XW.reA (.cons (XW.nilU (sz := 1)) .nil)))))))) ?_ | refine SeqK.xw 79 rfl (XW.g (xr16 (xr4 (xr2 (xr1 (.cons XW.un (.cons XW.reA (.cons XW.reA .nil)))))))) ?_
  refine G3 ?_
  exact aR (f2 (.cellL rfl rfl ty47 rfl rfl (.tmp rfl .nil)) (⟨_, bdXe (b := ⟨⟨st.k, st.tb, st.cr, st.vals, st.sets, st.its, st.frm, (cndB (alnS (tbA d (fndI d st.tb))) st.wh).1, st.grp, st.ord, st.lim, st.nm⟩, fndI d st.tb, [fndI d st.tb], vrsT (tbA d (fndI d st.tb)), []⟩) (e := (cndB (alnS (tbA d (fndI d st.tb))) st.wh).2) rfl (chg_w hn (by first | (rintro ⟨k, _⟩; omega) | (rintro ⟨_, k⟩; exact h63 k)) (by first | (rintro ⟨k, _⟩; omega) | (rintro ⟨_, k⟩; exact h63 k)) (b := ⟨⟨st.k, st.tb, st.cr, st.vals, st.sets, st.its, st.frm, (cndB (alnS (tbA d (fndI d st.tb))) st.wh).1, st.grp, st.ord, st.lim, st.nm⟩, fndI d st.tb, [fndI d st.tb], vrsT (tbA d (fndI d st.tb)), []⟩) (by simp [h32, h48])).1, (chg_w hn (by first | (rintro ⟨k, _⟩; omega) | (rintro ⟨_, k⟩; exact h63 k)) (by first | (rintro ⟨k, _⟩; omega) | (rintro ⟨_, k⟩; exact h63 k)) (b := ⟨⟨st.k, st.tb, st.cr, st.vals, st.sets, st.its, st.frm, (cndB (alnS (tbA d (fndI d st.tb))) st.wh).1, st.grp, st.ord, st.lim, st.nm⟩, fndI d st.tb, [fndI d st.tb], vrsT (tbA d (fndI d st.tb)), []⟩) (by simp [h32, h48])).2, rfl⟩))
 refine AW.draw mo ?_
 refine N2 ?_
 refine Z28 sl23 (hidx) ?_
 refine N3 ?_
 refine Z35 fn66 (assignments_any (tbA d (fndI d st.tb)) st.sets .un hst.sl hok.cl hst.sg) ?_
 refine lQ (q_mvT rfl rfl) ?_
 refine N7 ?_
 refine AW.seq (D3 ?_)
 refine cD ?_ ?_ <;> intro h63
 ·
  refine D1 ?_
  refine SeqK.xw 64 rfl (XW.g (xr2 (.cons (XW.nilU (sz := 6)) (.cons (XW.nilU (sz := 1)) (.cons (XW.nilU (sz := 3)) (.cons (XW.nilU (sz := 8)) (.cons (XW.nilU (sz := 1)) (.cons (XW.nilU (sz := 10)) (.cons (XW.nilU (sz := 9)) (.cons (XW.nilU (sz := 2)) (xr4 (xr2 (xr1 (.cons (XW.nilU (sz := 8)) (.cons (XW.nilU (sz := 8)) (.cons (XW.nilU (sz := 2)) (xr2 (xr1 (.cons (XW.nilU (sz := 1)) (.cons (XW.nilU (sz := 5)) (.cons (XW.nilU (sz := 1)) .nil))))))))))))))))))))) ?_
  refine G3 ?_
  exact aR (f2 (.cellL rfl rfl ty47 rfl rfl (.tmp rfl .nil)) (⟨bd0, bdXe (b := bd0) (e := _) rfl (by first | rw [chg_2 hn ⟨h32, h63⟩] | rw [chg_3 hn (by rintro ⟨k, _⟩; omega) ⟨h48, h63⟩] | exact absurd rfl h63), fun k => by first | rw [chg_2 hn ⟨h32, h63⟩] | rw [chg_3 hn (by rintro ⟨k, _⟩; omega) ⟨h48, h63⟩] | exact absurd rfl h63, rfl⟩))
 refine AW.skip (AW.seq (AW.draw mo ?_))
 refine N2 ?_
 refine Z28 sl23 (hidx) ?_
 refine N1 ?_
 refine Z35 fn38 (alone_any (tbA d (fndI d st.tb))) ?_
 refine N2 ?_
 refine Z35 fn67 (condition_any (alnS (tbA d (fndI d st.tb))) st.wh (okAln hok.cl) (fun h => bdP_of (hst.wg h))) ?_
 refine lQ (q_mvT rfl rfl) ?_
 refine N7 ?_
 refine D1 ?_
 first | refine SeqK.xw 79 rfl (XW.g (xr16 (xr4 (xr2 (xr1 (.cons XW.un (.cons XW.reA (.cons (XW.nilU (sz := 1)) .nil)))))))) ?_ | refine SeqK.xw 79 rfl (XW.g (xr16 (xr4 (xr2 (xr1 (.cons XW.un (.cons XW.reA (.cons XW.reA .nil)))))))) ?_
 refine G3 ?_
 exact aR (f2 (.cellL rfl rfl ty47 rfl rfl (.tmp rfl .nil)) (⟨_, bdXe (b := ⟨⟨st.k, st.tb, st.cr, st.vals, (asgB (tbA d (fndI d st.tb)) st.sets []).1, st.its, st.frm, (cndB (alnS (tbA d (fndI d st.tb))) st.wh).1, st.grp, st.ord, st.lim, st.nm⟩, fndI d st.tb, [fndI d st.tb], vrsT (tbA d (fndI d st.tb)), []⟩) (e := (cndB (alnS (tbA d (fndI d st.tb))) st.wh).2) rfl (chg_w hn (by first | (rintro ⟨k, _⟩; omega) | (rintro ⟨_, k⟩; exact h63 k)) (by first | (rintro ⟨k, _⟩; omega) | (rintro ⟨_, k⟩; exact h63 k)) (b := ⟨⟨st.k, st.tb, st.cr, st.vals, (asgB (tbA d (fndI d st.tb)) st.sets []).1, st.its, st.frm, (cndB (alnS (tbA d (fndI d st.tb))) st.wh).1, st.grp, st.ord, st.lim, st.nm⟩, fndI d st.tb, [fndI d st.tb], vrsT (tbA d (fndI d st.tb)), []⟩) (by simp [h32, h48])).1, (chg_w hn (by first | (rintro ⟨k, _⟩; omega) | (rintro ⟨_, k⟩; exact h63 k)) (by first | (rintro ⟨k, _⟩; omega) | (rintro ⟨_, k⟩; exact h63 k)) (b := ⟨⟨st.k, st.tb, st.cr, st.vals, (asgB (tbA d (fndI d st.tb)) st.sets []).1, st.its, st.frm, (cndB (alnS (tbA d (fndI d st.tb))) st.wh).1, st.grp, st.ord, st.lim, st.nm⟩, fndI d st.tb, [fndI d st.tb], vrsT (tbA d (fndI d st.tb)), []⟩) (by simp [h32, h48])).2, rfl⟩))
end Go.Proofs.YtgnnjebfoffphaaGreatDoor.W
