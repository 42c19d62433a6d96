/- Parts of the proof, one after the other: W22, W23, R1. No condition. -/
import Derived.Test.YtnmfjojhgfipcaaGreatDoorM17
namespace Go.Proofs.YtnmfjojhgfipcaaGreatDoor.W
open Go.RowKit E
set_option linter.unusedVariables false
set_option linter.unusedSimpArgs false
set_option linter.unusedSectionVars false
/-! the reference's text of a clause -/
theorem ax_len (v t : ByteArray) : v ++ ⟨#[32, 61, 32, 108, 101, 110, 103, 116, 104, 40]⟩ ++ t ++ ⟨#[41]⟩ = v ++ ⟨#[32, 61, 32]⟩ ++ (⟨#[108, 101, 110, 103, 116, 104, 40]⟩ ++ t ++ ⟨#[41]⟩) := by
  rw [show (⟨#[32, 61, 32, 108, 101, 110, 103, 116, 104, 40]⟩ : ByteArray) = ⟨#[32, 61, 32]⟩ ++ ⟨#[108, 101, 110, 103, 116, 104, 40]⟩ from rfl]; simp only [ByteArray.append_assoc]
theorem ax_div (v t d : ByteArray) : v ++ ⟨#[32, 61, 32, 100, 105, 118, 40]⟩ ++ t ++ ⟨#[44, 32]⟩ ++ d ++ ⟨#[41]⟩ = v ++ ⟨#[32, 61, 32]⟩ ++ (⟨#[100, 105, 118, 40]⟩ ++ t ++ ⟨#[44, 32]⟩ ++ d ++ ⟨#[41]⟩) := by
  rw [show (⟨#[32, 61, 32, 100, 105, 118, 40]⟩ : ByteArray) = ⟨#[32, 61, 32]⟩ ++ ⟨#[100, 105, 118, 40]⟩ from rfl]; simp only [ByteArray.append_assoc]
theorem join_next {l : List ByteArray} {i : Nat} (h1 : 1 ≤ i) (hi : i < l.length) : joinB (l.take (i + 1)) andB = joinB (l.take i) andB ++ andB ++ l[i] := by
  rw [take_put hi, join_snoc, if_neg (fun e => (List.take_eq_nil_iff.1 e).elim (fun h9 => absurd h9 (by omega)) fun h9 => by rw [h9] at hi; exact absurd hi (by simp))]
theorem join_one {l : List ByteArray} (h : 0 < l.length) : joinB (l.take 1) andB = l[0] := by
  rw [take_put h, join_snoc, if_pos (by simp)]

set_option maxHeartbeats 8000000 in
set_option maxRecDepth 20000 in
theorem rformat_any (c : Cl) (n : Nat) (hF : okFm c n) : Pure Tryz.prog 9 [clC c, iC (n : Int)] (.c (sC (fmtC c n))) := by
  have c0 : (⟨#[32, 73, 83, 32, 78, 85, 76, 76]⟩ : ByteArray).size = 8 := rfl
  have c1 : (⟨#[32, 73, 83, 32, 78, 79, 84, 32, 78, 85, 76, 76]⟩ : ByteArray).size = 12 := rfl
  have c2 : (⟨#[108, 101, 110, 103, 116, 104, 40]⟩ : ByteArray).size = 7 := rfl
  have c3 : (⟨#[41]⟩ : ByteArray).size = 1 := rfl
  have c4 : (⟨#[100, 105, 118, 40]⟩ : ByteArray).size = 4 := rfl
  have c5 : (⟨#[44, 32]⟩ : ByteArray).size = 2 := rfl
  have c6 : (⟨#[32, 61, 32]⟩ : ByteArray).size = 3 := rfl
  have c7 : (⟨#[32, 60, 61, 32, 48]⟩ : ByteArray).size = 5 := rfl
  have c8 : (⟨#[32, 61, 32, 48]⟩ : ByteArray).size = 4 := rfl
  have c9 : (⟨#[32]⟩ : ByteArray).size = 1 := rfl
  have c10 : (⟨#[32, 60, 62, 32]⟩ : ByteArray).size = 4 := rfl
  have c11 : (⟨#[32, 65, 78, 68, 32]⟩ : ByteArray).size = 5 := rfl
  have c12 : (⟨#[32, 61, 32, 108, 101, 110, 103, 116, 104, 40]⟩ : ByteArray).size = 10 := rfl
  have c13 : (⟨#[32, 61, 32, 100, 105, 118, 40]⟩ : ByteArray).size = 7 := rfl
  have hn := hF.n
  have hN0 := hF.tot
  have hN : lenN c = c.nl.length + c.nn.length + c.ax.length + c.is.length + c.ts.length + c.sm.length + c.df.length := rfl
  intro H
  refine Spec.enter Tryz.func9 rfl ?_
  refine AW.wk (Wk.keep 210 [(0, .c (clC c)), (1, .c (iC (n : Int)))] [] (H) rfl ⟨rfl, rfl, trivial⟩ trivial (fun _ _ h => h) rfl) ?_
  refine AW.seq ?_
  refine AW.reg ?_
  refine SeqK.r (b_box (r := [_, _, _, _, _, _, _]) rfl rfl rfl rfl rfl rfl) rfl ?_
  refine SeqK.q (q_asC rfl rfl) rfl rfl rfl ?_
  refine SeqK.nil ?_
  refine AW.seq ?_
  refine AW.reg ?_
  refine SeqK.q (q_asC rfl rfl) rfl rfl rfl ?_
  refine SeqK.nil ?_
  refine AW.seq ?_
  refine AW.seq ?_
  refine AW.tip 5 9 1 rfl (fun k0 hk0 => ?_)
  refine AW.reg ?_
  refine SeqK.q (q_asC rfl rfl) rfl rfl rfl ?_
  refine SeqK.nil ?_
  refine AW.block ?_
  refine AW.loop (fun (i : Nat) s => ∃ (kt : Nat) (zs : List (List E.T)), (i ≤ c.nl.length ∧ H kt = none ∧ zs = (([] : List ByteArray) ++ (c.nl.take i).map nlX).map txT) ∧ s = ⟨210, sp [(1, .c (iC (n : Int))), (2, .lp 2 0), (4, .c (sC ⟨#[]⟩)), (5, .c (.a (.ts kt .ne 1 zs))), (6, iX .i64 ((i : Nat) : Int))], lv [(2, .box [.t (.sl .un 1 (c.nl.map i64T)), .t (.sl .un 1 (c.nn.map i64T)), .t (.sl .un 4 (c.ax.map axT)), .t (.sl .un 3 (c.is.map ctT)), .t (.sl .un 4 (c.ts.map tsT)), .t (.sl .un 2 (c.sm.map prT)), .t (.sl .un 2 (c.df.map prT))])], upd H kt (some (.tip 9 1 zs.length))⟩) (fun i => c.nl.length - i) 0 ⟨_, Wk.keep 210 [(1, .c (iC (n : Int))), (2, .lp 2 0), (4, .c (sC ⟨#[]⟩)), (5, .c (.a (.ts (k0) .ne 1 ([])))), (6, iX .i64 ((((0 : Nat)) : Nat) : Int))] [(2, .box [.t (.sl .un 1 (c.nl.map i64T)), .t (.sl .un 1 (c.nn.map i64T)), .t (.sl .un 4 (c.ax.map axT)), .t (.sl .un 3 (c.is.map ctT)), .t (.sl .un 4 (c.ts.map tsT)), .t (.sl .un 2 (c.sm.map prT)), .t (.sl .un 2 (c.df.map prT))])] (upd H (k0) (some (.tip 9 1 ([]).length))) rfl ⟨rfl, rfl, rfl, rfl, rfl, trivial⟩ ⟨rfl, trivial⟩ (fun _ _ h => h) rfl, k0, [], ⟨Nat.zero_le _, hk0, by simp⟩, rfl⟩ (fun i s hs => ?_)
  obtain ⟨kt, zs, ⟨hi0, hkt, hzs⟩, rfl⟩ := hs
  refine AW.seq ?_
  refine AW.seq ?_
  refine AW.reg ?_
  refine SeqK.q (q_mvC rfl rfl) rfl rfl rfl ?_
  refine SeqK.q (q_fieldL _ rfl Fx.fl28_0 rfl rfl) rfl rfl rfl ?_
  refine SeqK.r (b_load (r := .a _) rfl Fx.ty22 rfl rfl rfl rfl rfl rfl) rfl ?_
  refine SeqK.q (q_len rfl Fx.un22 rfl) rfl rfl rfl ?_
  refine SeqK.q (q_lss rfl rfl rfl) rfl rfl rfl ?_
  refine SeqK.nil ?_
  refine AW.condD rfl (fun h21 => ?_) (fun h21 => ?_)
  ·
    have hi : i < c.nl.length := by rw [List.length_map] at h21; omega
    have hm := List.getElem_mem hi
    have hq := hF.nl _ hm
    have hs1 := nmB_size hq.2
    refine AW.skip ?_
    refine AW.seq ?_
    refine AW.block ?_
    refine AW.reg ?_
    refine SeqK.q (q_mvC rfl rfl) rfl rfl rfl ?_
    refine SeqK.q (q_fieldL _ rfl Fx.fl28_0 rfl rfl) rfl rfl rfl ?_
    refine SeqK.r (b_load (r := .a _) rfl Fx.ty22 rfl rfl rfl rfl rfl rfl) rfl ?_
    refine SeqK.q (q_mvC rfl rfl) rfl rfl rfl ?_
    refine SeqK.q (q_index _ rfl Fx.sl22 rfl rfl (by omega) (idx_map (f := i64T) hi)) rfl rfl rfl ?_
    refine SeqK.q (q_load (.a _) rfl Fx.ty3 rfl rfl rfl) rfl rfl rfl ?_
    refine SeqK.q (q_call _ rfl Fx.fn25 rfl (name_any _ hq.1 hq.2) rfl) rfl rfl rfl ?_
    refine SeqK.q (q_addS rfl rfl rfl (by first | omega | (simp only [ByteArray.size_append]; omega))) rfl rfl rfl ?_
    refine SeqK.q (q_buildSlice _ rfl Fx.el73 rfl (by decide) rfl) rfl rfl rfl ?_
    refine SeqK.app1 rfl (hkt) rfl Fx.el73 rfl rfl (by have hN := hF.tot; unfold lenN at hN; simp [hzs, pre7, pre6, pre5, pre4, pre3, pre2, pre1]; omega) rfl rfl (fun k33 hk33 => ?_)
    refine SeqK.q (q_asC rfl rfl) rfl rfl rfl ?_
    refine SeqK.nil ?_
    refine AW.reg ?_
    refine SeqK.q (q_mvC rfl rfl) rfl rfl rfl ?_
    refine SeqK.q (q_add _ rfl rfl rfl (w64 (by omega) (by omega))) rfl rfl rfl ?_
    refine SeqK.q (q_asC rfl rfl) rfl rfl rfl ?_
    refine SeqK.nil ?_
    exact ⟨i + 1, _, Wk.keep 210 [(1, .c (iC (n : Int))), (2, .lp 2 0), (4, .c (sC ⟨#[]⟩)), (5, .c (.a (.ts (k33) .ne 1 (zs ++ [txT (nlX c.nl[i])])))), (6, iX .i64 (((i + 1) : Nat) : Int))] [(2, .box [.t (.sl .un 1 (c.nl.map i64T)), .t (.sl .un 1 (c.nn.map i64T)), .t (.sl .un 4 (c.ax.map axT)), .t (.sl .un 3 (c.is.map ctT)), .t (.sl .un 4 (c.ts.map tsT)), .t (.sl .un 2 (c.sm.map prT)), .t (.sl .un 2 (c.df.map prT))])] (upd H (k33) (some (.tip 9 1 (zs ++ [txT (nlX c.nl[i])]).length))) rfl ⟨rfl, rfl, rfl, rfl, rfl, trivial⟩ ⟨rfl, trivial⟩ (fun _ _ h => h) rfl, by omega, k33, zs ++ [txT (nlX c.nl[i])], ⟨hi, hk33, by rw [hzs, take_put hi]; simp only [List.map_append, List.map_cons, List.map_nil]; simp only [List.append_assoc, List.map_nil, List.nil_append]⟩, rfl⟩
  ·
    refine AW.exit ?_
    refine eth_e ?_
    refine eth_e ?_
    refine exit_here ?_
    refine AW.seq ?_
    refine AW.seq ?_
    obtain rfl : i = c.nl.length := by rw [List.length_map] at h21; omega
    rw [List.take_length] at hzs
    have hzs : zs = (pre1 c).map txT := by rw [hzs]; rfl
    refine AW.reg ?_
    refine SeqK.q (q_asC rfl rfl) rfl rfl rfl ?_
    refine SeqK.nil ?_
    refine AW.block ?_
    refine AW.loop (fun (i : Nat) s => ∃ (kt : Nat) (zs : List (List E.T)), (i ≤ c.nn.length ∧ H kt = none ∧ zs = (pre1 c ++ (c.nn.take i).map nnX).map txT) ∧ s = ⟨210, sp [(1, .c (iC (n : Int))), (2, .lp 2 0), (4, .c (sC ⟨#[]⟩)), (5, .c (.a (.ts kt .ne 1 zs))), (7, iX .i64 ((i : Nat) : Int))], lv [(2, .box [.t (.sl .un 1 (c.nl.map i64T)), .t (.sl .un 1 (c.nn.map i64T)), .t (.sl .un 4 (c.ax.map axT)), .t (.sl .un 3 (c.is.map ctT)), .t (.sl .un 4 (c.ts.map tsT)), .t (.sl .un 2 (c.sm.map prT)), .t (.sl .un 2 (c.df.map prT))])], upd H kt (some (.tip 9 1 zs.length))⟩) (fun i => c.nn.length - i) 0 ⟨_, Wk.keep 210 [(1, .c (iC (n : Int))), (2, .lp 2 0), (4, .c (sC ⟨#[]⟩)), (5, .c (.a (.ts (kt) .ne 1 (zs)))), (7, iX .i64 ((((0 : Nat)) : Nat) : Int))] [(2, .box [.t (.sl .un 1 (c.nl.map i64T)), .t (.sl .un 1 (c.nn.map i64T)), .t (.sl .un 4 (c.ax.map axT)), .t (.sl .un 3 (c.is.map ctT)), .t (.sl .un 4 (c.ts.map tsT)), .t (.sl .un 2 (c.sm.map prT)), .t (.sl .un 2 (c.df.map prT))])] (upd H (kt) (some (.tip 9 1 (zs).length))) rfl ⟨rfl, rfl, rfl, rfl, rfl, trivial⟩ ⟨rfl, trivial⟩ (fun _ _ h => h) rfl, kt, zs, ⟨Nat.zero_le _, hkt, by rw [hzs, List.take_zero]; simp⟩, rfl⟩ (fun i s hs => ?_)
    obtain ⟨kt, zs, ⟨hi0, hkt, hzs⟩, rfl⟩ := hs
    refine AW.seq ?_
    refine AW.seq ?_
    refine AW.reg ?_
    refine SeqK.q (q_mvC rfl rfl) rfl rfl rfl ?_
    refine SeqK.q (q_fieldL _ rfl Fx.fl28_1 rfl rfl) rfl rfl rfl ?_
    refine SeqK.r (b_load (r := .a _) rfl Fx.ty22 rfl rfl rfl rfl rfl rfl) rfl ?_
    refine SeqK.q (q_len rfl Fx.un22 rfl) rfl rfl rfl ?_
    refine SeqK.q (q_lss rfl rfl rfl) rfl rfl rfl ?_
    refine SeqK.nil ?_
    refine AW.condD rfl (fun h38 => ?_) (fun h38 => ?_)
    ·
      have hi : i < c.nn.length := by rw [List.length_map] at h38; omega
      have hm := List.getElem_mem hi
      have hq := hF.nn _ hm
      have hs1 := nmB_size hq.2
      refine AW.skip ?_
      refine AW.seq ?_
      refine AW.block ?_
      refine AW.reg ?_
      refine SeqK.q (q_mvC rfl rfl) rfl rfl rfl ?_
      refine SeqK.q (q_fieldL _ rfl Fx.fl28_1 rfl rfl) rfl rfl rfl ?_
      refine SeqK.r (b_load (r := .a _) rfl Fx.ty22 rfl rfl rfl rfl rfl rfl) rfl ?_
      refine SeqK.q (q_mvC rfl rfl) rfl rfl rfl ?_
      refine SeqK.q (q_index _ rfl Fx.sl22 rfl rfl (by omega) (idx_map (f := i64T) hi)) rfl rfl rfl ?_
      refine SeqK.q (q_load (.a _) rfl Fx.ty3 rfl rfl rfl) rfl rfl rfl ?_
      refine SeqK.q (q_call _ rfl Fx.fn25 rfl (name_any _ hq.1 hq.2) rfl) rfl rfl rfl ?_
      refine SeqK.q (q_addS rfl rfl rfl (by first | omega | (simp only [ByteArray.size_append]; omega))) rfl rfl rfl ?_
      refine SeqK.q (q_buildSlice _ rfl Fx.el73 rfl (by decide) rfl) rfl rfl rfl ?_
      refine SeqK.app1 rfl (hkt) rfl Fx.el73 rfl rfl (by have hN := hF.tot; unfold lenN at hN; simp [hzs, pre7, pre6, pre5, pre4, pre3, pre2, pre1]; omega) rfl rfl (fun k50 hk50 => ?_)
      refine SeqK.q (q_asC rfl rfl) rfl rfl rfl ?_
      refine SeqK.nil ?_
      refine AW.reg ?_
      refine SeqK.q (q_mvC rfl rfl) rfl rfl rfl ?_
      refine SeqK.q (q_add _ rfl rfl rfl (w64 (by omega) (by omega))) rfl rfl rfl ?_
      refine SeqK.q (q_asC rfl rfl) rfl rfl rfl ?_
      refine SeqK.nil ?_
      exact ⟨i + 1, _, Wk.keep 210 [(1, .c (iC (n : Int))), (2, .lp 2 0), (4, .c (sC ⟨#[]⟩)), (5, .c (.a (.ts (k50) .ne 1 (zs ++ [txT (nnX c.nn[i])])))), (7, iX .i64 (((i + 1) : Nat) : Int))] [(2, .box [.t (.sl .un 1 (c.nl.map i64T)), .t (.sl .un 1 (c.nn.map i64T)), .t (.sl .un 4 (c.ax.map axT)), .t (.sl .un 3 (c.is.map ctT)), .t (.sl .un 4 (c.ts.map tsT)), .t (.sl .un 2 (c.sm.map prT)), .t (.sl .un 2 (c.df.map prT))])] (upd H (k50) (some (.tip 9 1 (zs ++ [txT (nnX c.nn[i])]).length))) rfl ⟨rfl, rfl, rfl, rfl, rfl, trivial⟩ ⟨rfl, trivial⟩ (fun _ _ h => h) rfl, by omega, k50, zs ++ [txT (nnX c.nn[i])], ⟨hi, hk50, by rw [hzs, take_put hi]; simp only [List.map_append, List.map_cons, List.map_nil]; simp only [List.append_assoc, List.map_nil, List.nil_append]⟩, rfl⟩
    ·
      refine AW.exit ?_
      refine eth_e ?_
      refine eth_e ?_
      refine exit_here ?_
      refine AW.seq ?_
      refine AW.seq ?_
      obtain rfl : i = c.nn.length := by rw [List.length_map] at h38; omega
      rw [List.take_length] at hzs
      have hzs : zs = (pre2 c).map txT := hzs
      refine AW.reg ?_
      refine SeqK.q (q_asC rfl rfl) rfl rfl rfl ?_
      refine SeqK.nil ?_
      refine AW.block ?_
      refine AW.loop (fun (i : Nat) s => ∃ (kt : Nat) (zs : List (List E.T)), (i ≤ c.ax.length ∧ H kt = none ∧ zs = (pre2 c ++ (c.ax.take i).mapIdx (axX n)).map txT) ∧ s = ⟨210, sp [(1, .c (iC (n : Int))), (2, .lp 2 0), (4, .c (sC ⟨#[]⟩)), (5, .c (.a (.ts kt .ne 1 zs))), (8, iX .i64 ((i : Nat) : Int))], lv [(2, .box [.t (.sl .un 1 (c.nl.map i64T)), .t (.sl .un 1 (c.nn.map i64T)), .t (.sl .un 4 (c.ax.map axT)), .t (.sl .un 3 (c.is.map ctT)), .t (.sl .un 4 (c.ts.map tsT)), .t (.sl .un 2 (c.sm.map prT)), .t (.sl .un 2 (c.df.map prT))])], upd H kt (some (.tip 9 1 zs.length))⟩) (fun i => c.ax.length - i) 0 ⟨_, Wk.keep 210 [(1, .c (iC (n : Int))), (2, .lp 2 0), (4, .c (sC ⟨#[]⟩)), (5, .c (.a (.ts (kt) .ne 1 (zs)))), (8, iX .i64 ((((0 : Nat)) : Nat) : Int))] [(2, .box [.t (.sl .un 1 (c.nl.map i64T)), .t (.sl .un 1 (c.nn.map i64T)), .t (.sl .un 4 (c.ax.map axT)), .t (.sl .un 3 (c.is.map ctT)), .t (.sl .un 4 (c.ts.map tsT)), .t (.sl .un 2 (c.sm.map prT)), .t (.sl .un 2 (c.df.map prT))])] (upd H (kt) (some (.tip 9 1 (zs).length))) rfl ⟨rfl, rfl, rfl, rfl, rfl, trivial⟩ ⟨rfl, trivial⟩ (fun _ _ h => h) rfl, kt, zs, ⟨Nat.zero_le _, hkt, by rw [hzs, List.take_zero]; simp⟩, rfl⟩ (fun i s hs => ?_)
      obtain ⟨kt, zs, ⟨hi0, hkt, hzs⟩, rfl⟩ := hs
      refine AW.seq ?_
      refine AW.seq ?_
      refine AW.reg ?_
      refine SeqK.q (q_mvC rfl rfl) rfl rfl rfl ?_
      refine SeqK.q (q_fieldL _ rfl Fx.fl28_2 rfl rfl) rfl rfl rfl ?_
      refine SeqK.r (b_load (r := .a _) rfl Fx.ty23 rfl rfl rfl rfl rfl rfl) rfl ?_
      refine SeqK.q (q_len rfl Fx.un23 rfl) rfl rfl rfl ?_
      refine SeqK.q (q_lss rfl rfl rfl) rfl rfl rfl ?_
      refine SeqK.nil ?_
      refine AW.condD rfl (fun h55 => ?_) (fun h55 => ?_)
      ·
        have hi : i < c.ax.length := by rw [List.length_map] at h55; omega
        have hm := List.getElem_mem hi
        have hq := hF.ax _ hm
        have hs1 := nmB_size hq.2.1.2
        have hvn := vN (i := i) hn (by omega)
        have hs2 := nmB_size hvn.2
        have hs3 := fmtL_size hq.1
        have hs4 := decB_size hq.2.2.2
        refine AW.skip ?_
        refine AW.seq ?_
        refine AW.block ?_
        refine AW.seq ?_
        refine AW.reg ?_
        refine SeqK.q (q_fieldL _ rfl Fx.fl28_2 rfl rfl) rfl rfl rfl ?_
        refine SeqK.r (b_load (r := .a _) rfl Fx.ty23 rfl rfl rfl rfl rfl rfl) rfl ?_
        refine SeqK.q (q_mvC rfl rfl) rfl rfl rfl ?_
        refine SeqK.q (q_index _ rfl Fx.sl23 rfl rfl (by omega) (idx_map (f := axT) hi)) rfl rfl rfl ?_
        refine SeqK.q (q_load (.g [_, _, _, _]) rfl Fx.ty63 rfl rfl rfl) rfl rfl rfl ?_
        refine SeqK.r (b_alloc (r := [_, _, _, _]) rfl rfl Fx.ze63 rfl rfl rfl rfl) rfl ?_
        refine SeqK.r (b_store (r := [_, _, _, _]) rfl rfl Fx.ty63 rfl rfl rfl rfl rfl rfl) rfl ?_
        refine SeqK.nil ?_
        refine AW.seq ?_
        refine AW.reg ?_
        refine SeqK.q (q_fieldL _ rfl Fx.fl63_1 rfl rfl) rfl rfl rfl ?_
        refine SeqK.r (b_load (r := .a _) rfl Fx.ty2 rfl rfl rfl rfl rfl rfl) rfl ?_
        refine SeqK.q (q_eql rfl rfl rfl) rfl rfl rfl ?_
        refine SeqK.nil ?_
        refine AW.condD rfl (fun h65 => ?_) (fun h65 => ?_)
        ·
          refine AW.drawO [0, 1, 2, 3, 4, 5, 6, 7, 8, 9, 10, 11, 12, 13] Fx.mo (by kernel_rfl) ?_
          refine LexO.q rfl (by kernel_rfl) (q_mvC rfl rfl) rfl rfl rfl ?_
          refine LexO.q rfl (by kernel_rfl) (q_mvC rfl rfl) rfl rfl rfl ?_
          refine LexO.q rfl (by kernel_rfl) (q_mvC rfl rfl) rfl rfl rfl ?_
          refine LexO.q rfl (by kernel_rfl) (q_add _ rfl rfl rfl (w64 (by omega) (by omega))) rfl rfl rfl ?_
          refine LexO.q rfl (by kernel_rfl) (q_call _ rfl Fx.fn25 rfl (name_any _ hvn.1 hvn.2) rfl) rfl rfl rfl ?_
          refine LexO.q rfl (by kernel_rfl) (q_addS rfl rfl rfl (by first | omega | (simp only [ByteArray.size_append]; omega))) rfl rfl rfl ?_
          refine LexO.q rfl (by kernel_rfl) (q_fieldL _ rfl Fx.fl63_2 rfl rfl) rfl rfl rfl ?_
          refine LexO.r rfl (by kernel_rfl) (b_load (r := .a _) rfl Fx.ty3 rfl rfl rfl rfl rfl rfl) rfl ?_
          refine LexO.q rfl (by kernel_rfl) (q_call _ rfl Fx.fn25 rfl (name_any _ hq.2.1.1 hq.2.1.2) rfl) rfl rfl rfl ?_
          refine LexO.q rfl (by kernel_rfl) (q_addS rfl rfl rfl (by first | omega | (simp only [ByteArray.size_append]; omega))) rfl rfl rfl ?_
          refine LexO.q rfl (by kernel_rfl) (q_addS rfl rfl rfl (by first | omega | (simp only [ByteArray.size_append]; omega))) rfl rfl rfl ?_
          refine LexO.q rfl (by kernel_rfl) (q_buildSlice _ rfl Fx.el73 rfl (by decide) rfl) rfl rfl rfl ?_
          refine LexO.app1 rfl (by kernel_rfl) (by kernel_rfl) (by kernel_rfl) rfl (hkt) rfl Fx.el73 rfl rfl (by have hN := hF.tot; unfold lenN at hN; simp [hzs, pre7, pre6, pre5, pre4, pre3, pre2, pre1]; omega) rfl rfl (fun k78 hk78 => ?_)
          refine LexO.q rfl (by kernel_rfl) (q_asC rfl rfl) rfl rfl rfl ?_
          refine LexO.nil (by kernel_rfl) ?_
          refine AW.reg ?_
          refine SeqK.q (q_mvC rfl rfl) rfl rfl rfl ?_
          refine SeqK.q (q_add _ rfl rfl rfl (w64 (by omega) (by omega))) rfl rfl rfl ?_
          refine SeqK.q (q_asC rfl rfl) rfl rfl rfl ?_
          refine SeqK.nil ?_
          exact ⟨i + 1, _, Wk.keep 210 [(1, .c (iC (n : Int))), (2, .lp 2 0), (4, .c (sC ⟨#[]⟩)), (5, .c (.a (.ts (k78) .ne 1 (zs ++ [txT (nmB ((n : Int) + (i : Int)) ++ ⟨#[32, 61, 32, 108, 101, 110, 103, 116, 104, 40]⟩ ++ nmB c.ax[i].t ++ ⟨#[41]⟩)])))), (8, iX .i64 (((i + 1) : Nat) : Int))] [(2, .box [.t (.sl .un 1 (c.nl.map i64T)), .t (.sl .un 1 (c.nn.map i64T)), .t (.sl .un 4 (c.ax.map axT)), .t (.sl .un 3 (c.is.map ctT)), .t (.sl .un 4 (c.ts.map tsT)), .t (.sl .un 2 (c.sm.map prT)), .t (.sl .un 2 (c.df.map prT))])] (upd H (k78) (some (.tip 9 1 (zs ++ [txT (nmB ((n : Int) + (i : Int)) ++ ⟨#[32, 61, 32, 108, 101, 110, 103, 116, 104, 40]⟩ ++ nmB c.ax[i].t ++ ⟨#[41]⟩)]).length))) rfl ⟨rfl, rfl, rfl, rfl, rfl, trivial⟩ ⟨rfl, trivial⟩ (fun _ _ h => h) rfl, by omega, k78, zs ++ [txT (nmB ((n : Int) + (i : Int)) ++ ⟨#[32, 61, 32, 108, 101, 110, 103, 116, 104, 40]⟩ ++ nmB c.ax[i].t ++ ⟨#[41]⟩)], ⟨hi, hk78, by rw [hzs, idx_take hi]; simp only [List.map_append, List.map_cons, List.map_nil]; rw [axX, axD, if_neg (by omega), ← ax_len]; simp only [List.append_assoc, List.map_nil, List.nil_append]⟩, rfl⟩
        ·
          refine AW.drawO [0, 1, 2, 3, 4, 5, 6, 7, 8, 9, 10, 11, 12, 13, 14, 15, 16, 17, 18] Fx.mo (by kernel_rfl) ?_
          refine LexO.q rfl (by kernel_rfl) (q_mvC rfl rfl) rfl rfl rfl ?_
          refine LexO.q rfl (by kernel_rfl) (q_mvC rfl rfl) rfl rfl rfl ?_
          refine LexO.q rfl (by kernel_rfl) (q_mvC rfl rfl) rfl rfl rfl ?_
          refine LexO.q rfl (by kernel_rfl) (q_add _ rfl rfl rfl (w64 (by omega) (by omega))) rfl rfl rfl ?_
          refine LexO.q rfl (by kernel_rfl) (q_call _ rfl Fx.fn25 rfl (name_any _ hvn.1 hvn.2) rfl) rfl rfl rfl ?_
          refine LexO.q rfl (by kernel_rfl) (q_addS rfl rfl rfl (by first | omega | (simp only [ByteArray.size_append]; omega))) rfl rfl rfl ?_
          refine LexO.q rfl (by kernel_rfl) (q_fieldL _ rfl Fx.fl63_0 rfl rfl) rfl rfl rfl ?_
          refine LexO.r rfl (by kernel_rfl) (b_load (r := .g [_, _]) rfl Fx.ty61 rfl rfl rfl rfl rfl rfl) rfl ?_
          refine LexO.q rfl (by kernel_rfl) (q_call _ rfl Fx.fn26 rfl (rlinear_any _ hq.1) rfl) rfl rfl rfl ?_
          refine LexO.q rfl (by kernel_rfl) (q_addS rfl rfl rfl (by first | omega | (simp only [ByteArray.size_append]; omega))) rfl rfl rfl ?_
          refine LexO.q rfl (by kernel_rfl) (q_addS rfl rfl rfl (by first | omega | (simp only [ByteArray.size_append]; omega))) rfl rfl rfl ?_
          refine LexO.q rfl (by kernel_rfl) (q_fieldL _ rfl Fx.fl63_1 rfl rfl) rfl rfl rfl ?_
          refine LexO.r rfl (by kernel_rfl) (b_load (r := .a _) rfl Fx.ty2 rfl rfl rfl rfl rfl rfl) rfl ?_
          refine LexO.q rfl (by kernel_rfl) (q_call _ rfl Fx.fn27 rfl (digitsI hq.2.2.1 hq.2.2.2) rfl) rfl rfl rfl ?_
          refine LexO.q rfl (by kernel_rfl) (q_addS rfl rfl rfl (by first | omega | (simp only [ByteArray.size_append]; omega))) rfl rfl rfl ?_
          refine LexO.q rfl (by kernel_rfl) (q_addS rfl rfl rfl (by first | omega | (simp only [ByteArray.size_append]; omega))) rfl rfl rfl ?_
          refine LexO.q rfl (by kernel_rfl) (q_buildSlice _ rfl Fx.el73 rfl (by decide) rfl) rfl rfl rfl ?_
          refine LexO.app1 rfl (by kernel_rfl) (by kernel_rfl) (by kernel_rfl) rfl (hkt) rfl Fx.el73 rfl rfl (by have hN := hF.tot; unfold lenN at hN; simp [hzs, pre7, pre6, pre5, pre4, pre3, pre2, pre1]; omega) rfl rfl (fun k96 hk96 => ?_)
          refine LexO.q rfl (by kernel_rfl) (q_asC rfl rfl) rfl rfl rfl ?_
          refine LexO.nil (by kernel_rfl) ?_
          refine AW.reg ?_
          refine SeqK.q (q_mvC rfl rfl) rfl rfl rfl ?_
          refine SeqK.q (q_add _ rfl rfl rfl (w64 (by omega) (by omega))) rfl rfl rfl ?_
          refine SeqK.q (q_asC rfl rfl) rfl rfl rfl ?_
          refine SeqK.nil ?_
          exact ⟨i + 1, _, Wk.keep 210 [(1, .c (iC (n : Int))), (2, .lp 2 0), (4, .c (sC ⟨#[]⟩)), (5, .c (.a (.ts (k96) .ne 1 (zs ++ [txT (nmB ((n : Int) + (i : Int)) ++ ⟨#[32, 61, 32, 100, 105, 118, 40]⟩ ++ fmtL c.ax[i].f ++ ⟨#[44, 32]⟩ ++ decB c.ax[i].b.toNat ++ ⟨#[41]⟩)])))), (8, iX .i64 (((i + 1) : Nat) : Int))] [(2, .box [.t (.sl .un 1 (c.nl.map i64T)), .t (.sl .un 1 (c.nn.map i64T)), .t (.sl .un 4 (c.ax.map axT)), .t (.sl .un 3 (c.is.map ctT)), .t (.sl .un 4 (c.ts.map tsT)), .t (.sl .un 2 (c.sm.map prT)), .t (.sl .un 2 (c.df.map prT))])] (upd H (k96) (some (.tip 9 1 (zs ++ [txT (nmB ((n : Int) + (i : Int)) ++ ⟨#[32, 61, 32, 100, 105, 118, 40]⟩ ++ fmtL c.ax[i].f ++ ⟨#[44, 32]⟩ ++ decB c.ax[i].b.toNat ++ ⟨#[41]⟩)]).length))) rfl ⟨rfl, rfl, rfl, rfl, rfl, trivial⟩ ⟨rfl, trivial⟩ (fun _ _ h => h) rfl, by omega, k96, zs ++ [txT (nmB ((n : Int) + (i : Int)) ++ ⟨#[32, 61, 32, 100, 105, 118, 40]⟩ ++ fmtL c.ax[i].f ++ ⟨#[44, 32]⟩ ++ decB c.ax[i].b.toNat ++ ⟨#[41]⟩)], ⟨hi, hk96, by rw [hzs, idx_take hi]; simp only [List.map_append, List.map_cons, List.map_nil]; rw [axX, axD, if_pos h65, ← ax_div]; simp only [List.append_assoc, List.map_nil, List.nil_append]⟩, rfl⟩
      ·
        refine AW.exit ?_
        refine eth_e ?_
        refine eth_e ?_
        refine exit_here ?_
        refine AW.seq ?_
        refine AW.seq ?_
        obtain rfl : i = c.ax.length := by rw [List.length_map] at h55; omega
        rw [List.take_length] at hzs
        have hzs : zs = (pre3 c n).map txT := hzs
        refine AW.reg ?_
        refine SeqK.q (q_asC rfl rfl) rfl rfl rfl ?_
        refine SeqK.nil ?_
        refine AW.block ?_
        refine AW.loop (fun (i : Nat) s => ∃ (kt : Nat) (zs : List (List E.T)), (i ≤ c.is.length ∧ H kt = none ∧ zs = (pre3 c n ++ (c.is.take i).map isX).map txT) ∧ s = ⟨210, sp [(1, .c (iC (n : Int))), (2, .lp 2 0), (4, .c (sC ⟨#[]⟩)), (5, .c (.a (.ts kt .ne 1 zs))), (10, iX .i64 ((i : Nat) : Int))], lv [(2, .box [.t (.sl .un 1 (c.nl.map i64T)), .t (.sl .un 1 (c.nn.map i64T)), .t (.sl .un 4 (c.ax.map axT)), .t (.sl .un 3 (c.is.map ctT)), .t (.sl .un 4 (c.ts.map tsT)), .t (.sl .un 2 (c.sm.map prT)), .t (.sl .un 2 (c.df.map prT))])], upd H kt (some (.tip 9 1 zs.length))⟩) (fun i => c.is.length - i) 0 ⟨_, Wk.keep 210 [(1, .c (iC (n : Int))), (2, .lp 2 0), (4, .c (sC ⟨#[]⟩)), (5, .c (.a (.ts (kt) .ne 1 (zs)))), (10, iX .i64 ((((0 : Nat)) : Nat) : Int))] [(2, .box [.t (.sl .un 1 (c.nl.map i64T)), .t (.sl .un 1 (c.nn.map i64T)), .t (.sl .un 4 (c.ax.map axT)), .t (.sl .un 3 (c.is.map ctT)), .t (.sl .un 4 (c.ts.map tsT)), .t (.sl .un 2 (c.sm.map prT)), .t (.sl .un 2 (c.df.map prT))])] (upd H (kt) (some (.tip 9 1 (zs).length))) rfl ⟨rfl, rfl, rfl, rfl, rfl, trivial⟩ ⟨rfl, trivial⟩ (fun _ _ h => h) rfl, kt, zs, ⟨Nat.zero_le _, hkt, by rw [hzs, List.take_zero]; simp⟩, rfl⟩ (fun i s hs => ?_)
        obtain ⟨kt, zs, ⟨hi0, hkt, hzs⟩, rfl⟩ := hs
        refine AW.seq ?_
        refine AW.seq ?_
        refine AW.reg ?_
        refine SeqK.q (q_mvC rfl rfl) rfl rfl rfl ?_
        refine SeqK.q (q_fieldL _ rfl Fx.fl28_3 rfl rfl) rfl rfl rfl ?_
        refine SeqK.r (b_load (r := .a _) rfl Fx.ty24 rfl rfl rfl rfl rfl rfl) rfl ?_
        refine SeqK.q (q_len rfl Fx.un24 rfl) rfl rfl rfl ?_
        refine SeqK.q (q_lss rfl rfl rfl) rfl rfl rfl ?_
        refine SeqK.nil ?_
        refine AW.condD rfl (fun h101 => ?_) (fun h101 => ?_)
        ·
          have hi : i < c.is.length := by rw [List.length_map] at h101; omega
          have hm := List.getElem_mem hi
          have hq := hF.is _ hm
          have hs3 := fmtL_size hq
          refine AW.skip ?_
          refine AW.seq ?_
          refine AW.block ?_
          refine AW.seq ?_
          refine AW.reg ?_
          refine SeqK.q (q_asC rfl rfl) rfl rfl rfl ?_
          refine SeqK.nil ?_
          refine AW.seq ?_
          refine AW.seq ?_
          refine AW.reg ?_
          refine SeqK.q (q_fieldL _ rfl Fx.fl28_3 rfl rfl) rfl rfl rfl ?_
          refine SeqK.r (b_load (r := .a _) rfl Fx.ty24 rfl rfl rfl rfl rfl rfl) rfl ?_
          refine SeqK.q (q_mvC rfl rfl) rfl rfl rfl ?_
          refine SeqK.q (q_index _ rfl Fx.sl24 rfl rfl (by omega) (idx_map (f := ctT) hi)) rfl rfl rfl ?_
          refine SeqK.q (q_fieldP _ rfl Fx.fl65_1 rfl rfl) rfl rfl rfl ?_
          refine SeqK.q (q_load (.a _) rfl Fx.ty4 rfl rfl rfl) rfl rfl rfl ?_
          refine SeqK.nil ?_
          refine AW.cond _ rfl (fun h109 => ?_) (fun h109 => ?_)
          ·
            refine AW.reg ?_
            refine SeqK.q (q_asC rfl rfl) rfl rfl rfl ?_
            refine SeqK.nil ?_
            refine AW.reg ?_
            refine SeqK.q (q_mvC rfl rfl) rfl rfl rfl ?_
            refine SeqK.q (q_fieldL _ rfl Fx.fl28_3 rfl rfl) rfl rfl rfl ?_
            refine SeqK.r (b_load (r := .a _) rfl Fx.ty24 rfl rfl rfl rfl rfl rfl) rfl ?_
            refine SeqK.q (q_mvC rfl rfl) rfl rfl rfl ?_
            refine SeqK.q (q_index _ rfl Fx.sl24 rfl rfl (by omega) (idx_map (f := ctT) hi)) rfl rfl rfl ?_
            refine SeqK.q (q_fieldP _ rfl Fx.fl65_0 rfl rfl) rfl rfl rfl ?_
            refine SeqK.q (q_load (.g [_, _]) rfl Fx.ty61 rfl rfl rfl) rfl rfl rfl ?_
            refine SeqK.q (q_call _ rfl Fx.fn26 rfl (rlinear_any _ hq) rfl) rfl rfl rfl ?_
            refine SeqK.q (q_mvC rfl rfl) rfl rfl rfl ?_
            refine SeqK.q (q_addS rfl rfl rfl (by first | omega | (simp only [ByteArray.size_append]; omega))) rfl rfl rfl ?_
            refine SeqK.q (q_buildSlice _ rfl Fx.el73 rfl (by decide) rfl) rfl rfl rfl ?_
            refine SeqK.app1 rfl (hkt) rfl Fx.el73 rfl rfl (by have hN := hF.tot; unfold lenN at hN; simp [hzs, pre7, pre6, pre5, pre4, pre3, pre2, pre1]; omega) rfl rfl (fun k121 hk121 => ?_)
            refine SeqK.q (q_asC rfl rfl) rfl rfl rfl ?_
            refine SeqK.nil ?_
            refine AW.reg ?_
            refine SeqK.q (q_mvC rfl rfl) rfl rfl rfl ?_
            refine SeqK.q (q_add _ rfl rfl rfl (w64 (by omega) (by omega))) rfl rfl rfl ?_
            refine SeqK.q (q_asC rfl rfl) rfl rfl rfl ?_
            refine SeqK.nil ?_
            exact ⟨i + 1, _, Wk.keep 210 [(1, .c (iC (n : Int))), (2, .lp 2 0), (4, .c (sC ⟨#[]⟩)), (5, .c (.a (.ts (k121) .ne 1 (zs ++ [txT (fmtL c.is[i].f ++ ⟨#[32, 61, 32, 48]⟩)])))), (10, iX .i64 (((i + 1) : Nat) : Int))] [(2, .box [.t (.sl .un 1 (c.nl.map i64T)), .t (.sl .un 1 (c.nn.map i64T)), .t (.sl .un 4 (c.ax.map axT)), .t (.sl .un 3 (c.is.map ctT)), .t (.sl .un 4 (c.ts.map tsT)), .t (.sl .un 2 (c.sm.map prT)), .t (.sl .un 2 (c.df.map prT))])] (upd H (k121) (some (.tip 9 1 (zs ++ [txT (fmtL c.is[i].f ++ ⟨#[32, 61, 32, 48]⟩)]).length))) rfl ⟨rfl, rfl, rfl, rfl, rfl, trivial⟩ ⟨rfl, trivial⟩ (fun _ _ h => h) rfl, by omega, k121, zs ++ [txT (fmtL c.is[i].f ++ ⟨#[32, 61, 32, 48]⟩)], ⟨hi, hk121, by rw [hzs, take_put hi]; simp only [List.map_append, List.map_cons, List.map_nil]; rw [isX, if_pos h109]; simp only [List.append_assoc, List.map_nil, List.nil_append]⟩, rfl⟩
          ·
            refine AW.skip ?_
            refine AW.reg ?_
            refine SeqK.q (q_mvC rfl rfl) rfl rfl rfl ?_
            refine SeqK.q (q_fieldL _ rfl Fx.fl28_3 rfl rfl) rfl rfl rfl ?_
            refine SeqK.r (b_load (r := .a _) rfl Fx.ty24 rfl rfl rfl rfl rfl rfl) rfl ?_
            refine SeqK.q (q_mvC rfl rfl) rfl rfl rfl ?_
            refine SeqK.q (q_index _ rfl Fx.sl24 rfl rfl (by omega) (idx_map (f := ctT) hi)) rfl rfl rfl ?_
            refine SeqK.q (q_fieldP _ rfl Fx.fl65_0 rfl rfl) rfl rfl rfl ?_
            refine SeqK.q (q_load (.g [_, _]) rfl Fx.ty61 rfl rfl rfl) rfl rfl rfl ?_
            refine SeqK.q (q_call _ rfl Fx.fn26 rfl (rlinear_any _ hq) rfl) rfl rfl rfl ?_
            refine SeqK.q (q_mvC rfl rfl) rfl rfl rfl ?_
            refine SeqK.q (q_addS rfl rfl rfl (by first | omega | (simp only [ByteArray.size_append]; omega))) rfl rfl rfl ?_
            refine SeqK.q (q_buildSlice _ rfl Fx.el73 rfl (by decide) rfl) rfl rfl rfl ?_
            refine SeqK.app1 rfl (hkt) rfl Fx.el73 rfl rfl (by have hN := hF.tot; unfold lenN at hN; simp [hzs, pre7, pre6, pre5, pre4, pre3, pre2, pre1]; omega) rfl rfl (fun k121 hk121 => ?_)
            refine SeqK.q (q_asC rfl rfl) rfl rfl rfl ?_
            refine SeqK.nil ?_
            refine AW.reg ?_
            refine SeqK.q (q_mvC rfl rfl) rfl rfl rfl ?_
            refine SeqK.q (q_add _ rfl rfl rfl (w64 (by omega) (by omega))) rfl rfl rfl ?_
            refine SeqK.q (q_asC rfl rfl) rfl rfl rfl ?_
            refine SeqK.nil ?_
            exact ⟨i + 1, _, Wk.keep 210 [(1, .c (iC (n : Int))), (2, .lp 2 0), (4, .c (sC ⟨#[]⟩)), (5, .c (.a (.ts (k121) .ne 1 (zs ++ [txT (fmtL c.is[i].f ++ ⟨#[32, 60, 61, 32, 48]⟩)])))), (10, iX .i64 (((i + 1) : Nat) : Int))] [(2, .box [.t (.sl .un 1 (c.nl.map i64T)), .t (.sl .un 1 (c.nn.map i64T)), .t (.sl .un 4 (c.ax.map axT)), .t (.sl .un 3 (c.is.map ctT)), .t (.sl .un 4 (c.ts.map tsT)), .t (.sl .un 2 (c.sm.map prT)), .t (.sl .un 2 (c.df.map prT))])] (upd H (k121) (some (.tip 9 1 (zs ++ [txT (fmtL c.is[i].f ++ ⟨#[32, 60, 61, 32, 48]⟩)]).length))) rfl ⟨rfl, rfl, rfl, rfl, rfl, trivial⟩ ⟨rfl, trivial⟩ (fun _ _ h => h) rfl, by omega, k121, zs ++ [txT (fmtL c.is[i].f ++ ⟨#[32, 60, 61, 32, 48]⟩)], ⟨hi, hk121, by rw [hzs, take_put hi]; simp only [List.map_append, List.map_cons, List.map_nil]; rw [isX, if_neg (by simp [h109])]; simp only [List.append_assoc, List.map_nil, List.nil_append]⟩, rfl⟩
        ·
          refine AW.exit ?_
          refine eth_e ?_
          refine eth_e ?_
          refine exit_here ?_
          refine AW.seq ?_
          refine AW.seq ?_
          obtain rfl : i = c.is.length := by rw [List.length_map] at h101; omega
          rw [List.take_length] at hzs
          have hzs : zs = (pre4 c n).map txT := hzs
          refine AW.reg ?_
          refine SeqK.q (q_asC rfl rfl) rfl rfl rfl ?_
          refine SeqK.nil ?_
          refine AW.block ?_
          refine AW.loop (fun (i : Nat) s => ∃ (kt : Nat) (zs : List (List E.T)), (i ≤ c.ts.length ∧ H kt = none ∧ zs = (pre4 c n ++ (c.ts.take i).map tsX).map txT) ∧ s = ⟨210, sp [(1, .c (iC (n : Int))), (2, .lp 2 0), (4, .c (sC ⟨#[]⟩)), (5, .c (.a (.ts kt .ne 1 zs))), (12, iX .i64 ((i : Nat) : Int))], lv [(2, .box [.t (.sl .un 1 (c.nl.map i64T)), .t (.sl .un 1 (c.nn.map i64T)), .t (.sl .un 4 (c.ax.map axT)), .t (.sl .un 3 (c.is.map ctT)), .t (.sl .un 4 (c.ts.map tsT)), .t (.sl .un 2 (c.sm.map prT)), .t (.sl .un 2 (c.df.map prT))])], upd H kt (some (.tip 9 1 zs.length))⟩) (fun i => c.ts.length - i) 0 ⟨_, Wk.keep 210 [(1, .c (iC (n : Int))), (2, .lp 2 0), (4, .c (sC ⟨#[]⟩)), (5, .c (.a (.ts (kt) .ne 1 (zs)))), (12, iX .i64 ((((0 : Nat)) : Nat) : Int))] [(2, .box [.t (.sl .un 1 (c.nl.map i64T)), .t (.sl .un 1 (c.nn.map i64T)), .t (.sl .un 4 (c.ax.map axT)), .t (.sl .un 3 (c.is.map ctT)), .t (.sl .un 4 (c.ts.map tsT)), .t (.sl .un 2 (c.sm.map prT)), .t (.sl .un 2 (c.df.map prT))])] (upd H (kt) (some (.tip 9 1 (zs).length))) rfl ⟨rfl, rfl, rfl, rfl, rfl, trivial⟩ ⟨rfl, trivial⟩ (fun _ _ h => h) rfl, kt, zs, ⟨Nat.zero_le _, hkt, by rw [hzs, List.take_zero]; simp⟩, rfl⟩ (fun i s hs => ?_)
          obtain ⟨kt, zs, ⟨hi0, hkt, hzs⟩, rfl⟩ := hs
          refine AW.seq ?_
          refine AW.seq ?_
          refine AW.reg ?_
          refine SeqK.q (q_mvC rfl rfl) rfl rfl rfl ?_
          refine SeqK.q (q_fieldL _ rfl Fx.fl28_4 rfl rfl) rfl rfl rfl ?_
          refine SeqK.r (b_load (r := .a _) rfl Fx.ty25 rfl rfl rfl rfl rfl rfl) rfl ?_
          refine SeqK.q (q_len rfl Fx.un25 rfl) rfl rfl rfl ?_
          refine SeqK.q (q_lss rfl rfl rfl) rfl rfl rfl ?_
          refine SeqK.nil ?_
          refine AW.condD rfl (fun h126 => ?_) (fun h126 => ?_)
          ·
            have hi : i < c.ts.length := by rw [List.length_map] at h126; omega
            have hm := List.getElem_mem hi
            have hq := hF.ts _ hm
            obtain ⟨q1, q2, q3, q4⟩ := hq
            refine AW.skip ?_
            refine AW.seq ?_
            refine AW.block ?_
            refine AW.reg ?_
            refine SeqK.q (q_mvC rfl rfl) rfl rfl rfl ?_
            refine SeqK.q (q_fieldL _ rfl Fx.fl28_4 rfl rfl) rfl rfl rfl ?_
            refine SeqK.r (b_load (r := .a _) rfl Fx.ty25 rfl rfl rfl rfl rfl rfl) rfl ?_
            refine SeqK.q (q_mvC rfl rfl) rfl rfl rfl ?_
            refine SeqK.q (q_index _ rfl Fx.sl25 rfl rfl (by omega) (idx_map (f := tsT) hi)) rfl rfl rfl ?_
            refine SeqK.q (q_load (.g [_, _, _, _]) rfl Fx.ty44 rfl rfl rfl) rfl rfl rfl ?_
            refine SeqK.q (q_call _ rfl Fx.fn28 rfl (rtest_any _ q1 q2 q3.1 q3.2 q4) rfl) rfl rfl rfl ?_
            refine SeqK.q (q_buildSlice _ rfl Fx.el73 rfl (by decide) rfl) rfl rfl rfl ?_
            refine SeqK.app1 rfl (hkt) rfl Fx.el73 rfl rfl (by have hN := hF.tot; unfold lenN at hN; simp [hzs, pre7, pre6, pre5, pre4, pre3, pre2, pre1]; omega) rfl rfl (fun k137 hk137 => ?_)
            refine SeqK.q (q_asC rfl rfl) rfl rfl rfl ?_
            refine SeqK.nil ?_
            refine AW.reg ?_
            refine SeqK.q (q_mvC rfl rfl) rfl rfl rfl ?_
            refine SeqK.q (q_add _ rfl rfl rfl (w64 (by omega) (by omega))) rfl rfl rfl ?_
            refine SeqK.q (q_asC rfl rfl) rfl rfl rfl ?_
            refine SeqK.nil ?_
            exact ⟨i + 1, _, Wk.keep 210 [(1, .c (iC (n : Int))), (2, .lp 2 0), (4, .c (sC ⟨#[]⟩)), (5, .c (.a (.ts (k137) .ne 1 (zs ++ [txT (tsX c.ts[i])])))), (12, iX .i64 (((i + 1) : Nat) : Int))] [(2, .box [.t (.sl .un 1 (c.nl.map i64T)), .t (.sl .un 1 (c.nn.map i64T)), .t (.sl .un 4 (c.ax.map axT)), .t (.sl .un 3 (c.is.map ctT)), .t (.sl .un 4 (c.ts.map tsT)), .t (.sl .un 2 (c.sm.map prT)), .t (.sl .un 2 (c.df.map prT))])] (upd H (k137) (some (.tip 9 1 (zs ++ [txT (tsX c.ts[i])]).length))) rfl ⟨rfl, rfl, rfl, rfl, rfl, trivial⟩ ⟨rfl, trivial⟩ (fun _ _ h => h) rfl, by omega, k137, zs ++ [txT (tsX c.ts[i])], ⟨hi, hk137, by rw [hzs, take_put hi]; simp only [List.map_append, List.map_cons, List.map_nil]; simp only [List.append_assoc, List.map_nil, List.nil_append]⟩, rfl⟩
          ·
            refine AW.exit ?_
            refine eth_e ?_
            refine eth_e ?_
            refine exit_here ?_
            refine AW.seq ?_
            refine AW.seq ?_
            obtain rfl : i = c.ts.length := by rw [List.length_map] at h126; omega
            rw [List.take_length] at hzs
            have hzs : zs = (pre5 c n).map txT := hzs
            refine AW.reg ?_
            refine SeqK.q (q_asC rfl rfl) rfl rfl rfl ?_
            refine SeqK.nil ?_
            refine AW.block ?_
            refine AW.loop (fun (i : Nat) s => ∃ (kt : Nat) (zs : List (List E.T)), (i ≤ c.sm.length ∧ H kt = none ∧ zs = (pre5 c n ++ (c.sm.take i).map smX).map txT) ∧ s = ⟨210, sp [(1, .c (iC (n : Int))), (2, .lp 2 0), (4, .c (sC ⟨#[]⟩)), (5, .c (.a (.ts kt .ne 1 zs))), (13, iX .i64 ((i : Nat) : Int))], lv [(2, .box [.t (.sl .un 1 (c.nl.map i64T)), .t (.sl .un 1 (c.nn.map i64T)), .t (.sl .un 4 (c.ax.map axT)), .t (.sl .un 3 (c.is.map ctT)), .t (.sl .un 4 (c.ts.map tsT)), .t (.sl .un 2 (c.sm.map prT)), .t (.sl .un 2 (c.df.map prT))])], upd H kt (some (.tip 9 1 zs.length))⟩) (fun i => c.sm.length - i) 0 ⟨_, Wk.keep 210 [(1, .c (iC (n : Int))), (2, .lp 2 0), (4, .c (sC ⟨#[]⟩)), (5, .c (.a (.ts (kt) .ne 1 (zs)))), (13, iX .i64 ((((0 : Nat)) : Nat) : Int))] [(2, .box [.t (.sl .un 1 (c.nl.map i64T)), .t (.sl .un 1 (c.nn.map i64T)), .t (.sl .un 4 (c.ax.map axT)), .t (.sl .un 3 (c.is.map ctT)), .t (.sl .un 4 (c.ts.map tsT)), .t (.sl .un 2 (c.sm.map prT)), .t (.sl .un 2 (c.df.map prT))])] (upd H (kt) (some (.tip 9 1 (zs).length))) rfl ⟨rfl, rfl, rfl, rfl, rfl, trivial⟩ ⟨rfl, trivial⟩ (fun _ _ h => h) rfl, kt, zs, ⟨Nat.zero_le _, hkt, by rw [hzs, List.take_zero]; simp⟩, rfl⟩ (fun i s hs => ?_)
            obtain ⟨kt, zs, ⟨hi0, hkt, hzs⟩, rfl⟩ := hs
            refine AW.seq ?_
            refine AW.seq ?_
            refine AW.reg ?_
            refine SeqK.q (q_mvC rfl rfl) rfl rfl rfl ?_
            refine SeqK.q (q_fieldL _ rfl Fx.fl28_5 rfl rfl) rfl rfl rfl ?_
            refine SeqK.r (b_load (r := .a _) rfl Fx.ty26 rfl rfl rfl rfl rfl rfl) rfl ?_
            refine SeqK.q (q_len rfl Fx.un26 rfl) rfl rfl rfl ?_
            refine SeqK.q (q_lss rfl rfl rfl) rfl rfl rfl ?_
            refine SeqK.nil ?_
            refine AW.condD rfl (fun h142 => ?_) (fun h142 => ?_)
            ·
              have hi : i < c.sm.length := by rw [List.length_map] at h142; omega
              have hm := List.getElem_mem hi
              have hq := hF.sm _ hm
              have hs1 := nmB_size hq.1.2
              have hs2 := nmB_size hq.2.2
              refine AW.skip ?_
              refine AW.seq ?_
              refine AW.block ?_
              refine AW.drawO [0, 1, 2, 3, 4, 5, 6, 7, 8, 9, 10, 11, 12, 13, 14, 15, 16, 17, 18, 19] Fx.mo (by kernel_rfl) ?_
              refine LexO.q rfl (by kernel_rfl) (q_mvC rfl rfl) rfl rfl rfl ?_
              refine LexO.q rfl (by kernel_rfl) (q_fieldL _ rfl Fx.fl28_5 rfl rfl) rfl rfl rfl ?_
              refine LexO.r rfl (by kernel_rfl) (b_load (r := .a _) rfl Fx.ty26 rfl rfl rfl rfl rfl rfl) rfl ?_
              refine LexO.q rfl (by kernel_rfl) (q_mvC rfl rfl) rfl rfl rfl ?_
              refine LexO.q rfl (by kernel_rfl) (q_index _ rfl Fx.sl26 rfl rfl (by omega) (idx_map (f := prT) hi)) rfl rfl rfl ?_
              refine LexO.q rfl (by kernel_rfl) (q_indexP _ rfl Fx.ar80 rfl rfl (by omega) (by omega) rfl) rfl rfl rfl ?_
              refine LexO.q rfl (by kernel_rfl) (q_load (.a _) rfl Fx.ty3 rfl rfl rfl) rfl rfl rfl ?_
              refine LexO.q rfl (by kernel_rfl) (q_call _ rfl Fx.fn25 rfl (name_any _ hq.1.1 hq.1.2) rfl) rfl rfl rfl ?_
              refine LexO.q rfl (by kernel_rfl) (q_addS rfl rfl rfl (by first | omega | (simp only [ByteArray.size_append]; omega))) rfl rfl rfl ?_
              refine LexO.q rfl (by kernel_rfl) (q_fieldL _ rfl Fx.fl28_5 rfl rfl) rfl rfl rfl ?_
              refine LexO.r rfl (by kernel_rfl) (b_load (r := .a _) rfl Fx.ty26 rfl rfl rfl rfl rfl rfl) rfl ?_
              refine LexO.q rfl (by kernel_rfl) (q_mvC rfl rfl) rfl rfl rfl ?_
              refine LexO.q rfl (by kernel_rfl) (q_index _ rfl Fx.sl26 rfl rfl (by omega) (idx_map (f := prT) hi)) rfl rfl rfl ?_
              refine LexO.q rfl (by kernel_rfl) (q_indexP _ rfl Fx.ar80 rfl rfl (by omega) (by omega) rfl) rfl rfl rfl ?_
              refine LexO.q rfl (by kernel_rfl) (q_load (.a _) rfl Fx.ty3 rfl rfl rfl) rfl rfl rfl ?_
              refine LexO.q rfl (by kernel_rfl) (q_call _ rfl Fx.fn25 rfl (name_any _ hq.2.1 hq.2.2) rfl) rfl rfl rfl ?_
              refine LexO.q rfl (by kernel_rfl) (q_addS rfl rfl rfl (by first | omega | (simp only [ByteArray.size_append]; omega))) rfl rfl rfl ?_
              refine LexO.q rfl (by kernel_rfl) (q_buildSlice _ rfl Fx.el73 rfl (by decide) rfl) rfl rfl rfl ?_
              refine LexO.app1 rfl (by kernel_rfl) (by kernel_rfl) (by kernel_rfl) rfl (hkt) rfl Fx.el73 rfl rfl (by have hN := hF.tot; unfold lenN at hN; simp [hzs, pre7, pre6, pre5, pre4, pre3, pre2, pre1]; omega) rfl rfl (fun k163 hk163 => ?_)
              refine LexO.q rfl (by kernel_rfl) (q_asC rfl rfl) rfl rfl rfl ?_
              refine LexO.nil (by kernel_rfl) ?_
              refine AW.reg ?_
              refine SeqK.q (q_mvC rfl rfl) rfl rfl rfl ?_
              refine SeqK.q (q_add _ rfl rfl rfl (w64 (by omega) (by omega))) rfl rfl rfl ?_
              refine SeqK.q (q_asC rfl rfl) rfl rfl rfl ?_
              refine SeqK.nil ?_
              exact ⟨i + 1, _, Wk.keep 210 [(1, .c (iC (n : Int))), (2, .lp 2 0), (4, .c (sC ⟨#[]⟩)), (5, .c (.a (.ts (k163) .ne 1 (zs ++ [txT (smX c.sm[i])])))), (13, iX .i64 (((i + 1) : Nat) : Int))] [(2, .box [.t (.sl .un 1 (c.nl.map i64T)), .t (.sl .un 1 (c.nn.map i64T)), .t (.sl .un 4 (c.ax.map axT)), .t (.sl .un 3 (c.is.map ctT)), .t (.sl .un 4 (c.ts.map tsT)), .t (.sl .un 2 (c.sm.map prT)), .t (.sl .un 2 (c.df.map prT))])] (upd H (k163) (some (.tip 9 1 (zs ++ [txT (smX c.sm[i])]).length))) rfl ⟨rfl, rfl, rfl, rfl, rfl, trivial⟩ ⟨rfl, trivial⟩ (fun _ _ h => h) rfl, by omega, k163, zs ++ [txT (smX c.sm[i])], ⟨hi, hk163, by rw [hzs, take_put hi]; simp only [List.map_append, List.map_cons, List.map_nil]; simp only [List.append_assoc, List.map_nil, List.nil_append]⟩, rfl⟩
            ·
              refine AW.exit ?_
              refine eth_e ?_
              refine eth_e ?_
              refine exit_here ?_
              refine AW.seq ?_
              refine AW.seq ?_
              obtain rfl : i = c.sm.length := by rw [List.length_map] at h142; omega
              rw [List.take_length] at hzs
              have hzs : zs = (pre6 c n).map txT := hzs
              refine AW.reg ?_
              refine SeqK.q (q_asC rfl rfl) rfl rfl rfl ?_
              refine SeqK.nil ?_
              refine AW.block ?_
              refine AW.loop (fun (i : Nat) s => ∃ (kt : Nat) (zs : List (List E.T)), (i ≤ c.df.length ∧ H kt = none ∧ zs = (pre6 c n ++ (c.df.take i).map dfX).map txT) ∧ s = ⟨210, sp [(1, .c (iC (n : Int))), (2, .lp 2 0), (4, .c (sC ⟨#[]⟩)), (5, .c (.a (.ts kt .ne 1 zs))), (14, iX .i64 ((i : Nat) : Int))], lv [(2, .box [.t (.sl .un 1 (c.nl.map i64T)), .t (.sl .un 1 (c.nn.map i64T)), .t (.sl .un 4 (c.ax.map axT)), .t (.sl .un 3 (c.is.map ctT)), .t (.sl .un 4 (c.ts.map tsT)), .t (.sl .un 2 (c.sm.map prT)), .t (.sl .un 2 (c.df.map prT))])], upd H kt (some (.tip 9 1 zs.length))⟩) (fun i => c.df.length - i) 0 ⟨_, Wk.keep 210 [(1, .c (iC (n : Int))), (2, .lp 2 0), (4, .c (sC ⟨#[]⟩)), (5, .c (.a (.ts (kt) .ne 1 (zs)))), (14, iX .i64 ((((0 : Nat)) : Nat) : Int))] [(2, .box [.t (.sl .un 1 (c.nl.map i64T)), .t (.sl .un 1 (c.nn.map i64T)), .t (.sl .un 4 (c.ax.map axT)), .t (.sl .un 3 (c.is.map ctT)), .t (.sl .un 4 (c.ts.map tsT)), .t (.sl .un 2 (c.sm.map prT)), .t (.sl .un 2 (c.df.map prT))])] (upd H (kt) (some (.tip 9 1 (zs).length))) rfl ⟨rfl, rfl, rfl, rfl, rfl, trivial⟩ ⟨rfl, trivial⟩ (fun _ _ h => h) rfl, kt, zs, ⟨Nat.zero_le _, hkt, by rw [hzs, List.take_zero]; simp⟩, rfl⟩ (fun i s hs => ?_)
              obtain ⟨kt, zs, ⟨hi0, hkt, hzs⟩, rfl⟩ := hs
              refine AW.seq ?_
              refine AW.seq ?_
              refine AW.reg ?_
              refine SeqK.q (q_mvC rfl rfl) rfl rfl rfl ?_
              refine SeqK.q (q_fieldL _ rfl Fx.fl28_6 rfl rfl) rfl rfl rfl ?_
              refine SeqK.r (b_load (r := .a _) rfl Fx.ty26 rfl rfl rfl rfl rfl rfl) rfl ?_
              refine SeqK.q (q_len rfl Fx.un26 rfl) rfl rfl rfl ?_
              refine SeqK.q (q_lss rfl rfl rfl) rfl rfl rfl ?_
              refine SeqK.nil ?_
              refine AW.condD rfl (fun h168 => ?_) (fun h168 => ?_)
              ·
                have hi : i < c.df.length := by rw [List.length_map] at h168; omega
                have hm := List.getElem_mem hi
                have hq := hF.df _ hm
                have hs1 := nmB_size hq.1.2
                have hs2 := nmB_size hq.2.2
                refine AW.skip ?_
                refine AW.seq ?_
                refine AW.block ?_
                refine AW.drawO [0, 1, 2, 3, 4, 5, 6, 7, 8, 9, 10, 11, 12, 13, 14, 15, 16, 17, 18, 19] Fx.mo (by kernel_rfl) ?_
                refine LexO.q rfl (by kernel_rfl) (q_mvC rfl rfl) rfl rfl rfl ?_
                refine LexO.q rfl (by kernel_rfl) (q_fieldL _ rfl Fx.fl28_6 rfl rfl) rfl rfl rfl ?_
                refine LexO.r rfl (by kernel_rfl) (b_load (r := .a _) rfl Fx.ty26 rfl rfl rfl rfl rfl rfl) rfl ?_
                refine LexO.q rfl (by kernel_rfl) (q_mvC rfl rfl) rfl rfl rfl ?_
                refine LexO.q rfl (by kernel_rfl) (q_index _ rfl Fx.sl26 rfl rfl (by omega) (idx_map (f := prT) hi)) rfl rfl rfl ?_
                refine LexO.q rfl (by kernel_rfl) (q_indexP _ rfl Fx.ar80 rfl rfl (by omega) (by omega) rfl) rfl rfl rfl ?_
                refine LexO.q rfl (by kernel_rfl) (q_load (.a _) rfl Fx.ty3 rfl rfl rfl) rfl rfl rfl ?_
                refine LexO.q rfl (by kernel_rfl) (q_call _ rfl Fx.fn25 rfl (name_any _ hq.1.1 hq.1.2) rfl) rfl rfl rfl ?_
                refine LexO.q rfl (by kernel_rfl) (q_addS rfl rfl rfl (by first | omega | (simp only [ByteArray.size_append]; omega))) rfl rfl rfl ?_
                refine LexO.q rfl (by kernel_rfl) (q_fieldL _ rfl Fx.fl28_6 rfl rfl) rfl rfl rfl ?_
                refine LexO.r rfl (by kernel_rfl) (b_load (r := .a _) rfl Fx.ty26 rfl rfl rfl rfl rfl rfl) rfl ?_
                refine LexO.q rfl (by kernel_rfl) (q_mvC rfl rfl) rfl rfl rfl ?_
                refine LexO.q rfl (by kernel_rfl) (q_index _ rfl Fx.sl26 rfl rfl (by omega) (idx_map (f := prT) hi)) rfl rfl rfl ?_
                refine LexO.q rfl (by kernel_rfl) (q_indexP _ rfl Fx.ar80 rfl rfl (by omega) (by omega) rfl) rfl rfl rfl ?_
                refine LexO.q rfl (by kernel_rfl) (q_load (.a _) rfl Fx.ty3 rfl rfl rfl) rfl rfl rfl ?_
                refine LexO.q rfl (by kernel_rfl) (q_call _ rfl Fx.fn25 rfl (name_any _ hq.2.1 hq.2.2) rfl) rfl rfl rfl ?_
                refine LexO.q rfl (by kernel_rfl) (q_addS rfl rfl rfl (by first | omega | (simp only [ByteArray.size_append]; omega))) rfl rfl rfl ?_
                refine LexO.q rfl (by kernel_rfl) (q_buildSlice _ rfl Fx.el73 rfl (by decide) rfl) rfl rfl rfl ?_
                refine LexO.app1 rfl (by kernel_rfl) (by kernel_rfl) (by kernel_rfl) rfl (hkt) rfl Fx.el73 rfl rfl (by have hN := hF.tot; unfold lenN at hN; simp [hzs, pre7, pre6, pre5, pre4, pre3, pre2, pre1]; omega) rfl rfl (fun k189 hk189 => ?_)
                refine LexO.q rfl (by kernel_rfl) (q_asC rfl rfl) rfl rfl rfl ?_
                refine LexO.nil (by kernel_rfl) ?_
                refine AW.reg ?_
                refine SeqK.q (q_mvC rfl rfl) rfl rfl rfl ?_
                refine SeqK.q (q_add _ rfl rfl rfl (w64 (by omega) (by omega))) rfl rfl rfl ?_
                refine SeqK.q (q_asC rfl rfl) rfl rfl rfl ?_
                refine SeqK.nil ?_
                exact ⟨i + 1, _, Wk.keep 210 [(1, .c (iC (n : Int))), (2, .lp 2 0), (4, .c (sC ⟨#[]⟩)), (5, .c (.a (.ts (k189) .ne 1 (zs ++ [txT (dfX c.df[i])])))), (14, iX .i64 (((i + 1) : Nat) : Int))] [(2, .box [.t (.sl .un 1 (c.nl.map i64T)), .t (.sl .un 1 (c.nn.map i64T)), .t (.sl .un 4 (c.ax.map axT)), .t (.sl .un 3 (c.is.map ctT)), .t (.sl .un 4 (c.ts.map tsT)), .t (.sl .un 2 (c.sm.map prT)), .t (.sl .un 2 (c.df.map prT))])] (upd H (k189) (some (.tip 9 1 (zs ++ [txT (dfX c.df[i])]).length))) rfl ⟨rfl, rfl, rfl, rfl, rfl, trivial⟩ ⟨rfl, trivial⟩ (fun _ _ h => h) rfl, by omega, k189, zs ++ [txT (dfX c.df[i])], ⟨hi, hk189, by rw [hzs, take_put hi]; simp only [List.map_append, List.map_cons, List.map_nil]; simp only [List.append_assoc, List.map_nil, List.nil_append]⟩, rfl⟩
              ·
                refine AW.exit ?_
                refine eth_e ?_
                refine eth_e ?_
                refine exit_here ?_
                refine AW.seq ?_
                refine AW.seq ?_
                obtain rfl : i = c.df.length := by rw [List.length_map] at h168; omega
                rw [List.take_length] at hzs
                have hzs : zs = (pre7 c n).map txT := hzs
                have hpl := pre_len c n
                refine AW.xw 5 rfl (XW.ts.trans (XW.es hzs)) ?_
                refine AW.reg ?_
                refine SeqK.q (q_mvC rfl rfl) rfl rfl rfl ?_
                refine SeqK.q (q_len rfl Fx.un73 rfl) rfl rfl rfl ?_
                refine SeqK.q (q_eql rfl rfl rfl) rfl rfl rfl ?_
                refine SeqK.nil ?_
                refine AW.condD rfl (fun h192 => ?_) (fun h192 => ?_)
                ·
                  have hnil : pre7 c n = [] := List.length_eq_zero_iff.1 (by rw [List.length_map] at h192; omega)
                  refine AW.seq ?_
                  refine AW.reg ?_
                  refine SeqK.q (q_asC rfl rfl) rfl rfl rfl ?_
                  refine SeqK.nil ?_
                  refine AW.ret ?_
                  exact fin_x (x := .c _) (H) (.tmp rfl .nil) rfl ((fun j o h => upd_sub hkt j o h)) (⟨sCe (by rw [fmtC, if_pos hnil]), rfl⟩)
                ·
                  have hnil : ¬ pre7 c n = [] := fun e => h192 (by rw [e]; rfl)
                  have h0c : 0 < (pre7 c n).length := List.length_pos_iff.2 hnil
                  refine AW.skip ?_
                  refine AW.seq ?_
                  refine AW.reg ?_
                  refine SeqK.q (q_mvC rfl rfl) rfl rfl rfl ?_
                  refine SeqK.q (q_index _ rfl Fx.sl73 rfl rfl (by omega) (idx_map (f := txT) h0c)) rfl rfl rfl ?_
                  refine SeqK.q (q_load (.a _) rfl Fx.ty9 rfl rfl rfl) rfl rfl rfl ?_
                  refine SeqK.q (q_asC rfl rfl) rfl rfl rfl ?_
                  refine SeqK.nil ?_
                  refine AW.seq ?_
                  refine AW.seq ?_
                  refine AW.reg ?_
                  refine SeqK.q (q_asC rfl rfl) rfl rfl rfl ?_
                  refine SeqK.nil ?_
                  refine AW.block ?_
                  refine AW.wk (Wk.keep 210 [(2, .lp 2 0), (4, .c (sC ⟨#[]⟩)), (5, .c (.a (.t (.sl .un 1 ((pre7 c n).map txT))))), (15, .c (sC (joinB ((pre7 c n).take (1)) andB))), (16, iX .i64 ((1 : Nat) : Int))] [(2, .box [.t (.sl .un 1 (c.nl.map i64T)), .t (.sl .un 1 (c.nn.map i64T)), .t (.sl .un 4 (c.ax.map axT)), .t (.sl .un 3 (c.is.map ctT)), .t (.sl .un 4 (c.ts.map tsT)), .t (.sl .un 2 (c.sm.map prT)), .t (.sl .un 2 (c.df.map prT))])] (upd H kt (some (.tip 9 1 zs.length))) rfl ⟨rfl, rfl, rfl, sCe (by rw [join_one h0c]), rfl, trivial⟩ ⟨rfl, trivial⟩ (fun _ _ h => h) rfl) ?_
                  refine AW.loop (fun (i : Nat) s => (1 ≤ i ∧ i ≤ (pre7 c n).length) ∧ s = ⟨210, sp [(2, .lp 2 0), (4, .c (sC ⟨#[]⟩)), (5, .c (.a (.t (.sl .un 1 ((pre7 c n).map txT))))), (15, .c (sC (joinB ((pre7 c n).take i) andB))), (16, iX .i64 ((i : Nat) : Int))], lv [(2, .box [.t (.sl .un 1 (c.nl.map i64T)), .t (.sl .un 1 (c.nn.map i64T)), .t (.sl .un 4 (c.ax.map axT)), .t (.sl .un 3 (c.is.map ctT)), .t (.sl .un 4 (c.ts.map tsT)), .t (.sl .un 2 (c.sm.map prT)), .t (.sl .un 2 (c.df.map prT))])], upd H kt (some (.tip 9 1 zs.length))⟩) (fun i => (pre7 c n).length - i) 1 ⟨_, Wk.keep 210 [(2, .lp 2 0), (4, .c (sC ⟨#[]⟩)), (5, .c (.a (.t (.sl .un 1 ((pre7 c n).map txT))))), (15, .c (sC (joinB ((pre7 c n).take ((1 : Nat))) andB))), (16, iX .i64 ((((1 : Nat)) : Nat) : Int))] [(2, .box [.t (.sl .un 1 (c.nl.map i64T)), .t (.sl .un 1 (c.nn.map i64T)), .t (.sl .un 4 (c.ax.map axT)), .t (.sl .un 3 (c.is.map ctT)), .t (.sl .un 4 (c.ts.map tsT)), .t (.sl .un 2 (c.sm.map prT)), .t (.sl .un 2 (c.df.map prT))])] (upd H kt (some (.tip 9 1 zs.length))) rfl ⟨rfl, rfl, rfl, rfl, rfl, trivial⟩ ⟨rfl, trivial⟩ (fun _ _ h => h) rfl, ⟨Nat.le_refl _, h0c⟩, rfl⟩ (fun i s hs => ?_)
                  obtain ⟨⟨hi1, hi0⟩, rfl⟩ := hs
                  refine AW.seq ?_
                  refine AW.seq ?_
                  refine AW.reg ?_
                  refine SeqK.q (q_mvC rfl rfl) rfl rfl rfl ?_
                  refine SeqK.q (q_mvC rfl rfl) rfl rfl rfl ?_
                  refine SeqK.q (q_len rfl Fx.un73 rfl) rfl rfl rfl ?_
                  refine SeqK.q (q_lss rfl rfl rfl) rfl rfl rfl ?_
                  refine SeqK.nil ?_
                  refine AW.condD rfl (fun h199 => ?_) (fun h199 => ?_)
                  ·
                    have hi : i < (pre7 c n).length := by rw [List.length_map] at h199; omega
                    have hjl := all_size hF i
                    have hll := line_size hF _ (List.getElem_mem hi)
                    refine AW.skip ?_
                    refine AW.seq ?_
                    refine AW.block ?_
                    refine AW.reg ?_
                    refine SeqK.q (q_mvC rfl rfl) rfl rfl rfl ?_
                    refine SeqK.q (q_addS rfl rfl rfl (by first | omega | (simp only [ByteArray.size_append]; omega))) rfl rfl rfl ?_
                    refine SeqK.q (q_mvC rfl rfl) rfl rfl rfl ?_
                    refine SeqK.q (q_mvC rfl rfl) rfl rfl rfl ?_
                    refine SeqK.q (q_index _ rfl Fx.sl73 rfl rfl (by omega) (idx_map (f := txT) hi)) rfl rfl rfl ?_
                    refine SeqK.q (q_load (.a _) rfl Fx.ty9 rfl rfl rfl) rfl rfl rfl ?_
                    refine SeqK.q (q_addS rfl rfl rfl (by first | omega | (simp only [ByteArray.size_append]; omega))) rfl rfl rfl ?_
                    refine SeqK.q (q_asC rfl rfl) rfl rfl rfl ?_
                    refine SeqK.nil ?_
                    refine AW.reg ?_
                    refine SeqK.q (q_mvC rfl rfl) rfl rfl rfl ?_
                    refine SeqK.q (q_add _ rfl rfl rfl (w64 (by omega) (by omega))) rfl rfl rfl ?_
                    refine SeqK.q (q_asC rfl rfl) rfl rfl rfl ?_
                    refine SeqK.nil ?_
                    exact ⟨i + 1, _, Wk.keep 210 [(2, .lp 2 0), (4, .c (sC ⟨#[]⟩)), (5, .c (.a (.t (.sl .un 1 ((pre7 c n).map txT))))), (15, .c (sC (joinB ((pre7 c n).take (i + 1)) andB))), (16, iX .i64 ((i + 1 : Nat) : Int))] [(2, .box [.t (.sl .un 1 (c.nl.map i64T)), .t (.sl .un 1 (c.nn.map i64T)), .t (.sl .un 4 (c.ax.map axT)), .t (.sl .un 3 (c.is.map ctT)), .t (.sl .un 4 (c.ts.map tsT)), .t (.sl .un 2 (c.sm.map prT)), .t (.sl .un 2 (c.df.map prT))])] (upd H kt (some (.tip 9 1 zs.length))) rfl ⟨rfl, rfl, rfl, sCe (by rw [join_next hi1 hi]), rfl, trivial⟩ ⟨rfl, trivial⟩ (fun _ _ h => h) rfl, by omega, ⟨by omega, hi⟩, rfl⟩
                  ·
                    refine AW.exit ?_
                    refine eth_e ?_
                    refine eth_e ?_
                    refine exit_here ?_
                    refine AW.seq ?_
                    refine AW.reg ?_
                    refine SeqK.q (q_mvC rfl rfl) rfl rfl rfl ?_
                    refine SeqK.q (q_asC rfl rfl) rfl rfl rfl ?_
                    refine SeqK.nil ?_
                    refine AW.ret ?_
                    exact fin_x (x := .c _) (H) (.tmp rfl .nil) rfl ((fun j o h => upd_sub hkt j o h)) (⟨sCe (by rw [fmtC, if_neg hnil, List.take_of_length_le (by rw [List.length_map] at h199; omega)]), rfl⟩)

end Go.Proofs.YtnmfjojhgfipcaaGreatDoor.W
namespace Go.Proofs.YtnmfjojhgfipcaaGreatDoor.W
open Go.RowKit E
set_option linter.unusedVariables false
set_option linter.unusedSimpArgs false
set_option linter.unusedSectionVars false
/-! the law of Format, walked -/
theorem num_form {f : Lf} {nn : List Int} {l : List Vr} {bs : List Nat} (h : formP f nn l bs) (hl : l.length ≤ 10) (hb : bs.length ≤ 80) (hn : f.cs.length ≤ 400) : NumL f := by
  obtain ⟨h1, h2, _⟩ := h
  refine ⟨⟨by show f.c.natAbs < 9223372036854775808; omega, by omega, by omega⟩, fun k hk => ?_, fun k hk => ?_, hn⟩
  · obtain ⟨j, hj, rfl⟩ := List.mem_iff_getElem.1 hk
    have := (h2 j hj).1
    exact ⟨this.1, by show f.cs[j].v.toNat < 9223372036854775808; omega⟩
  · obtain ⟨j, hj, rfl⟩ := List.mem_iff_getElem.1 hk
    have := (h2 j hj).2.2.2.1
    exact ⟨by show f.cs[j].n.natAbs < 9223372036854775808; omega, by omega, by omega⟩
theorem vOk_lt {v : Int} (h0 : 0 ≤ v) (h : v ≤ 1000) : vOk v := ⟨h0, by show v.toNat < 9223372036854775808; omega⟩
theorem okFm_of {c : Cl} {l : List Vr} (hf : fewP c) (hl : l.length ≤ 10) (hv : vldP c l) : okFm c l.length := by
  obtain ⟨f1, f2, f3⟩ := hf
  obtain ⟨v1, v2, v3, v4, v5, v6, v7⟩ := hv
  have hN : lenN c = c.nl.length + c.nn.length + c.ax.length + c.is.length + c.ts.length + c.sm.length + c.df.length := rfl
  have hax : ∀ a ∈ c.ax, a.f.cs.length ≤ 400 := fun a ha => by have := sumL_mem (f := fun a : Ax => a.f.cs.length) ha; unfold axN at f3; omega
  have his : ∀ a ∈ c.is, a.f.cs.length ≤ 400 := fun a ha => by have := sumL_mem (f := fun a : Ct => a.f.cs.length) ha; unfold isN at f3; omega
  refine ⟨fun v h => ?_, fun v h => ?_, fun a h => ?_, fun k h => ?_, fun t h => ?_, fun p h => ?_, fun p h => ?_, f1, by omega⟩
  · obtain ⟨j, hj, rfl⟩ := List.mem_iff_getElem.1 h
    have := v1 j hj; exact vOk_lt this.1 (by have := this.2.1; omega)
  · obtain ⟨j, hj, rfl⟩ := List.mem_iff_getElem.1 h
    have := v2 j hj; exact vOk_lt this.1 (by have := this.2.1; omega)
  · have hk := hax a h
    obtain ⟨j, hj, rfl⟩ := List.mem_iff_getElem.1 h
    rcases v3 j hj with ⟨q1, q2, q3, q4⟩ | ⟨q1, q2, q3, q4⟩
    · refine ⟨⟨⟨by rw [q3]; decide, by rw [q3]; decide⟩, fun k hk => ?_, fun k hk => ?_, by omega⟩, vOk_lt q4.1.1 (by have := q4.1.2; omega), by rw [q1]; exact vOk_lt (by decide) (by decide)⟩
      · rw [List.length_eq_zero_iff.1 q2] at hk; cases hk
      · rw [List.length_eq_zero_iff.1 q2] at hk; cases hk
    · exact ⟨num_form q2 hl (by rw [bsF_len, List.length_take]; omega) hk, by rw [q4]; exact vOk_lt (by decide) (by decide), vOk_lt (by omega) (by omega)⟩
  · have hk := his k h
    obtain ⟨j, hj, rfl⟩ := List.mem_iff_getElem.1 h
    exact num_form (v4 j hj) hl (by rw [bsF_len]; omega) hk
  · obtain ⟨j, hj, rfl⟩ := List.mem_iff_getElem.1 h
    obtain ⟨q1, q2⟩ := v5 j hj
    exact ⟨q1.1, q1.2.2, vOk_lt q2.1.1 (by have := q2.1.2; omega), q1.2.1⟩
  · obtain ⟨j, hj, rfl⟩ := List.mem_iff_getElem.1 h
    have := v6 j hj
    exact ⟨vOk_lt this.1.1.1 (by have := this.1.1.2; omega), vOk_lt this.2.1.1.1 (by have := this.2.1.1.2; omega)⟩
  · obtain ⟨j, hj, rfl⟩ := List.mem_iff_getElem.1 h
    have := v7 j hj
    exact ⟨vOk_lt this.1.1.1 (by have := this.1.1.2; omega), vOk_lt this.2.1.1.1 (by have := this.2.1.1.2; omega)⟩
theorem format_len (c : Cl) (l : List Vr) (h : okFm c l.length) : Pure Tryz.prog 8 [clC c, iC (((l.map vrT).length : Nat) : Int)] (.c (sC (fmtC c l.length))) := by rw [List.length_map]; exact format_any c l.length h
theorem rformat_len (c : Cl) (l : List Vr) (h : okFm c l.length) : Pure Tryz.prog 9 [clC c, iC (((l.map vrT).length : Nat) : Int)] (.c (sC (fmtC c l.length))) := by rw [List.length_map]; exact rformat_any c l.length h

set_option maxRecDepth 20000 in
theorem format_law (c : Cl) (l : List Vr) (z : Nz) (hc : rgC c) (hl : l.length ≤ 17592186044000) (H : Heap) : E.Spec Tryz.prog 3 [clC c, vsC z l] H fun x H' => x = bX true := by
  refine Spec.enter Tryz.func3 rfl ?_
  refine AW.wk (Wk.keep 33 [(0, .c (clC c)), (1, .c (vsC z l))] [] (H) rfl ⟨rfl, rfl, trivial⟩ trivial (fun _ _ h => h) rfl) ?_
  refine AW.seq ?_
  refine AW.reg ?_
  refine SeqK.r (b_box (r := [_, _, _, _, _, _, _]) rfl rfl rfl rfl rfl rfl) rfl ?_
  refine SeqK.q (q_asC rfl rfl) rfl rfl rfl ?_
  refine SeqK.nil ?_
  refine AW.seq ?_
  refine AW.seq ?_
  refine AW.reg ?_
  refine SeqK.q (q_call _ rfl Fx.fn4 rfl (awake_any) rfl) rfl rfl rfl ?_
  refine SeqK.q (q_not rfl rfl) rfl rfl rfl ?_
  refine SeqK.q (q_mvC rfl rfl) rfl rfl rfl ?_
  refine SeqK.on (q_mvC rfl rfl) rfl rfl rfl rfl rfl ?_
  refine SeqK.on (q_call _ rfl Fx.fn5 rfl (dom_any _ _ hl) rfl) rfl rfl rfl rfl rfl ?_
  refine SeqK.on (q_not rfl rfl) rfl rfl rfl rfl rfl ?_
  refine SeqK.q (q_pkF rfl rfl rfl) rfl rfl rfl ?_
  refine SeqK.qB (q_mvC rfl rfl) rfl rfl rfl (fun g12 => ?_) (fun g12 => ?_)
  ·
    refine SeqK.off rfl rfl rfl rfl rfl rfl ?_
    refine SeqK.off rfl rfl rfl rfl rfl rfl ?_
    refine SeqK.off rfl rfl rfl rfl rfl rfl ?_
    refine SeqK.q (q_pkT rfl rfl rfl) rfl rfl rfl ?_
    refine SeqK.q (q_mvC rfl rfl) rfl rfl rfl ?_
    refine SeqK.off rfl rfl rfl rfl rfl rfl ?_
    refine SeqK.off rfl rfl rfl rfl rfl rfl ?_
    refine SeqK.off rfl rfl rfl rfl rfl rfl ?_
    refine SeqK.off rfl rfl rfl rfl rfl rfl ?_
    refine SeqK.q (q_pkT rfl rfl rfl) rfl rfl rfl ?_
    refine SeqK.nil ?_
    refine AW.condT rfl ?_
    refine AW.seq ?_
    refine AW.reg ?_
    refine SeqK.q (q_call _ rfl Fx.fn4 rfl (awake_any) rfl) rfl rfl rfl ?_
    refine SeqK.q (q_asC rfl rfl) rfl rfl rfl ?_
    refine SeqK.nil ?_
    refine AW.ret ?_
    exact fin_x (x := .c _) (H) (.tmp rfl .nil) rfl (fun _ _ h => h) (rfl)
  ·
    refine SeqK.rOn (b_load (r := .g [_, _, _, _, _, _, _]) rfl Fx.ty28 rfl rfl rfl rfl rfl rfl) rfl rfl rfl ?_
    refine SeqK.on (q_call _ rfl Fx.fn6 rfl (few_any c hc) rfl) rfl rfl rfl rfl rfl ?_
    refine SeqK.on (q_not rfl rfl) rfl rfl rfl rfl rfl ?_
    refine SeqK.q (q_pkF rfl rfl rfl) rfl rfl rfl ?_
    refine SeqK.qB (q_mvC rfl rfl) rfl rfl rfl (fun g17 => ?_) (fun g17 => ?_)
    ·
      refine SeqK.off rfl rfl rfl rfl rfl rfl ?_
      refine SeqK.off rfl rfl rfl rfl rfl rfl ?_
      refine SeqK.off rfl rfl rfl rfl rfl rfl ?_
      refine SeqK.off rfl rfl rfl rfl rfl rfl ?_
      refine SeqK.q (q_pkT rfl rfl rfl) rfl rfl rfl ?_
      refine SeqK.nil ?_
      refine AW.condT rfl ?_
      refine AW.seq ?_
      refine AW.reg ?_
      refine SeqK.q (q_call _ rfl Fx.fn4 rfl (awake_any) rfl) rfl rfl rfl ?_
      refine SeqK.q (q_asC rfl rfl) rfl rfl rfl ?_
      refine SeqK.nil ?_
      refine AW.ret ?_
      exact fin_x (x := .c _) (H) (.tmp rfl .nil) rfl (fun _ _ h => h) (rfl)
    ·
      refine SeqK.rOn (b_load (r := .g [_, _, _, _, _, _, _]) rfl Fx.ty28 rfl rfl rfl rfl rfl rfl) rfl rfl rfl ?_
      refine SeqK.on (q_mvC rfl rfl) rfl rfl rfl rfl rfl ?_
      refine SeqK.on (q_call _ rfl Fx.fn7 rfl (rvalid_any c l z hc hl) rfl) rfl rfl rfl rfl rfl ?_
      refine SeqK.on (q_not rfl rfl) rfl rfl rfl rfl rfl ?_
      refine SeqK.q (q_pkF rfl rfl rfl) rfl rfl rfl ?_
      refine SeqK.nil ?_
      refine AW.cond _ rfl (fun h22 => ?_) (fun h22 => ?_)
      ·
        refine AW.seq ?_
        refine AW.reg ?_
        refine SeqK.q (q_call _ rfl Fx.fn4 rfl (awake_any) rfl) rfl rfl rfl ?_
        refine SeqK.q (q_asC rfl rfl) rfl rfl rfl ?_
        refine SeqK.nil ?_
        refine AW.ret ?_
        exact fin_x (x := .c _) (H) (.tmp rfl .nil) rfl (fun _ _ h => h) (by first | rfl | (simp; done))
      ·
        refine AW.skip ?_
        refine AW.seq ?_
        have hd : domB l = true := by first | simpa using g12 | simpa using g11
        have hd2 : l.length ≤ 10 := of_decide_eq_true (Bool.and_eq_true_iff.1 hd).2
        have hf : fewP c := by first | simpa using g17 | simpa using g16
        have hv : vldP c l := by first | simpa using h22 | simpa using g20
        have hok := okFm_of hf hd2 hv
        refine AW.draw Fx.mo ?_
        refine LexK.r (b_load (r := .g [_, _, _, _, _, _, _]) rfl Fx.ty28 rfl rfl rfl rfl rfl rfl) rfl ?_
        refine LexK.q (q_mvC rfl rfl) rfl rfl rfl ?_
        refine LexK.q (q_len rfl Fx.un29 rfl) rfl rfl rfl ?_
        refine LexK.q (q_call _ rfl Fx.fn8 rfl (format_len c l hok) rfl) rfl rfl rfl ?_
        refine LexK.r (b_load (r := .g [_, _, _, _, _, _, _]) rfl Fx.ty28 rfl rfl rfl rfl rfl rfl) rfl ?_
        refine LexK.q (q_mvC rfl rfl) rfl rfl rfl ?_
        refine LexK.q (q_len rfl Fx.un29 rfl) rfl rfl rfl ?_
        refine LexK.q (q_call _ rfl Fx.fn9 rfl (rformat_len c l hok) rfl) rfl rfl rfl ?_
        refine LexK.q (q_eqlS rfl rfl rfl) rfl rfl rfl ?_
        refine LexK.q (q_asC rfl rfl) rfl rfl rfl ?_
        refine LexK.nil (by kernel_rfl) ?_
        refine AW.ret ?_
        exact fin_x (x := .c _) (H) (.tmp rfl .nil) rfl (fun _ _ h => h) (by first | rfl | (simp; done))

end Go.Proofs.YtnmfjojhgfipcaaGreatDoor.W
/- The readers of the laws' arguments: data to trees. -/
namespace Go.Proofs.YtnmfjojhgfipcaaGreatDoor.W
open Go.RowKit E
set_option linter.unusedVariables false
abbrev ok22 (l : List Int) : Prop := l.length * 8 ≤ 140737488351232 ∧ l.length ≤ maxLen ∧ ∀ x ∈ l, (fun i : Int => (Lit.int .i64 i).wf = true) x
theorem rd22 (N : Nat) : Reads Tryz.prog N 22 1 (fun x : List Int => ([.sl .un 1 (x.map (fun x : Int => ([.v (.int .i64 x)] : List T)))] : List T)) ok22 :=
  (Reads.slice Tryz.underlying22 (by kernel_rfl) (by decide) (fun M _ => (Reads.int Tryz.underlying3))).conv id (fun _ _ => rfl) (fun _ h => by rw [show Tryz.prog.bytesOf 3 = 8 from by kernel_rfl] at h; exact h)
abbrev ok96 (s : Cf) : Prop := (fun i : Int => (Lit.int .i64 i).wf = true) s.v ∧ (fun i : Int => (Lit.int .i64 i).wf = true) s.n ∧ True
theorem rd96 (N : Nat) : Reads Tryz.prog N 96 2 cfT ok96 :=
  (Reads.struct Tryz.underlying96 (ReadsF.cons rfl (by kernel_rfl) (fun M _ => (Reads.int Tryz.underlying3)) (ReadsF.cons rfl (by kernel_rfl) (fun M _ => (Reads.int Tryz.underlying2)) .nil))).conv (fun p => (⟨p.1, p.2.1⟩ : Cf)) (fun _ _ => rfl) (fun _ h => h)
abbrev ok59 (l : List Cf) : Prop := l.length * 16 ≤ 140737488351232 ∧ l.length ≤ maxLen ∧ ∀ x ∈ l, ok96 x
theorem rd59 (N : Nat) : Reads Tryz.prog N 59 1 (fun x : List Cf => ([.sl .un 2 (x.map cfT)] : List T)) ok59 :=
  (Reads.slice Tryz.underlying59 (by kernel_rfl) (by decide) (fun M _ => (rd96 M))).conv id (fun _ _ => rfl) (fun _ h => by rw [show Tryz.prog.bytesOf 96 = 16 from by kernel_rfl] at h; exact h)
abbrev ok61 (s : Lf) : Prop := (fun i : Int => (Lit.int .i64 i).wf = true) s.c ∧ ok59 s.cs ∧ True
theorem rd61 (N : Nat) : Reads Tryz.prog N 61 2 lfT ok61 :=
  (Reads.struct Tryz.underlying61 (ReadsF.cons rfl (by kernel_rfl) (fun M _ => (Reads.int Tryz.underlying2)) (ReadsF.cons rfl (by kernel_rfl) (fun M _ => (rd59 M)) .nil))).conv (fun p => (⟨p.1, p.2.1⟩ : Lf)) (fun _ _ => rfl) (fun _ h => h)
abbrev ok63 (s : Ax) : Prop := ok61 s.f ∧ (fun i : Int => (Lit.int .i64 i).wf = true) s.b ∧ (fun i : Int => (Lit.int .i64 i).wf = true) s.t ∧ True
theorem rd63 (N : Nat) : Reads Tryz.prog N 63 4 axT ok63 :=
  (Reads.struct Tryz.underlying63 (ReadsF.cons rfl (by kernel_rfl) (fun M _ => (rd61 M)) (ReadsF.cons rfl (by kernel_rfl) (fun M _ => (Reads.int Tryz.underlying2)) (ReadsF.cons rfl (by kernel_rfl) (fun M _ => (Reads.int Tryz.underlying3)) .nil)))).conv (fun p => (⟨p.1, p.2.1, p.2.2.1⟩ : Ax)) (fun _ _ => rfl) (fun _ h => h)
abbrev ok23 (l : List Ax) : Prop := l.length * 48 ≤ 140737488351232 ∧ l.length ≤ maxLen ∧ ∀ x ∈ l, ok63 x
theorem rd23 (N : Nat) : Reads Tryz.prog N 23 1 (fun x : List Ax => ([.sl .un 4 (x.map axT)] : List T)) ok23 :=
  (Reads.slice Tryz.underlying23 (by kernel_rfl) (by decide) (fun M _ => (rd63 M))).conv id (fun _ _ => rfl) (fun _ h => by rw [show Tryz.prog.bytesOf 63 = 48 from by kernel_rfl] at h; exact h)
abbrev ok65 (s : Ct) : Prop := ok61 s.f ∧ (fun _ : Bool => True) s.e ∧ True
theorem rd65 (N : Nat) : Reads Tryz.prog N 65 3 ctT ok65 :=
  (Reads.struct Tryz.underlying65 (ReadsF.cons rfl (by kernel_rfl) (fun M _ => (rd61 M)) (ReadsF.cons rfl (by kernel_rfl) (fun M _ => (Reads.bool Tryz.underlying4)) .nil))).conv (fun p => (⟨p.1, p.2.1⟩ : Ct)) (fun _ _ => rfl) (fun _ h => h)
abbrev ok24 (l : List Ct) : Prop := l.length * 40 ≤ 140737488351232 ∧ l.length ≤ maxLen ∧ ∀ x ∈ l, ok65 x
theorem rd24 (N : Nat) : Reads Tryz.prog N 24 1 (fun x : List Ct => ([.sl .un 3 (x.map ctT)] : List T)) ok24 :=
  (Reads.slice Tryz.underlying24 (by kernel_rfl) (by decide) (fun M _ => (rd65 M))).conv id (fun _ _ => rfl) (fun _ h => by rw [show Tryz.prog.bytesOf 65 = 40 from by kernel_rfl] at h; exact h)
abbrev ok44 (s : Ts) : Prop := (fun i : Int => (Lit.int .i64 i).wf = true) s.v ∧ (fun i : Int => (Lit.int .i64 i).wf = true) s.k ∧ (fun _ : Bool => True) s.n ∧ (fun s : ByteArray => s.size ≤ 140737488351232) s.s ∧ True
theorem rd44 (N : Nat) : Reads Tryz.prog N 44 4 tsT ok44 :=
  (Reads.struct Tryz.underlying44 (ReadsF.cons rfl (by kernel_rfl) (fun M _ => (Reads.int Tryz.underlying3)) (ReadsF.cons rfl (by kernel_rfl) (fun M _ => (Reads.int Tryz.underlying3)) (ReadsF.cons rfl (by kernel_rfl) (fun M _ => (Reads.bool Tryz.underlying4)) (ReadsF.cons rfl (by kernel_rfl) (fun M _ => (Reads.string Tryz.underlying9)) .nil))))).conv (fun p => (⟨p.1, p.2.1, p.2.2.1, p.2.2.2.1⟩ : Ts)) (fun _ _ => rfl) (fun _ h => h)
abbrev ok25 (l : List Ts) : Prop := l.length * 40 ≤ 140737488351232 ∧ l.length ≤ maxLen ∧ ∀ x ∈ l, ok44 x
theorem rd25 (N : Nat) : Reads Tryz.prog N 25 1 (fun x : List Ts => ([.sl .un 4 (x.map tsT)] : List T)) ok25 :=
  (Reads.slice Tryz.underlying25 (by kernel_rfl) (by decide) (fun M _ => (rd44 M))).conv id (fun _ _ => rfl) (fun _ h => by rw [show Tryz.prog.bytesOf 44 = 40 from by kernel_rfl] at h; exact h)
abbrev ok80 (p : Int × Int) : Prop := (Lit.int .i64 p.1).wf = true ∧ (Lit.int .i64 p.2).wf = true
theorem rd80 (N : Nat) : Reads Tryz.prog N 80 2 prT ok80 := (Reads.array Tryz.underlying80 (by kernel_rfl) (fun M _ => (Reads.int Tryz.underlying3))).conv (fun l => (l.getD 0 0, l.getD 1 0))
  (fun l h => by match l, h with | [a, b], _ => rfl)
  (fun l h => by match l, h with | [a, b], h => exact ⟨h.2 a (by simp), h.2 b (by simp)⟩)
abbrev ok26 (l : List ((Int × Int))) : Prop := l.length * 16 ≤ 140737488351232 ∧ l.length ≤ maxLen ∧ ∀ x ∈ l, ok80 x
theorem rd26 (N : Nat) : Reads Tryz.prog N 26 1 (fun x : List ((Int × Int)) => ([.sl .un 2 (x.map prT)] : List T)) ok26 :=
  (Reads.slice Tryz.underlying26 (by kernel_rfl) (by decide) (fun M _ => (rd80 M))).conv id (fun _ _ => rfl) (fun _ h => by rw [show Tryz.prog.bytesOf 80 = 16 from by kernel_rfl] at h; exact h)
abbrev ok28 (s : Cl) : Prop := ok22 s.nl ∧ ok22 s.nn ∧ ok23 s.ax ∧ ok24 s.is ∧ ok25 s.ts ∧ ok26 s.sm ∧ ok26 s.df ∧ True
theorem rd28 (N : Nat) : Reads Tryz.prog N 28 7 clT ok28 :=
  (Reads.struct Tryz.underlying28 (ReadsF.cons rfl (by kernel_rfl) (fun M _ => (rd22 M)) (ReadsF.cons rfl (by kernel_rfl) (fun M _ => (rd22 M)) (ReadsF.cons rfl (by kernel_rfl) (fun M _ => (rd23 M)) (ReadsF.cons rfl (by kernel_rfl) (fun M _ => (rd24 M)) (ReadsF.cons rfl (by kernel_rfl) (fun M _ => (rd25 M)) (ReadsF.cons rfl (by kernel_rfl) (fun M _ => (rd26 M)) (ReadsF.cons rfl (by kernel_rfl) (fun M _ => (rd26 M)) .nil)))))))).conv (fun p => (⟨p.1, p.2.1, p.2.2.1, p.2.2.2.1, p.2.2.2.2.1, p.2.2.2.2.2.1, p.2.2.2.2.2.2.1⟩ : Cl)) (fun _ _ => rfl) (fun _ h => h)
abbrev ok36 (s : Vr) : Prop := (fun i : Int => (Lit.int .i64 i).wf = true) s.ty ∧ (fun i : Int => (Lit.int .i64 i).wf = true) s.lo ∧ (fun i : Int => (Lit.int .i64 i).wf = true) s.hi ∧ (fun i : Int => (Lit.int .i64 i).wf = true) s.mx ∧ (fun _ : Bool => True) s.nu ∧ True
theorem rd36 (N : Nat) : Reads Tryz.prog N 36 5 vrT ok36 :=
  (Reads.struct Tryz.underlying36 (ReadsF.cons rfl (by kernel_rfl) (fun M _ => (Reads.int Tryz.underlying3)) (ReadsF.cons rfl (by kernel_rfl) (fun M _ => (Reads.int Tryz.underlying2)) (ReadsF.cons rfl (by kernel_rfl) (fun M _ => (Reads.int Tryz.underlying2)) (ReadsF.cons rfl (by kernel_rfl) (fun M _ => (Reads.int Tryz.underlying3)) (ReadsF.cons rfl (by kernel_rfl) (fun M _ => (Reads.bool Tryz.underlying4)) .nil)))))).conv (fun p => (⟨p.1, p.2.1, p.2.2.1, p.2.2.2.1, p.2.2.2.2.1⟩ : Vr)) (fun _ _ => rfl) (fun _ h => h)
abbrev ok29 (l : List Vr) : Prop := l.length * 40 ≤ 140737488351232 ∧ l.length ≤ maxLen ∧ ∀ x ∈ l, ok36 x
theorem rd29 (N : Nat) : Reads Tryz.prog N 29 1 (fun x : List Vr => ([.sl .un 5 (x.map vrT)] : List T)) ok29 :=
  (Reads.slice Tryz.underlying29 (by kernel_rfl) (by decide) (fun M _ => (rd36 M))).conv id (fun _ _ => rfl) (fun _ h => by rw [show Tryz.prog.bytesOf 36 = 40 from by kernel_rfl] at h; exact h)
theorem rg_of {c : Cl} (h : ok28 c) : rgC c := by
  obtain ⟨h1, h2, h3, h4, h5, h6, h7, _⟩ := h
  refine ⟨by have := h1.1; omega, by have := h2.1; omega, by have := h3.1; omega, by have := h4.1; omega, by have := h5.1; omega, by have := h6.1; omega, by have := h7.1; omega, fun a ha => ?_, fun a ha => ?_, fun t ht => ?_⟩
  · have := (h3.2.2 a ha).1.2.1.1; omega
  · have := (h4.2.2 a ha).1.2.1.1; omega
  · have := (h5.2.2 t ht).2.2.2.1; omega
theorem rg_dom {l : List Vr} (h : ok29 l) : l.length ≤ 17592186044000 := by have := h.1; omega
end Go.Proofs.YtnmfjojhgfipcaaGreatDoor.W
