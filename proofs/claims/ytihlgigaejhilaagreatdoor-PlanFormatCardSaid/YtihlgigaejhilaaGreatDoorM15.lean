/- Parts of the proof, one after the other: W6, W7, W8, W9, W10, W11. No condition. -/
import Derived.Test.YtihlgigaejhilaaGreatDoorM14
set_option linter.unusedSectionVars false
set_option linter.unusedSimpArgs false
set_option linter.unusedVariables false
namespace Go.Proofs.YtihlgigaejhilaaGreatDoor.W
open Go.RowKit E
abbrev smD (d : Df) : Prop := (d.nm.size ≤ 60 ∧ d.cols.length ≤ 20 ∧ d.keys.length ≤ 10 ∧ d.fks.length ≤ 10 ∧ d.chks.length ≤ 10) ∧ (∀ j (h : j < d.cols.length), d.cols[j].nm.size ≤ 60) ∧ (∀ j (h : j < d.keys.length), fewP 0 d.keys[j]) ∧
  (∀ j (h : j < d.fks.length), d.fks[j].tab.size ≤ 60 ∧ fewP 0 d.fks[j].cols ∧ fewP 0 d.fks[j].tgt) ∧ ∀ j (h : j < d.chks.length), finB 4 d.chks[j] = true
abbrev smlP (l : List Df) : Prop := (∀ j (h : j < l.length), smD l[j]) ∧ l.length ≤ 12
structure okD (d : Df) : Prop where
  nm : d.nm.size ≤ 1000000000000000
  cols : d.cols.length ≤ 17592186044000
  colsn : ∀ c ∈ d.cols, c.nm.size ≤ 1000000000000000
  keys : d.keys.length ≤ 17592186044000
  keysl : ∀ k ∈ d.keys, k.length ≤ 1000000
  keysn : ∀ k ∈ d.keys, ∀ u ∈ k, u.size ≤ 1000000000000000
  fks : d.fks.length ≤ 17592186044000
  fksl : ∀ f ∈ d.fks, f.cols.length ≤ 1000000 ∧ f.tgt.length ≤ 1000000
  fksn : ∀ f ∈ d.fks, f.tab.size ≤ 1000000000000000
  chks : d.chks.length ≤ 17592186044000
  chkso : ∀ e ∈ d.chks, okE e

abbrev zCr (x : Df) : List A := [.t (.sl .un 6 (x.cols.map coT)), .t (.sl .un 1 (x.keys.map sLT)), .t (.sl .un 3 (x.fks.map rfT)), .t (.sl .un 8 (x.chks.map exT'))]
set_option maxHeartbeats 8000000 in
set_option maxRecDepth 20000 in
theorem small_any (l : List Df) (z : Nz) (hl : l.length ≤ 17592186044000) (hok : ∀ d ∈ l, okD d) : Pure Tryz.prog 27 [.a (.t (.sl z 22 (l.map dfT)))] (.c (bC (decide (smlP l)))) := by
 intro H
 refine Spec.enter Tryz.func27 rfl ?_
 refine AW.wk (Wk.keep 132 [(0, .c (.a (.t (.sl z 22 (l.map dfT)))))] [] (H) rfl ⟨rfl, trivial⟩ trivial (fun _ _ h => h) rfl) ?_
 refine sR (sB ?_)
 refine AW.seq (sR (sB ?_))
 refine AW.block ?_
 refine AW.loop (fun (i : Nat) s => (i ≤ l.length ∧ ∀ j (h : j < l.length), j < i → smD l[j]) ∧ s = ⟨132, sp [(0, .c (.a (.t (.sl z 22 (l.map dfT))))), (2, .c (bC false)), (3, iX .i64 ((i : Nat) : Int))], lv [], H⟩) (fun i => l.length - i) 0 ⟨_, by exact Wk.keep 132 _ _ _ rfl ⟨rfl, rfl, rfl, trivial⟩ trivial (fun _ _ h => h) rfl, ⟨Nat.zero_le _, up0⟩, rfl⟩ (fun i s hs => ?_)
 obtain ⟨⟨hi0, hU⟩, rfl⟩ := hs
 refine AW.seq (sR (sM ?_))
 refine sM ?_
 refine Z14 Fx.un85 ?_
 refine Z10 ?_
 refine Z3 ?_
 refine AW.condD rfl ?_ ?_ <;> intro h12
 ·
  have hi : i < l.length := by rw [List.length_map] at h12; omega
  have hk := hok _ (List.getElem_mem hi)
  have k1 := hk.nm
  have k2 := hk.cols
  have k3 := hk.keys
  have k4 := hk.fks
  have k5 := hk.chks
  refine AW.skip (AW.seq (AW.block (sR (sM ?_))))
  refine sM ?_
  refine Z9 Fx.sl85 (idx_map (f := dfT) hi) ?_
  refine SeqK.q (q_fieldP _ rfl Fx.fl47_2 rfl rfl) rfl rfl rfl ?_
  refine Z11 (.g [_, _, _, _]) Fx.ty40 ?_
  refine Z25 (r := [_, _, _, _]) Fx.ze40 ?_
  refine Z15 (r := [_, _, _, _]) Fx.ty40 ?_
  refine Z3 (AW.seq (sR (sM ?_)))
  refine sM ?_
  refine Z9 Fx.sl85 (idx_map (f := dfT) hi) ?_
  refine SeqK.q (q_fieldP _ rfl Fx.fl47_1 rfl rfl) rfl rfl rfl ?_
  refine Z11 (.a _) Fx.ty9 ?_
  refine SeqK.q (q_lenS rfl Fx.un9 rfl) rfl rfl rfl ?_
  refine SeqK.q (q_gtr rfl rfl rfl) rfl rfl rfl ?_
  refine Z19 (fun g27 => ?_) (fun g27 => ?_)
  ·
   iterate 4 refine SeqK.off rfl rfl rfl rfl rfl rfl ?_
   refine Z4 ?_
   refine sM ?_
   iterate 4 refine SeqK.off rfl rfl rfl rfl rfl rfl ?_
   refine Z4 ?_
   refine sM ?_
   iterate 4 refine SeqK.off rfl rfl rfl rfl rfl rfl ?_
   refine Z4 ?_
   refine sM ?_
   iterate 4 refine SeqK.off rfl rfl rfl rfl rfl rfl ?_
   refine Z4 ?_
   refine Z3 (AW.condT rfl ?_)
   refine sR (sB ?_)
   refine AW.ret ?_
   exact f1 (q := ⟨bCe (dF (fun h => by have h9 := (h.1 i hi).1; simp only [List.length_map] at *; omega)), rfl⟩)
  refine Z6 Fx.fl40_0 ?_
  refine Z5 Fx.ty36 ?_
  refine Z28 Fx.un36 ?_
  refine Z35 ?_
  refine Z7 ?_
  refine Z19 (fun g33 => ?_) (fun g33 => ?_)
  ·
   iterate 4 refine SeqK.off rfl rfl rfl rfl rfl rfl ?_
   refine Z4 ?_
   refine sM ?_
   iterate 4 refine SeqK.off rfl rfl rfl rfl rfl rfl ?_
   refine Z4 ?_
   refine sM ?_
   iterate 4 refine SeqK.off rfl rfl rfl rfl rfl rfl ?_
   refine Z4 ?_
   refine Z3 (AW.condT rfl ?_)
   refine sR (sB ?_)
   refine AW.ret ?_
   exact f1 (q := ⟨bCe (dF (fun h => by have h9 := (h.1 i hi).1; simp only [List.length_map] at *; omega)), rfl⟩)
  refine Z6 Fx.fl40_1 ?_
  refine Z5 Fx.ty37 ?_
  refine Z28 Fx.un37 ?_
  refine Z35 ?_
  refine Z7 ?_
  refine Z19 (fun g39 => ?_) (fun g39 => ?_)
  ·
   iterate 4 refine SeqK.off rfl rfl rfl rfl rfl rfl ?_
   refine Z4 ?_
   refine sM ?_
   iterate 4 refine SeqK.off rfl rfl rfl rfl rfl rfl ?_
   refine Z4 ?_
   refine Z3 (AW.condT rfl ?_)
   refine sR (sB ?_)
   refine AW.ret ?_
   exact f1 (q := ⟨bCe (dF (fun h => by have h9 := (h.1 i hi).1; simp only [List.length_map] at *; omega)), rfl⟩)
  refine Z6 Fx.fl40_2 ?_
  refine Z5 Fx.ty38 ?_
  refine Z28 Fx.un38 ?_
  refine Z35 ?_
  refine Z7 ?_
  refine Z19 (fun g45 => ?_) (fun g45 => ?_)
  ·
   iterate 4 refine SeqK.off rfl rfl rfl rfl rfl rfl ?_
   refine Z4 ?_
   refine Z3 (AW.condT rfl ?_)
   refine sR (sB ?_)
   refine AW.ret ?_
   exact f1 (q := ⟨bCe (dF (fun h => by have h9 := (h.1 i hi).1; simp only [List.length_map] at *; omega)), rfl⟩)
  refine Z6 Fx.fl40_3 ?_
  refine Z5 Fx.ty28 ?_
  refine Z28 Fx.un28 ?_
  refine Z35 ?_
  refine Z7 ?_
  refine Z3 ?_
  refine AW.condD rfl ?_ ?_ <;> intro h50
  ·
   refine sR (sB ?_)
   refine AW.ret ?_
   exact f1 (q := ⟨bCe (dF (fun h => by have h9 := (h.1 i hi).1; simp only [List.length_map] at *; omega)), rfl⟩)
  refine AW.skip (AW.seq (AW.seq ?_))
  have hF : l[i].nm.size ≤ 60 ∧ l[i].cols.length ≤ 20 ∧ l[i].keys.length ≤ 10 ∧ l[i].fks.length ≤ 10 ∧ l[i].chks.length ≤ 10 := by simp only [List.length_map] at *; omega
  refine AW.reg (sB ?_)
  refine AW.block ?_
  refine AW.loop (fun (j : Nat) s => (j ≤ l[i].cols.length ∧ ∀ k (h : k < l[i].cols.length), k < j → l[i].cols[k].nm.size ≤ 60) ∧ s = ⟨132, sp [(0, .c (.a (.t (.sl z 22 (l.map dfT))))), (2, .c (bC false)), (3, iX .i64 ((i : Nat) : Int)), (4, .lp 4 0), (5, iX .i64 ((j : Nat) : Int))], lv [(4, .box (zCr l[i]))], H⟩) (fun j => l[i].cols.length - j) 0 ⟨_, Wk.keep 132 [(0, .c (.a (.t (.sl z 22 (l.map dfT))))), (2, .c (bC false)), (3, iX .i64 ((i : Nat) : Int)), (4, .lp 4 0), (5, iX .i64 ((((0 : Nat)) : Nat) : Int))] [(4, .box (zCr l[i]))] (H) rfl ⟨rfl, rfl, rfl, rfl, rfl, trivial⟩ ⟨rfl, trivial⟩ (fun _ _ h => h) rfl, ⟨Nat.zero_le _, up0⟩, rfl⟩ (fun j s hs => ?_)
  obtain ⟨⟨hj0, hU1⟩, rfl⟩ := hs
  refine AW.seq (sR (sM ?_))
  refine Z1 Fx.fl40_0 ?_
  refine Z0 Fx.ty36 ?_
  refine Z14 Fx.un36 ?_
  refine Z10 ?_
  refine Z3 ?_
  refine AW.condD rfl ?_ ?_ <;> intro h55
  ·
   have hj : j < l[i].cols.length := by rw [List.length_map] at h55; omega
   have kc := hk.colsn _ (List.getElem_mem hj)
   refine AW.skip (AW.seq (AW.block (sR (Z1 Fx.fl40_0 ?_))))
   refine Z0 Fx.ty36 ?_
   refine sM ?_
   refine Z9 Fx.sl36 (idx_map (f := coT) hj) ?_
   refine SeqK.q (q_fieldP _ rfl Fx.fl82_0 rfl rfl) rfl rfl rfl ?_
   refine Z11 (.a _) Fx.ty9 ?_
   refine SeqK.q (q_lenS rfl Fx.un9 rfl) rfl rfl rfl ?_
   refine SeqK.q (q_gtr rfl rfl rfl) rfl rfl rfl ?_
   refine Z3 ?_
   refine AW.condD rfl ?_ ?_ <;> intro h65
   ·
    refine sR (sB ?_)
    refine AW.ret ?_
    exact f1 (q := ⟨bCe (dF (fun h => by have h9 := (h.1 i hi).2.1 j hj; omega)), rfl⟩)
   refine AW.skip (AW.reg (sM ?_))
   refine Z2 ?_
   refine sB ?_
   exact ⟨j + 1, _, by exact Wk.keep 132 _ _ _ rfl ⟨rfl, rfl, rfl, rfl, rfl, trivial⟩ ⟨rfl, trivial⟩ (fun _ _ h => h) rfl, by omega, ⟨hj, upS hj hU1 (by omega)⟩, rfl⟩
  refine AW.exit ?_
  refine eth_e ?_
  refine eth_e ?_
  refine exit_here ?_
  refine AW.seq (AW.seq ?_)
  have hA := upE hU1 (by rw [List.length_map] at h55; omega)
  refine AW.reg (sB ?_)
  refine AW.block ?_
  refine AW.loop (fun (j : Nat) s => (j ≤ l[i].keys.length ∧ ∀ k (h : k < l[i].keys.length), k < j → fewP 0 l[i].keys[k]) ∧ s = ⟨132, sp [(0, .c (.a (.t (.sl z 22 (l.map dfT))))), (2, .c (bC false)), (3, iX .i64 ((i : Nat) : Int)), (4, .lp 4 0), (6, iX .i64 ((j : Nat) : Int))], lv [(4, .box (zCr l[i]))], H⟩) (fun j => l[i].keys.length - j) 0 ⟨_, Wk.keep 132 [(0, .c (.a (.t (.sl z 22 (l.map dfT))))), (2, .c (bC false)), (3, iX .i64 ((i : Nat) : Int)), (4, .lp 4 0), (6, iX .i64 ((((0 : Nat)) : Nat) : Int))] [(4, .box (zCr l[i]))] (H) rfl ⟨rfl, rfl, rfl, rfl, rfl, trivial⟩ ⟨rfl, trivial⟩ (fun _ _ h => h) rfl, ⟨Nat.zero_le _, up0⟩, rfl⟩ (fun j s hs => ?_)
  obtain ⟨⟨hj0, hU2⟩, rfl⟩ := hs
  refine AW.seq (sR (sM ?_))
  refine Z1 Fx.fl40_1 ?_
  refine Z0 Fx.ty37 ?_
  refine Z14 Fx.un37 ?_
  refine Z10 ?_
  refine Z3 ?_
  refine AW.condD rfl ?_ ?_ <;> intro h70
  ·
   have hj : j < l[i].keys.length := by rw [List.length_map] at h70; omega
   refine AW.skip (AW.seq (AW.block (sR (Z1 Fx.fl40_1 ?_))))
   refine Z0 Fx.ty37 ?_
   refine sM ?_
   refine Z9 Fx.sl37 (idx_map (f := sLT) hj) ?_
   refine Z11 (.a _) Fx.ty25 ?_
   refine SeqK.q (q_call _ rfl Fx.fn28 rfl (few_any 0 _ .un (by have := hk.keysl _ (List.getElem_mem hj); omega)) rfl) rfl rfl rfl ?_
   refine Z33 ?_
   refine Z3 ?_
   refine AW.cond _ rfl (fun h79 => ?_) (fun h79 => ?_)
   ·
    refine sR (sB ?_)
    refine AW.ret ?_
    exact f1 (q := ⟨bCe (dF (fun h => nd_t h79 ((h.1 i hi).2.2.1 j hj))), rfl⟩)
   refine AW.skip (AW.reg (sM ?_))
   refine Z2 ?_
   refine sB ?_
   exact ⟨j + 1, _, by exact Wk.keep 132 _ _ _ rfl ⟨rfl, rfl, rfl, rfl, rfl, trivial⟩ ⟨rfl, trivial⟩ (fun _ _ h => h) rfl, by omega, ⟨hj, upS hj hU2 (nd_f h79)⟩, rfl⟩
  refine AW.exit ?_
  refine eth_e ?_
  refine eth_e ?_
  refine exit_here ?_
  refine AW.seq (AW.seq ?_)
  have hB := upE hU2 (by rw [List.length_map] at h70; omega)
  refine AW.reg (sB ?_)
  refine AW.block ?_
  refine AW.loop (fun (j : Nat) s => (j ≤ l[i].fks.length ∧ ∀ k (h : k < l[i].fks.length), k < j → l[i].fks[k].tab.size ≤ 60 ∧ fewP 0 l[i].fks[k].cols ∧ fewP 0 l[i].fks[k].tgt) ∧ s = ⟨132, sp [(0, .c (.a (.t (.sl z 22 (l.map dfT))))), (2, .c (bC false)), (3, iX .i64 ((i : Nat) : Int)), (4, .lp 4 0), (7, iX .i64 ((j : Nat) : Int))], lv [(4, .box (zCr l[i]))], H⟩) (fun j => l[i].fks.length - j) 0 ⟨_, Wk.keep 132 [(0, .c (.a (.t (.sl z 22 (l.map dfT))))), (2, .c (bC false)), (3, iX .i64 ((i : Nat) : Int)), (4, .lp 4 0), (7, iX .i64 ((((0 : Nat)) : Nat) : Int))] [(4, .box (zCr l[i]))] (H) rfl ⟨rfl, rfl, rfl, rfl, rfl, trivial⟩ ⟨rfl, trivial⟩ (fun _ _ h => h) rfl, ⟨Nat.zero_le _, up0⟩, rfl⟩ (fun j s hs => ?_)
  obtain ⟨⟨hj0, hU3⟩, rfl⟩ := hs
  refine AW.seq (sR (sM ?_))
  refine Z1 Fx.fl40_2 ?_
  refine Z0 Fx.ty38 ?_
  refine Z14 Fx.un38 ?_
  refine Z10 ?_
  refine Z3 ?_
  refine AW.condD rfl ?_ ?_ <;> intro h84
  ·
   have hj : j < l[i].fks.length := by rw [List.length_map] at h84; omega
   have kf := hk.fksn _ (List.getElem_mem hj)
   refine AW.skip (AW.seq (AW.block (sR (Z1 Fx.fl40_2 ?_))))
   refine Z0 Fx.ty38 ?_
   refine sM ?_
   refine Z9 Fx.sl38 (idx_map (f := rfT) hj) ?_
   refine SeqK.q (q_fieldP _ rfl Fx.fl114_1 rfl rfl) rfl rfl rfl ?_
   refine Z11 (.a _) Fx.ty9 ?_
   refine SeqK.q (q_lenS rfl Fx.un9 rfl) rfl rfl rfl ?_
   refine SeqK.q (q_gtr rfl rfl rfl) rfl rfl rfl ?_
   refine Z19 (fun g95 => ?_) (fun g95 => ?_)
   ·
    iterate 8 refine SeqK.off rfl rfl rfl rfl rfl rfl ?_
    refine Z4 ?_
    refine sM ?_
    iterate 8 refine SeqK.off rfl rfl rfl rfl rfl rfl ?_
    refine Z4 ?_
    refine Z3 (AW.condT rfl ?_)
    refine sR (sB ?_)
    refine AW.ret ?_
    exact f1 (q := ⟨bCe (dF (fun h => by have h9 := (h.1 i hi).2.2.2.1 j hj; first | omega | exact nd_t g105 h9.2.1 | exact nd_t h114 h9.2.2)), rfl⟩)
   refine Z6 Fx.fl40_2 ?_
   refine Z5 Fx.ty38 ?_
   refine Z13 ?_
   refine SeqK.on (q_index _ rfl Fx.sl38 rfl rfl (by omega) (idx_map (f := rfT) hj)) rfl rfl rfl rfl rfl ?_
   refine SeqK.on (q_fieldP _ rfl Fx.fl114_0 rfl rfl) rfl rfl rfl rfl rfl ?_
   refine SeqK.on (q_load (.a _) rfl Fx.ty25 rfl rfl rfl) rfl rfl rfl rfl rfl ?_
   refine SeqK.on (q_call _ rfl Fx.fn28 rfl (few_any 0 l[i].fks[j].cols .un (by have := hk.fksl _ (List.getElem_mem hj); omega)) rfl) rfl rfl rfl rfl rfl ?_
   refine SeqK.on (q_not rfl rfl) rfl rfl rfl rfl rfl ?_
   refine Z7 ?_
   refine SeqK.qB (q_mvC rfl rfl) rfl rfl rfl (fun g105 => ?_) (fun g105 => ?_)
   ·
    iterate 8 refine SeqK.off rfl rfl rfl rfl rfl rfl ?_
    refine Z4 ?_
    refine Z3 (AW.condT rfl ?_)
    refine sR (sB ?_)
    refine AW.ret ?_
    exact f1 (q := ⟨bCe (dF (fun h => by have h9 := (h.1 i hi).2.2.2.1 j hj; first | omega | exact nd_t g105 h9.2.1 | exact nd_t h114 h9.2.2)), rfl⟩)
   refine Z6 Fx.fl40_2 ?_
   refine Z5 Fx.ty38 ?_
   refine Z13 ?_
   refine SeqK.on (q_index _ rfl Fx.sl38 rfl rfl (by omega) (idx_map (f := rfT) hj)) rfl rfl rfl rfl rfl ?_
   refine SeqK.on (q_fieldP _ rfl Fx.fl114_2 rfl rfl) rfl rfl rfl rfl rfl ?_
   refine SeqK.on (q_load (.a _) rfl Fx.ty25 rfl rfl rfl) rfl rfl rfl rfl rfl ?_
   refine SeqK.on (q_call _ rfl Fx.fn28 rfl (few_any 0 l[i].fks[j].tgt .un (by have := hk.fksl _ (List.getElem_mem hj); omega)) rfl) rfl rfl rfl rfl rfl ?_
   refine SeqK.on (q_not rfl rfl) rfl rfl rfl rfl rfl ?_
   refine Z7 ?_
   refine Z3 ?_
   refine AW.cond _ rfl (fun h114 => ?_) (fun h114 => ?_)
   ·
    refine sR (sB ?_)
    refine AW.ret ?_
    exact f1 (q := ⟨bCe (dF (fun h => by have h9 := (h.1 i hi).2.2.2.1 j hj; first | omega | exact nd_t g105 h9.2.1 | exact nd_t h114 h9.2.2)), rfl⟩)
   refine AW.skip (AW.reg (sM ?_))
   refine Z2 ?_
   refine sB ?_
   exact ⟨j + 1, _, by exact Wk.keep 132 _ _ _ rfl ⟨rfl, rfl, rfl, rfl, rfl, trivial⟩ ⟨rfl, trivial⟩ (fun _ _ h => h) rfl, by omega, ⟨hj, upS hj hU3 (⟨by omega, nd_f g105, nd_f h114⟩)⟩, rfl⟩
  refine AW.exit ?_
  refine eth_e ?_
  refine eth_e ?_
  refine exit_here ?_
  refine AW.seq ?_
  have hC := upE hU3 (by rw [List.length_map] at h84; omega)
  refine AW.reg (sB ?_)
  refine AW.block ?_
  refine AW.loop (fun (j : Nat) s => (j ≤ l[i].chks.length ∧ ∀ k (h : k < l[i].chks.length), k < j → finB 4 l[i].chks[k] = true) ∧ s = ⟨132, sp [(0, .c (.a (.t (.sl z 22 (l.map dfT))))), (2, .c (bC false)), (3, iX .i64 ((i : Nat) : Int)), (4, .lp 4 0), (8, iX .i64 ((j : Nat) : Int))], lv [(4, .box (zCr l[i]))], H⟩) (fun j => l[i].chks.length - j) 0 ⟨_, Wk.keep 132 [(0, .c (.a (.t (.sl z 22 (l.map dfT))))), (2, .c (bC false)), (3, iX .i64 ((i : Nat) : Int)), (4, .lp 4 0), (8, iX .i64 ((((0 : Nat)) : Nat) : Int))] [(4, .box (zCr l[i]))] (H) rfl ⟨rfl, rfl, rfl, rfl, rfl, trivial⟩ ⟨rfl, trivial⟩ (fun _ _ h => h) rfl, ⟨Nat.zero_le _, up0⟩, rfl⟩ (fun j s hs => ?_)
  obtain ⟨⟨hj0, hU4⟩, rfl⟩ := hs
  refine AW.seq (sR (sM ?_))
  refine Z1 Fx.fl40_3 ?_
  refine Z0 Fx.ty28 ?_
  refine Z14 Fx.un28 ?_
  refine Z10 ?_
  refine Z3 ?_
  refine AW.condD rfl ?_ ?_ <;> intro h119
  ·
   have hj : j < l[i].chks.length := by rw [List.length_map] at h119; omega
   refine AW.skip (AW.seq (AW.block (sR (Z1 Fx.fl40_3 ?_))))
   refine Z0 Fx.ty28 ?_
   refine sM ?_
   refine Z9 Fx.sl28 (idx_ex hj) ?_
   refine Z11 (.g [_, _, _, _, _, _, _, _]) Fx.ty30 ?_
   refine SeqK.q (q_call _ rfl Fx.fn49 rfl (fine_any 4 _ (by omega) (hk.chkso _ (List.getElem_mem hj))) rfl) rfl rfl rfl ?_
   refine Z33 ?_
   refine Z3 ?_
   refine AW.cond _ rfl (fun h128 => ?_) (fun h128 => ?_)
   ·
    refine sR (sB ?_)
    refine AW.ret ?_
    exact f1 (q := ⟨bCe (dF (fun h => by have h9 := (h.1 i hi).2.2.2.2 j hj; rw [h9] at h128; cases h128)), rfl⟩)
   refine AW.skip (AW.reg (sM ?_))
   refine Z2 ?_
   refine sB ?_
   exact ⟨j + 1, _, by exact Wk.keep 132 _ _ _ rfl ⟨rfl, rfl, rfl, rfl, rfl, trivial⟩ ⟨rfl, trivial⟩ (fun _ _ h => h) rfl, by omega, ⟨hj, upS hj hU4 (by simpa using h128)⟩, rfl⟩
  refine AW.exit ?_
  refine eth_e ?_
  refine eth_e ?_
  refine exit_here ?_
  have hE := upE hU4 (by rw [List.length_map] at h119; omega)
  refine AW.reg (sM ?_)
  refine Z2 ?_
  refine sB ?_
  exact ⟨i + 1, _, by exact Wk.keep 132 _ _ _ rfl ⟨rfl, rfl, rfl, trivial⟩ trivial (fun _ _ h => h) rfl, by omega, ⟨hi, upS hi hU (⟨hF, hA, hB, hC, hE⟩)⟩, rfl⟩
 refine AW.exit ?_
 refine eth_e ?_
 refine eth_e ?_
 refine exit_here ?_
 refine AW.seq ?_
 have hW := upE hU (by rw [List.length_map] at h12; omega)
 refine AW.reg (sM ?_)
 refine Z14 Fx.un85 ?_
 refine SeqK.q (q_leq rfl rfl rfl) rfl rfl rfl ?_
 refine sB ?_
 refine AW.ret ?_
 exact f1 (q := ⟨bCe (dI ⟨fun h => ⟨hW, by rw [List.length_map] at h; omega⟩, fun h => by have := h.2; rw [List.length_map]; omega⟩), rfl⟩)

abbrev vrOf (c : Co) : Vr := ⟨c.ty, c.lo, c.hi, c.mx, !c.nn⟩

set_option maxRecDepth 20000 in
theorem variables_any (t : Tb) (hc : t.cols.length ≤ 1000000) : Pure Tryz.prog 13 [tbC t] (.c (vsC .un (t.cols.map vrOf))) := by
 intro H
 refine Spec.enter Tryz.func13 rfl ?_
 refine AW.wk (Wk.keep 34 [(0, .c (tbC t))] [] (H) rfl ⟨rfl, trivial⟩ trivial (fun _ _ h => h) rfl) ?_
 refine sR (Z16 (r := [_, _, _, _, _]) ?_)
 refine sB ?_
 refine sR (sB ?_)
 refine AW.seq (sR (sB ?_))
 refine AW.block ?_
 refine AW.tip 3 95 5 rfl (fun k0 hk0 => ?_)
 refine AW.loop (fun (i : Nat) s => ∃ (kt : Nat) (zs : List (List E.T)), (i ≤ t.cols.length ∧ H kt = none ∧ zs = ((t.cols.take i).map vrOf).map vrT) ∧ s = ⟨34, sp [(1, .lp 1 0), (3, .c (.a (.ts kt .ne 5 zs))), (4, iX .i64 ((i : Nat) : Int))], lv [(1, .box (zTb t))], upd H kt (some (.tip 95 5 zs.length))⟩) (fun i => t.cols.length - i) 0 ⟨_, by exact Wk.keep 34 _ _ _ rfl ⟨rfl, rfl, rfl, trivial⟩ ⟨rfl, trivial⟩ (fun _ _ h => h) rfl, k0, [], ⟨Nat.zero_le _, hk0, rfl⟩, rfl⟩ (fun i s hs => ?_)
 obtain ⟨kt, zs, ⟨hi0, hkt, hzs⟩, rfl⟩ := hs
 refine AW.seq (sR (sM ?_))
 refine Z1 Fx.fl64_1 ?_
 refine Z0 Fx.ty36 ?_
 refine Z14 Fx.un36 ?_
 refine Z10 ?_
 refine Z3 ?_
 refine AW.condD rfl ?_ ?_ <;> intro h10
 ·
  have hi : i < t.cols.length := by rw [List.length_map] at h10; omega
  refine AW.skip (AW.seq (AW.block (sR (Z1 Fx.fl64_1 ?_))))
  refine Z0 Fx.ty36 ?_
  refine sM ?_
  refine Z9 Fx.sl36 (idx_map (f := coT) hi) ?_
  refine Z11 (.g [_, _, _, _, _, _]) Fx.ty82 ?_
  refine Z25 (r := [_, _, _, _, _, _]) Fx.ze82 ?_
  refine Z15 (r := [_, _, _, _, _, _]) Fx.ty82 ?_
  refine Z3 (AW.reg (sM ?_))
  refine Z1 Fx.fl82_1 ?_
  refine Z0 Fx.ty3 ?_
  refine Z1 Fx.fl82_2 ?_
  refine Z0 Fx.ty2 ?_
  refine Z1 Fx.fl82_3 ?_
  refine Z0 Fx.ty2 ?_
  refine Z1 Fx.fl82_4 ?_
  refine Z0 Fx.ty3 ?_
  refine Z1 Fx.fl82_5 ?_
  refine Z0 Fx.ty4 ?_
  refine Z33 ?_
  refine Z34 (zs := [_, _, _, _, _]) (r := [_, _, _, _, _]) [(0, 1), (1, 1), (2, 1), (3, 1), (4, 1)] Fx.ze95 Fx.bp95 ?_
  refine Z38 Fx.el48 ?_
  refine SeqK.app1 rfl (hkt) rfl Fx.el48 rfl rfl (by simp [hzs]; omega) rfl rfl (fun k32 hk32 => ?_)
  refine sB ?_
  refine AW.reg (sM ?_)
  refine Z2 ?_
  refine sB ?_
  exact ⟨i + 1, _, by exact Wk.keep 34 _ _ _ rfl ⟨rfl, rfl, rfl, trivial⟩ ⟨rfl, trivial⟩ (fun _ _ h => h) rfl, by omega, k32, zs ++ [vrT (vrOf t.cols[i])], ⟨hi, hk32, by rw [hzs, take_put hi, List.map_append, List.map_append]; rfl⟩, rfl⟩
 refine AW.exit ?_
 refine eth_e ?_
 refine eth_e ?_
 refine exit_here ?_
 refine AW.seq ?_
 obtain rfl : i = t.cols.length := by rw [List.length_map] at h10; omega
 rw [List.take_length] at hzs
 refine AW.xw 3 rfl (XW.ts.trans (XW.es hzs)) ?_
 refine AW.reg (sM ?_)
 refine sB ?_
 refine AW.ret ?_
 exact fin_x (x := .c _) (H) (.tmp rfl .nil) rfl ((fun j o h => upd_sub hkt j o h)) (⟨rfl, rfl⟩)

end Go.Proofs.YtihlgigaejhilaaGreatDoor.W
namespace Go.Proofs.YtihlgigaejhilaaGreatDoor.W
open Go.RowKit E
theorem few_nil (n : Int) : Pure Tryz.prog 28 [iC n, .a (.t (.v (.slice none 0 0)))] (.c (bC (decide (fewP n [])))) := Pure.arg (l := [iC n]) (r := []) (XW.nilU (sz := 1)) (few_any n [] .un (by simp))
abbrev ssD (t : Tb) : Prop := (t.keys.length ≤ 10 ∧ t.fks.length ≤ 10 ∧ smlP [⟨0, t.nm, t.cols, [], [], t.chks⟩]) ∧ (∀ j (h : j < t.keys.length), fewP (t.keys[j].length : Int) []) ∧ ∀ j (h : j < t.fks.length), fewP (t.fks[j].cols.length : Int) []
abbrev ssP (s : List Tb) : Prop := (∀ j (h : j < s.length), ssD s[j]) ∧ s.length ≤ 12
structure okT (t : Tb) : Prop where
  nm : t.nm.size ≤ 1000000000000000
  cols : t.cols.length ≤ 17592186044000
  colsn : ∀ c ∈ t.cols, c.nm.size ≤ 1000000000000000
  keys : t.keys.length ≤ 17592186044000
  keysl : ∀ k ∈ t.keys, k.length ≤ 17592186044000
  fks : t.fks.length ≤ 17592186044000
  fksl : ∀ f ∈ t.fks, f.cols.length ≤ 17592186044000
  chks : t.chks.length ≤ 17592186044000
  chkso : ∀ e ∈ t.chks, okE e
theorem okD_of {t : Tb} (h : okT t) : ∀ d ∈ [(⟨0, t.nm, t.cols, [], [], t.chks⟩ : Df)], okD d := fun d hd => by
  rw [List.mem_singleton.1 hd]
  exact ⟨h.nm, h.cols, h.colsn, by simp, by simp, by simp, by simp, by simp, by simp, h.chks, h.chkso⟩

set_option maxHeartbeats 8000000 in
set_option maxRecDepth 20000 in
theorem smallSchema_any (d : List Tb) (z : Nz) (hl : d.length ≤ 17592186044000) (hok : ∀ t ∈ d, okT t) : Pure Tryz.prog 10 [scC z d] (.c (bC (decide (ssP d)))) := by
 intro H
 refine Spec.enter Tryz.func10 rfl ?_
 refine AW.wk (Wk.keep 74 [(0, .c (scC z d))] [] (H) rfl ⟨rfl, trivial⟩ trivial (fun _ _ h => h) rfl) ?_
 refine sR (sB ?_)
 refine AW.seq (sR (sB ?_))
 refine AW.block ?_
 refine AW.loop (fun (i : Nat) s => (i ≤ d.length ∧ ∀ j (h : j < d.length), j < i → ssD d[j]) ∧ s = ⟨74, sp [(0, .c (scC z d)), (2, .c (bC false)), (3, iX .i64 ((i : Nat) : Int))], lv [], H⟩) (fun i => d.length - i) 0 ⟨_, by exact Wk.keep 74 _ _ _ rfl ⟨rfl, rfl, rfl, trivial⟩ trivial (fun _ _ h => h) rfl, ⟨Nat.zero_le _, up0⟩, rfl⟩ (fun i s hs => ?_)
 obtain ⟨⟨hi0, hU⟩, rfl⟩ := hs
 refine AW.seq (sR (sM ?_))
 refine sM ?_
 refine Z14 Fx.un23 ?_
 refine Z10 ?_
 refine Z3 ?_
 refine AW.condD rfl ?_ ?_ <;> intro h10
 ·
  have hi : i < d.length := by rw [List.length_map] at h10; omega
  have hk := hok _ (List.getElem_mem hi)
  refine AW.skip (AW.seq (AW.block (sR (sM ?_))))
  refine sM ?_
  refine Z9 Fx.sl23 (idx_map (f := tbT) hi) ?_
  refine Z11 (.g [_, _, _, _, _]) Fx.ty64 ?_
  refine Z25 (r := [_, _, _, _, _]) Fx.ze64 ?_
  refine Z15 (r := [_, _, _, _, _]) Fx.ty64 ?_
  refine Z3 (AW.seq (sR (Z1 Fx.fl64_2 ?_)))
  refine Z0 Fx.ty61 ?_
  refine Z14 Fx.un61 ?_
  refine SeqK.q (q_gtr rfl rfl rfl) rfl rfl rfl ?_
  refine Z19 (fun g21 => ?_) (fun g21 => ?_)
  ·
   iterate 4 refine SeqK.off rfl rfl rfl rfl rfl rfl ?_
   refine Z4 ?_
   refine sM ?_
   iterate 11 refine SeqK.off rfl rfl rfl rfl rfl rfl ?_
   refine Z4 ?_
   refine Z3 (AW.condT rfl ?_)
   refine sR (sB ?_)
   refine AW.ret ?_
   exact f1 (q := ⟨bCe (dF (fun h => by have h9 := (h.1 i hi).1; first | exact nd_t h39 h9.2.2 | (simp only [List.length_map] at *; omega))), rfl⟩)
  refine Z6 Fx.fl64_3 ?_
  refine Z5 Fx.ty62 ?_
  refine Z28 Fx.un62 ?_
  refine Z35 ?_
  refine Z7 ?_
  refine Z19 (fun g27 => ?_) (fun g27 => ?_)
  ·
   iterate 11 refine SeqK.off rfl rfl rfl rfl rfl rfl ?_
   refine Z4 ?_
   refine Z3 (AW.condT rfl ?_)
   refine sR (sB ?_)
   refine AW.ret ?_
   exact f1 (q := ⟨bCe (dF (fun h => by have h9 := (h.1 i hi).1; first | exact nd_t h39 h9.2.2 | (simp only [List.length_map] at *; omega))), rfl⟩)
  refine Z6 Fx.fl64_0 ?_
  refine Z5 Fx.ty9 ?_
  refine Z6 Fx.fl64_1 ?_
  refine Z5 Fx.ty36 ?_
  refine Z6 Fx.fl64_4 ?_
  refine Z5 Fx.ty28 ?_
  refine SeqK.on (q_build2 (zs := [_, _, _, _]) (r := [_, _, _, _]) [(0, 1), (1, 1), (2, 1), (3, 1)] _ rfl Fx.ze40 rfl Fx.bp40 rfl rfl rfl rfl) rfl rfl rfl rfl rfl ?_
  refine SeqK.xw 34 rfl (XW.g (.cons XW.reA (.cons (XW.nilU (sz := 1)) (.cons (XW.nilU (sz := 3)) (.cons XW.reA .nil))))) ?_
  refine SeqK.on (q_build2 (zs := [_, _, _, _, _, _, _, _, _, _, _, _, _, _, _, _, _, _, _, _, _, _]) (r := [_, _, _, _, _, _, _, _, _, _, _, _, _, _, _, _, _, _, _, _, _, _]) [(0, 1), (1, 1), (2, 4), (6, 1), (7, 1), (8, 1), (9, 1), (10, 8), (18, 1), (19, 1), (20, 1), (21, 1)] _ rfl Fx.ze47 rfl Fx.bp47 rfl rfl rfl rfl) rfl rfl rfl rfl rfl ?_
  refine SeqK.on (q_buildSlice _ rfl Fx.el85 rfl (by decide) rfl) rfl rfl rfl rfl rfl ?_
  refine SeqK.on (q_call _ rfl Fx.fn27 rfl (small_any [⟨0, d[i].nm, d[i].cols, [], [], d[i].chks⟩] .nn (by simp) (okD_of hk)) rfl) rfl rfl rfl rfl rfl ?_
  refine SeqK.on (q_not rfl rfl) rfl rfl rfl rfl rfl ?_
  refine Z7 ?_
  refine Z3 ?_
  refine AW.cond _ rfl (fun h39 => ?_) (fun h39 => ?_)
  ·
   refine sR (sB ?_)
   refine AW.ret ?_
   exact f1 (q := ⟨bCe (dF (fun h => by have h9 := (h.1 i hi).1; first | exact nd_t h39 h9.2.2 | (simp only [List.length_map] at *; omega))), rfl⟩)
  refine AW.skip (AW.seq (AW.seq ?_))
  have hF : d[i].keys.length ≤ 10 ∧ d[i].fks.length ≤ 10 := by simp only [List.length_map] at *; omega
  have hS := nd_f h39
  refine AW.reg (sB ?_)
  refine AW.block ?_
  refine AW.loop (fun (j : Nat) s => (j ≤ d[i].keys.length ∧ ∀ k (h : k < d[i].keys.length), k < j → fewP (d[i].keys[k].length : Int) []) ∧ s = ⟨74, sp [(0, .c (scC z d)), (2, .c (bC false)), (3, iX .i64 ((i : Nat) : Int)), (4, .lp 4 0), (5, iX .i64 ((j : Nat) : Int))], lv [(4, .box (zTb d[i]))], H⟩) (fun j => d[i].keys.length - j) 0 ⟨_, Wk.keep 74 [(0, .c (scC z d)), (2, .c (bC false)), (3, iX .i64 ((i : Nat) : Int)), (4, .lp 4 0), (5, iX .i64 ((((0 : Nat)) : Nat) : Int))] [(4, .box (zTb d[i]))] (H) rfl ⟨rfl, rfl, rfl, rfl, rfl, trivial⟩ ⟨rfl, trivial⟩ (fun _ _ h => h) rfl, ⟨Nat.zero_le _, up0⟩, rfl⟩ (fun j s hs => ?_)
  obtain ⟨⟨hj0, hU1⟩, rfl⟩ := hs
  refine AW.seq (sR (sM ?_))
  refine Z1 Fx.fl64_2 ?_
  refine Z0 Fx.ty61 ?_
  refine Z14 Fx.un61 ?_
  refine Z10 ?_
  refine Z3 ?_
  refine AW.condD rfl ?_ ?_ <;> intro h44
  ·
   have hj : j < d[i].keys.length := by rw [List.length_map] at h44; omega
   refine AW.skip (AW.seq (AW.block (sR (Z1 Fx.fl64_2 ?_))))
   refine Z0 Fx.ty61 ?_
   refine sM ?_
   refine Z9 Fx.sl61 (idx_map (f := iLT) hj) ?_
   refine Z11 (.a _) Fx.ty24 ?_
   refine Z14 Fx.un24 ?_
   refine Z22 Fx.fn28 (few_nil _) ?_
   refine Z33 ?_
   refine Z3 ?_
   refine AW.cond _ rfl (fun h54 => ?_) (fun h54 => ?_)
   ·
    refine sR (sB ?_)
    refine AW.ret ?_
    exact f1 (q := ⟨bCe (dF (fun h => nd_t h54 (by have h9 := (h.1 i hi).2.1 j hj; rw [List.length_map]; exact h9))), rfl⟩)
   refine AW.skip (AW.reg (sM ?_))
   refine Z2 ?_
   refine sB ?_
   exact ⟨j + 1, _, by exact Wk.keep 74 _ _ _ rfl ⟨rfl, rfl, rfl, rfl, rfl, trivial⟩ ⟨rfl, trivial⟩ (fun _ _ h => h) rfl, by omega, ⟨hj, upS hj hU1 (by have h9 := nd_f h54; rw [List.length_map] at h9; exact h9)⟩, rfl⟩
  refine AW.exit ?_
  refine eth_e ?_
  refine eth_e ?_
  refine exit_here ?_
  refine AW.seq ?_
  have hA := upE hU1 (by rw [List.length_map] at h44; omega)
  refine AW.reg (sB ?_)
  refine AW.block ?_
  refine AW.loop (fun (j : Nat) s => (j ≤ d[i].fks.length ∧ ∀ k (h : k < d[i].fks.length), k < j → fewP (d[i].fks[k].cols.length : Int) []) ∧ s = ⟨74, sp [(0, .c (scC z d)), (2, .c (bC false)), (3, iX .i64 ((i : Nat) : Int)), (4, .lp 4 0), (6, iX .i64 ((j : Nat) : Int))], lv [(4, .box (zTb d[i]))], H⟩) (fun j => d[i].fks.length - j) 0 ⟨_, Wk.keep 74 [(0, .c (scC z d)), (2, .c (bC false)), (3, iX .i64 ((i : Nat) : Int)), (4, .lp 4 0), (6, iX .i64 ((((0 : Nat)) : Nat) : Int))] [(4, .box (zTb d[i]))] (H) rfl ⟨rfl, rfl, rfl, rfl, rfl, trivial⟩ ⟨rfl, trivial⟩ (fun _ _ h => h) rfl, ⟨Nat.zero_le _, up0⟩, rfl⟩ (fun j s hs => ?_)
  obtain ⟨⟨hj0, hU2⟩, rfl⟩ := hs
  refine AW.seq (sR (sM ?_))
  refine Z1 Fx.fl64_3 ?_
  refine Z0 Fx.ty62 ?_
  refine Z14 Fx.un62 ?_
  refine Z10 ?_
  refine Z3 ?_
  refine AW.condD rfl ?_ ?_ <;> intro h59
  ·
   have hj : j < d[i].fks.length := by rw [List.length_map] at h59; omega
   refine AW.skip (AW.seq (AW.block (sR (Z1 Fx.fl64_3 ?_))))
   refine Z0 Fx.ty62 ?_
   refine sM ?_
   refine Z9 Fx.sl62 (idx_map (f := fkT) hj) ?_
   refine SeqK.q (q_fieldP _ rfl Fx.fl88_0 rfl rfl) rfl rfl rfl ?_
   refine Z11 (.a _) Fx.ty24 ?_
   refine Z14 Fx.un24 ?_
   refine Z22 Fx.fn28 (few_nil _) ?_
   refine Z33 ?_
   refine Z3 ?_
   refine AW.cond _ rfl (fun h70 => ?_) (fun h70 => ?_)
   ·
    refine sR (sB ?_)
    refine AW.ret ?_
    exact f1 (q := ⟨bCe (dF (fun h => nd_t h70 (by have h9 := (h.1 i hi).2.2 j hj; rw [List.length_map]; exact h9))), rfl⟩)
   refine AW.skip (AW.reg (sM ?_))
   refine Z2 ?_
   refine sB ?_
   exact ⟨j + 1, _, by exact Wk.keep 74 _ _ _ rfl ⟨rfl, rfl, rfl, rfl, rfl, trivial⟩ ⟨rfl, trivial⟩ (fun _ _ h => h) rfl, by omega, ⟨hj, upS hj hU2 (by have h9 := nd_f h70; rw [List.length_map] at h9; exact h9)⟩, rfl⟩
  refine AW.exit ?_
  refine eth_e ?_
  refine eth_e ?_
  refine exit_here ?_
  have hB := upE hU2 (by rw [List.length_map] at h59; omega)
  refine AW.reg (sM ?_)
  refine Z2 ?_
  refine sB ?_
  exact ⟨i + 1, _, by exact Wk.keep 74 _ _ _ rfl ⟨rfl, rfl, rfl, trivial⟩ trivial (fun _ _ h => h) rfl, by omega, ⟨hi, upS hi hU (⟨⟨hF.1, hF.2, hS⟩, hA, hB⟩)⟩, rfl⟩
 refine AW.exit ?_
 refine eth_e ?_
 refine eth_e ?_
 refine exit_here ?_
 refine AW.seq ?_
 have hW := upE hU (by rw [List.length_map] at h10; omega)
 refine AW.reg (sM ?_)
 refine Z14 Fx.un23 ?_
 refine SeqK.q (q_leq rfl rfl rfl) rfl rfl rfl ?_
 refine sB ?_
 refine AW.ret ?_
 exact f1 (q := ⟨bCe (dI ⟨fun h => ⟨hW, by rw [List.length_map] at h; omega⟩, fun h => by have := h.2; rw [List.length_map]; omega⟩), rfl⟩)

end Go.Proofs.YtihlgigaejhilaaGreatDoor.W
namespace Go.Proofs.YtihlgigaejhilaaGreatDoor.W
open Go.RowKit E
abbrev dfX (d : Df) : C := .g [.t (.v (.int .i64 d.k)), .t (.v (.string d.nm)), .t (.sl .un 6 (d.cols.map coT)), .t (.sl .un 1 (d.keys.map sLT)), .t (.sl .un 3 (d.fks.map rfT)), .t (.sl .un 8 (d.chks.map exT')), .t (.v (.slice none 0 0)), .t (.v (.slice none 0 0)), .t (.v (.slice none 0 0)), .t (.v (.slice none 0 0)), .t (.v (.int .i64 0)), .t (.v (.string ⟨#[]⟩)), .t (.v (.string ⟨#[]⟩)), .t (.v (.int .i64 0)), .t (.v (.int .i64 0)), .t (.v (.int .i64 0)), .t (.v (.string ⟨#[]⟩)), .t (.v (.slice none 0 0)), .t (.v (.slice none 0 0)), .t (.v (.slice none 0 0)), .t (.v (.int .i64 0)), .t (.v (.string ⟨#[]⟩))]
abbrev gdP (d : Df) : Prop := (nmeP d.nm ∧ d.cols.length ≠ 0) ∧ (∀ j (h : j < d.cols.length), colP d.cols[j]) ∧ (∀ j (h : j < d.keys.length), d.keys[j].length ≠ 0) ∧ ∀ j (h : j < d.fks.length), d.fks[j].cols.length ≠ 0 ∧ d.fks[j].cols.length = d.fks[j].tgt.length
abbrev nwP (s : List Tb) (d : Df) : Prop := (fstI Tb.nm d.nm s).isSome = false ∧ ndP (d.cols.map Co.nm) ∧ (∀ j (h : j < d.keys.length), ndP d.keys[j] ∧ ∀ k (hk : k < j), d.keys[j] ≠ d.keys[k]'(by omega)) ∧ ∀ j (h : j < d.fks.length), ndP d.fks[j].cols

abbrev zDf (x : Df) : List A := [.t (.v (.int .i64 x.k)), .t (.v (.string x.nm)), .t (.sl .un 6 (x.cols.map coT)), .t (.sl .un 1 (x.keys.map sLT)), .t (.sl .un 3 (x.fks.map rfT)), .t (.sl .un 8 (x.chks.map exT')), .t (.v (.slice none 0 0)), .t (.v (.slice none 0 0)), .t (.v (.slice none 0 0)), .t (.v (.slice none 0 0)), .t (.v (.int .i64 0)), .t (.v (.string ⟨#[]⟩)), .t (.v (.string ⟨#[]⟩)), .t (.v (.int .i64 0)), .t (.v (.int .i64 0)), .t (.v (.int .i64 0)), .t (.v (.string ⟨#[]⟩)), .t (.v (.slice none 0 0)), .t (.v (.slice none 0 0)), .t (.v (.slice none 0 0)), .t (.v (.int .i64 0)), .t (.v (.string ⟨#[]⟩))]
set_option maxHeartbeats 8000000 in
set_option maxRecDepth 20000 in
theorem invalid_any (d : Df) (hk : okD d) : Pure Tryz.prog 51 [dfX d] (.c (bC (decide (¬ gdP d)))) := by
 intro H
 refine Spec.enter Tryz.func51 rfl ?_
 refine AW.wk (Wk.keep 79 [(0, .c (dfX d))] [] (H) rfl ⟨rfl, trivial⟩ trivial (fun _ _ h => h) rfl) ?_
 refine sR (Z16 (r := [_, _, _, _, _, _, _, _, _, _, _, _, _, _, _, _, _, _, _, _, _, _]) ?_)
 refine sB ?_
 refine AW.seq ?_
 have k2 := hk.cols
 have k3 := hk.keys
 have k4 := hk.fks
 refine AW.reg (Z1 Fx.fl47_2 ?_)
 refine Z12 (r := .g [_, _, _, _]) Fx.ty40 ?_
 refine Z25 (r := [_, _, _, _]) Fx.ze40 ?_
 refine Z15 (r := [_, _, _, _]) Fx.ty40 ?_
 refine Z3 (AW.seq (sR (Z1 Fx.fl47_1 ?_)))
 refine Z0 Fx.ty9 ?_
 refine Z22 Fx.fn81 (name_any d.nm hk.nm) ?_
 refine Z33 ?_
 refine SeqK.qB (q_mvC rfl rfl) rfl rfl rfl (fun g13 => ?_) (fun g13 => ?_)
 ·
  iterate 4 refine SeqK.off rfl rfl rfl rfl rfl rfl ?_
  refine Z4 ?_
  refine Z3 (AW.condT rfl ?_)
  refine sR (sB ?_)
  refine AW.ret ?_
  exact f1 (q := ⟨bCe (dT (fun h => by first | exact nd_t g13 h.1.1 | (have := h.1.2; rw [List.length_map] at h18; omega))), rfl⟩)
 refine Z6 Fx.fl40_0 ?_
 refine Z5 Fx.ty36 ?_
 refine Z28 Fx.un36 ?_
 refine Z44 ?_
 refine Z7 ?_
 refine Z3 ?_
 refine AW.condD rfl ?_ ?_ <;> intro h18
 ·
  refine sR (sB ?_)
  refine AW.ret ?_
  exact f1 (q := ⟨bCe (dT (fun h => by first | exact nd_t g13 h.1.1 | (have := h.1.2; rw [List.length_map] at h18; omega))), rfl⟩)
 refine AW.skip (AW.seq (AW.seq ?_))
 have hN := nd_f g13
 have hN2 : d.cols.length ≠ 0 := by rw [List.length_map] at h18; omega
 refine AW.reg (sB ?_)
 refine AW.block ?_
 refine AW.loop (fun (j : Nat) s => (j ≤ d.cols.length ∧ ∀ k (h : k < d.cols.length), k < j → colP d.cols[k]) ∧ s = ⟨79, sp [(1, .lp 1 0), (2, .c (bC false)), (3, .lp 3 0), (4, iX .i64 ((j : Nat) : Int))], lv [(1, .box (zDf d)), (3, .box (zCr d))], H⟩) (fun j => d.cols.length - j) 0 ⟨_, by exact Wk.keep 79 _ _ _ rfl ⟨rfl, rfl, rfl, rfl, trivial⟩ ⟨rfl, rfl, trivial⟩ (fun _ _ h => h) rfl, ⟨Nat.zero_le _, up0⟩, rfl⟩ (fun j s hs => ?_)
 obtain ⟨⟨hj0, hU1⟩, rfl⟩ := hs
 refine AW.seq (sR (sM ?_))
 refine Z1 Fx.fl40_0 ?_
 refine Z0 Fx.ty36 ?_
 refine Z14 Fx.un36 ?_
 refine Z10 ?_
 refine Z3 ?_
 refine AW.condD rfl ?_ ?_ <;> intro h23
 ·
  have hj : j < d.cols.length := by rw [List.length_map] at h23; omega
  refine AW.skip (AW.seq (AW.block (sR (Z1 Fx.fl40_0 ?_))))
  refine Z0 Fx.ty36 ?_
  refine sM ?_
  refine Z9 Fx.sl36 (idx_map (f := coT) hj) ?_
  refine Z11 (.g [_, _, _, _, _, _]) Fx.ty82 ?_
  refine Z22 Fx.fn82 (column_any _ (hk.colsn _ (List.getElem_mem hj))) ?_
  refine Z33 ?_
  refine Z3 ?_
  refine AW.cond _ rfl (fun h32 => ?_) (fun h32 => ?_)
  ·
   refine sR (sB ?_)
   refine AW.ret ?_
   exact f1 (q := ⟨bCe (dT (fun h => nd_t h32 (h.2.1 j hj))), rfl⟩)
  refine AW.skip (AW.reg (sM ?_))
  refine Z2 ?_
  refine sB ?_
  exact ⟨j + 1, _, by exact Wk.keep 79 _ _ _ rfl ⟨rfl, rfl, rfl, rfl, trivial⟩ ⟨rfl, rfl, trivial⟩ (fun _ _ h => h) rfl, by omega, ⟨hj, upS hj hU1 (nd_f h32)⟩, rfl⟩
 refine AW.exit ?_
 refine eth_e ?_
 refine eth_e ?_
 refine exit_here ?_
 refine AW.seq (AW.seq ?_)
 have hA := upE hU1 (by rw [List.length_map] at h23; omega)
 refine AW.reg (sB ?_)
 refine AW.block ?_
 refine AW.loop (fun (j : Nat) s => (j ≤ d.keys.length ∧ ∀ k (h : k < d.keys.length), k < j → d.keys[k].length ≠ 0) ∧ s = ⟨79, sp [(1, .lp 1 0), (2, .c (bC false)), (3, .lp 3 0), (5, iX .i64 ((j : Nat) : Int))], lv [(1, .box (zDf d)), (3, .box (zCr d))], H⟩) (fun j => d.keys.length - j) 0 ⟨_, by exact Wk.keep 79 _ _ _ rfl ⟨rfl, rfl, rfl, rfl, trivial⟩ ⟨rfl, rfl, trivial⟩ (fun _ _ h => h) rfl, ⟨Nat.zero_le _, up0⟩, rfl⟩ (fun j s hs => ?_)
 obtain ⟨⟨hj0, hU2⟩, rfl⟩ := hs
 refine AW.seq (sR (sM ?_))
 refine Z1 Fx.fl40_1 ?_
 refine Z0 Fx.ty37 ?_
 refine Z14 Fx.un37 ?_
 refine Z10 ?_
 refine Z3 ?_
 refine AW.condD rfl ?_ ?_ <;> intro h37
 ·
  have hj : j < d.keys.length := by rw [List.length_map] at h37; omega
  have kk := hk.keysl _ (List.getElem_mem hj)
  refine AW.skip (AW.seq (AW.block (sR (Z1 Fx.fl40_1 ?_))))
  refine Z0 Fx.ty37 ?_
  refine sM ?_
  refine Z9 Fx.sl37 (idx_map (f := sLT) hj) ?_
  refine Z11 (.a _) Fx.ty25 ?_
  refine Z14 Fx.un25 ?_
  refine Z8 ?_
  refine Z3 ?_
  refine AW.condD rfl ?_ ?_ <;> intro h46
  ·
   refine sR (sB ?_)
   refine AW.ret ?_
   exact f1 (q := ⟨bCe (dT (fun h => by have := h.2.2.1 j hj; rw [List.length_map] at h46; omega)), rfl⟩)
  refine AW.skip (AW.reg (sM ?_))
  refine Z2 ?_
  refine sB ?_
  exact ⟨j + 1, _, by exact Wk.keep 79 _ _ _ rfl ⟨rfl, rfl, rfl, rfl, trivial⟩ ⟨rfl, rfl, trivial⟩ (fun _ _ h => h) rfl, by omega, ⟨hj, upS hj hU2 (by rw [List.length_map] at h46; omega)⟩, rfl⟩
 refine AW.exit ?_
 refine eth_e ?_
 refine eth_e ?_
 refine exit_here ?_
 refine AW.seq (AW.seq ?_)
 have hB := upE hU2 (by rw [List.length_map] at h37; omega)
 refine AW.reg (sB ?_)
 refine AW.block ?_
 refine AW.loop (fun (j : Nat) s => (j ≤ d.fks.length ∧ ∀ k (h : k < d.fks.length), k < j → d.fks[k].cols.length ≠ 0 ∧ d.fks[k].cols.length = d.fks[k].tgt.length) ∧ s = ⟨79, sp [(1, .lp 1 0), (2, .c (bC false)), (3, .lp 3 0), (6, iX .i64 ((j : Nat) : Int))], lv [(1, .box (zDf d)), (3, .box (zCr d))], H⟩) (fun j => d.fks.length - j) 0 ⟨_, by exact Wk.keep 79 _ _ _ rfl ⟨rfl, rfl, rfl, rfl, trivial⟩ ⟨rfl, rfl, trivial⟩ (fun _ _ h => h) rfl, ⟨Nat.zero_le _, up0⟩, rfl⟩ (fun j s hs => ?_)
 obtain ⟨⟨hj0, hU3⟩, rfl⟩ := hs
 refine AW.seq (sR (sM ?_))
 refine Z1 Fx.fl40_2 ?_
 refine Z0 Fx.ty38 ?_
 refine Z14 Fx.un38 ?_
 refine Z10 ?_
 refine Z3 ?_
 refine AW.condD rfl ?_ ?_ <;> intro h51
 ·
  have hj : j < d.fks.length := by rw [List.length_map] at h51; omega
  have kf := hk.fksl _ (List.getElem_mem hj)
  refine AW.skip (AW.seq (AW.block (AW.seq (AW.draw Fx.mo ?_))))
  refine Z23 Fx.fl40_2 ?_
  refine Z20 Fx.ty38 ?_
  refine Z18 ?_
  refine Z27 Fx.sl38 (idx_map (f := rfT) hj) ?_
  refine LexK.q (q_fieldP _ rfl Fx.fl114_0 rfl rfl) rfl rfl rfl ?_
  refine Z26 (.a _) Fx.ty25 ?_
  refine LexK.q (q_len rfl Fx.un25 rfl) rfl rfl rfl ?_
  refine LexK.q (q_eql rfl rfl rfl) rfl rfl rfl ?_
  refine LexK.qD (q_mvC rfl rfl) rfl rfl rfl (fun g62 => ?_) (fun g62 => ?_)
  ·
   iterate 15 refine LexK.off rfl rfl rfl rfl rfl rfl ?_
   refine Z43 ?_
   refine Z30 ?_
   refine AW.condT rfl ?_
   refine sR (sB ?_)
   refine AW.ret ?_
   exact f1 (q := ⟨bCe (dT (fun h => by have := h.2.2.2 j hj; simp only [List.length_map] at *; omega)), rfl⟩)
  refine Z24 Fx.fl40_2 ?_
  refine Z21 Fx.ty38 ?_
  refine Z29 ?_
  refine Z48 Fx.sl38 (idx_map (f := rfT) hj) ?_
  refine LexK.on (q_fieldP _ rfl Fx.fl114_0 rfl rfl) rfl rfl rfl rfl rfl ?_
  refine Z39 (.a _) Fx.ty25 ?_
  refine LexK.on (q_len rfl Fx.un25 rfl) rfl rfl rfl rfl rfl ?_
  refine Z24 Fx.fl40_2 ?_
  refine Z21 Fx.ty38 ?_
  refine Z29 ?_
  refine Z48 Fx.sl38 (idx_map (f := rfT) hj) ?_
  refine LexK.on (q_fieldP _ rfl Fx.fl114_2 rfl rfl) rfl rfl rfl rfl rfl ?_
  refine Z39 (.a _) Fx.ty25 ?_
  refine LexK.on (q_len rfl Fx.un25 rfl) rfl rfl rfl rfl rfl ?_
  refine LexK.on (q_neq rfl rfl rfl) rfl rfl rfl rfl rfl ?_
  refine Z31 ?_
  refine Z30 ?_
  refine AW.condD rfl ?_ ?_ <;> intro h78
  ·
   refine sR (sB ?_)
   refine AW.ret ?_
   exact f1 (q := ⟨bCe (dT (fun h => by have := h.2.2.2 j hj; simp only [List.length_map] at *; omega)), rfl⟩)
  refine AW.skip (AW.reg (sM ?_))
  refine Z2 ?_
  refine sB ?_
  exact ⟨j + 1, _, by exact Wk.keep 79 _ _ _ rfl ⟨rfl, rfl, rfl, rfl, trivial⟩ ⟨rfl, rfl, trivial⟩ (fun _ _ h => h) rfl, by omega, ⟨hj, upS hj hU3 (by simp only [List.length_map] at *; omega)⟩, rfl⟩
 refine AW.exit ?_
 refine eth_e ?_
 refine eth_e ?_
 refine exit_here ?_
 refine AW.seq ?_
 have hC := upE hU3 (by rw [List.length_map] at h51; omega)
 refine AW.reg (sB ?_)
 refine AW.ret ?_
 exact f1 (q := ⟨bCe (dF (fun h => h ⟨⟨hN, hN2⟩, hA, hB, hC⟩)), rfl⟩)

set_option maxHeartbeats 8000000 in
set_option maxRecDepth 20000 in
theorem exists_any (d0 : List Tb) (z : Nz) (d : Df) (h0 : d0.length ≤ 17592186044000) (hk : okD d) (hcl : d.cols.length ≤ 1000000) : Pure Tryz.prog 52 [scC z d0, dfX d] (.c (bC (decide (¬ nwP d0 d)))) := by
  intro H
  refine Spec.enter Tryz.func52 rfl ?_
  refine AW.wk (Wk.keep 84 [(0, .c (scC z d0)), (1, .c (dfX d))] [] (H) rfl ⟨rfl, rfl, trivial⟩ trivial (fun _ _ h => h) rfl) ?_
  refine sR (Z16 (r := [_, _, _, _, _, _, _, _, _, _, _, _, _, _, _, _, _, _, _, _, _, _]) ?_)
  refine sB ?_
  refine AW.seq ?_
  have k2 := hk.cols
  have k3 := hk.keys
  have k4 := hk.fks
  refine AW.reg (Z1 Fx.fl47_2 ?_)
  refine Z12 (r := .g [_, _, _, _]) Fx.ty40 ?_
  refine Z25 (r := [_, _, _, _]) Fx.ze40 ?_
  refine Z15 (r := [_, _, _, _]) Fx.ty40 ?_
  refine Z3 (AW.seq (sR (sM ?_)))
  refine Z1 Fx.fl47_1 ?_
  refine Z0 Fx.ty9 ?_
  refine Z22 Fx.fn83 (find_any d0 z d.nm h0) ?_
  refine SeqK.q (q_mvT rfl rfl) rfl rfl rfl ?_
  refine Z47 ?_
  refine Z47 ?_
  refine sA ?_
  refine sB ?_
  refine sR (sM ?_)
  refine Z3 ?_
  refine AW.cond _ rfl (fun h22 => ?_) (fun h22 => ?_)
  ·
    have hf : (fstI Tb.nm d.nm d0).isSome = true := h22
    refine sR (sB ?_)
    refine AW.ret ?_
    exact f1 (q := ⟨bCe (dT (fun h => by rw [h.1] at hf; cases hf)), rfl⟩)
  ·
    have hf : (fstI Tb.nm d.nm d0).isSome = false := h22
    refine AW.skip (sR (sB ?_))
    refine AW.seq (sR (sB ?_))
    refine AW.block ?_
    refine AW.tip 8 9 1 rfl (fun k0 hk0 => ?_)
    refine AW.loop (fun (j : Nat) s => ∃ (kt : Nat) (zs : List (List E.T)), (j ≤ d.cols.length ∧ H kt = none ∧ zs = ((d.cols.take j).map Co.nm).map sT) ∧ s = ⟨84, sp [(0, .c (scC z d0)), (3, .lp 3 0), (4, .c (bC false)), (5, .lp 5 0), (8, .c (.a (.ts kt .ne 1 zs))), (9, iX .i64 ((j : Nat) : Int))], lv [(3, .box (zDf d)), (5, .box (zCr d))], upd H kt (some (.tip 9 1 zs.length))⟩) (fun j => d.cols.length - j) 0 ⟨_, by exact Wk.keep 84 _ _ _ rfl ⟨rfl, rfl, rfl, rfl, rfl, rfl, trivial⟩ ⟨rfl, rfl, trivial⟩ (fun _ _ h => h) rfl, k0, [], ⟨Nat.zero_le _, hk0, rfl⟩, rfl⟩ (fun j s hs => ?_)
    obtain ⟨kt, zs, ⟨hj0, hkt, hzs⟩, rfl⟩ := hs
    refine AW.seq (sR (sM ?_))
    refine Z1 Fx.fl40_0 ?_
    refine Z0 Fx.ty36 ?_
    refine Z14 Fx.un36 ?_
    refine Z10 ?_
    refine Z3 ?_
    refine AW.condD rfl ?_ ?_ <;> intro h27
    ·
      have hj : j < d.cols.length := by rw [List.length_map] at h27; omega
      refine AW.skip (AW.seq (AW.block (AW.reg (sM ?_))))
      refine Z1 Fx.fl40_0 ?_
      refine Z0 Fx.ty36 ?_
      refine sM ?_
      refine Z9 Fx.sl36 (idx_map (f := coT) hj) ?_
      refine SeqK.q (q_fieldP _ rfl Fx.fl82_0 rfl rfl) rfl rfl rfl ?_
      refine Z11 (.a _) Fx.ty9 ?_
      refine Z38 Fx.el25 ?_
      refine SeqK.app1 rfl (hkt) rfl Fx.el25 rfl rfl (by have := congrArg List.length hzs; rw [List.length_map, List.length_map, List.length_take, Nat.min_eq_left (by omega)] at this; simp; omega) rfl rfl (fun k38 hk38 => ?_)
      refine sB ?_
      refine AW.reg (sM ?_)
      refine Z2 ?_
      refine sB ?_
      exact ⟨j + 1, _, by exact Wk.keep 84 _ _ _ rfl ⟨rfl, rfl, rfl, rfl, rfl, rfl, trivial⟩ ⟨rfl, rfl, trivial⟩ (fun _ _ h => h) rfl, by omega, k38, zs ++ [sT d.cols[j].nm], ⟨hj, hk38, by rw [hzs, take_put hj, List.map_append, List.map_append]; rfl⟩, rfl⟩
    ·
      refine AW.exit ?_
      refine eth_e ?_
      refine eth_e ?_
      refine exit_here ?_
      refine AW.seq (AW.seq ?_)
      obtain rfl : j = d.cols.length := by rw [List.length_map] at h27; omega
      rw [List.take_length] at hzs
      refine AW.xw 8 rfl (XW.ts.trans (XW.es hzs)) ?_
      refine AW.wk (Wk.keep 84 [(0, .c (scC z d0)), (3, .lp 3 0), (4, .c (bC false)), (5, .lp 5 0), (8, .c (sL .un (d.cols.map Co.nm)))] [(3, .box (zDf d)), (5, .box (zCr d))] (H) rfl ⟨rfl, rfl, rfl, rfl, rfl, trivial⟩ ⟨rfl, rfl, trivial⟩ (fun j o h => upd_sub hkt j o h) rfl) ?_
      refine AW.reg (sM ?_)
      refine SeqK.q (q_call _ rfl Fx.fn84 rfl (twice_any _ .un (by first | (rw [List.length_map]; omega) | (have := hk.keysl _ (List.getElem_mem hj); omega) | (have := hk.fksl _ (List.getElem_mem hj); omega))) rfl) rfl rfl rfl ?_
      refine Z3 ?_
      refine AW.cond _ rfl (fun h40 => ?_) (fun h40 => ?_)
      ·
        refine sR (sB ?_)
        refine AW.ret ?_
        exact f1 (q := ⟨bCe (dT (fun h => of_decide_eq_true h40 h.2.1)), rfl⟩)
      ·
        have hnd : ndP (d.cols.map Co.nm) := Classical.not_not.1 (of_decide_eq_false h40)
        refine AW.skip (AW.seq (sR (sB ?_)))
        refine AW.block ?_
        refine AW.loop (fun (j : Nat) s => (j ≤ d.keys.length ∧ ∀ k (h : k < d.keys.length), k < j → ndP d.keys[k] ∧ ∀ m (hm : m < k), d.keys[k] ≠ d.keys[m]'(by omega)) ∧ s = ⟨84, sp [(0, .c (scC z d0)), (3, .lp 3 0), (4, .c (bC false)), (5, .lp 5 0), (10, iX .i64 ((j : Nat) : Int))], lv [(3, .box (zDf d)), (5, .box (zCr d))], H⟩) (fun j => d.keys.length - j) 0 ⟨_, by exact Wk.keep 84 _ _ _ rfl ⟨rfl, rfl, rfl, rfl, rfl, trivial⟩ ⟨rfl, rfl, trivial⟩ (fun _ _ h => h) rfl, ⟨Nat.zero_le _, up0⟩, rfl⟩ (fun j s hs => ?_)
        obtain ⟨⟨hj0, hU2⟩, rfl⟩ := hs
        refine AW.seq (sR (sM ?_))
        refine Z1 Fx.fl40_1 ?_
        refine Z0 Fx.ty37 ?_
        refine Z14 Fx.un37 ?_
        refine Z10 ?_
        refine Z3 ?_
        refine AW.condD rfl ?_ ?_ <;> intro h45
        ·
          have hj : j < d.keys.length := by rw [List.length_map] at h45; omega
          have kk := hk.keysl _ (List.getElem_mem hj)
          refine AW.skip (AW.seq (AW.block (AW.seq (sR (Z1 Fx.fl40_1 ?_)))))
          refine Z0 Fx.ty37 ?_
          refine sM ?_
          refine Z9 Fx.sl37 (idx_map (f := sLT) hj) ?_
          refine Z11 (.a _) Fx.ty25 ?_
          refine SeqK.q (q_call _ rfl Fx.fn84 rfl (twice_any _ .un (by first | (rw [List.length_map]; omega) | (have := hk.keysl _ (List.getElem_mem hj); omega) | (have := hk.fksl _ (List.getElem_mem hj); omega))) rfl) rfl rfl rfl ?_
          refine Z3 ?_
          refine AW.cond _ rfl (fun h53 => ?_) (fun h53 => ?_)
          ·
            refine sR (sB ?_)
            refine AW.ret ?_
            exact f1 (q := ⟨bCe (dT (fun h => of_decide_eq_true h53 (h.2.2.1 j hj).1)), rfl⟩)
          ·
            refine AW.skip (sR (sB ?_))
            refine AW.block ?_
            refine AW.loop (fun (m : Nat) s => (m ≤ j ∧ ∀ k (hk : k < m) (hi : k < j), d.keys[j] ≠ d.keys[k]'(by omega)) ∧ s = ⟨84, sp [(0, .c (scC z d0)), (3, .lp 3 0), (4, .c (bC false)), (5, .lp 5 0), (10, iX .i64 ((j : Nat) : Int)), (11, iX .i64 ((m : Nat) : Int))], lv [(3, .box (zDf d)), (5, .box (zCr d))], H⟩) (fun m => j - m) 0 ⟨_, by exact Wk.keep 84 _ _ _ rfl ⟨rfl, rfl, rfl, rfl, rfl, rfl, trivial⟩ ⟨rfl, rfl, trivial⟩ (fun _ _ h => h) rfl, ⟨Nat.zero_le _, fun k hk => absurd hk (Nat.not_lt_zero k)⟩, rfl⟩ (fun m s hs => ?_)
            obtain ⟨⟨hm0, hV⟩, rfl⟩ := hs
            refine AW.seq (sR (sM ?_))
            refine sM ?_
            refine Z10 ?_
            refine Z3 ?_
            refine AW.condD rfl ?_ ?_ <;> intro h56
            ·
              have hm : m < j := by omega
              have hmk : m < d.keys.length := by omega
              have km := hk.keysl _ (List.getElem_mem hmk)
              refine AW.skip (AW.seq (AW.block (AW.seq (AW.draw Fx.mo ?_))))
              refine Z23 Fx.fl40_1 ?_
              refine Z20 Fx.ty37 ?_
              refine Z18 ?_
              refine Z27 Fx.sl37 (idx_map (f := sLT) hj) ?_
              refine Z26 (.a _) Fx.ty25 ?_
              refine Z23 Fx.fl40_1 ?_
              refine Z20 Fx.ty37 ?_
              refine Z18 ?_
              refine Z27 Fx.sl37 (idx_map (f := sLT) hmk) ?_
              refine Z26 (.a _) Fx.ty25 ?_
              refine LexK.q (q_call _ rfl Fx.fn85 rfl (texts_any _ _ .un .un (by omega)) rfl) rfl rfl rfl ?_
              refine Z30 ?_
              refine AW.cond _ rfl (fun h69 => ?_) (fun h69 => ?_)
              ·
                refine sR (sB ?_)
                refine AW.ret ?_
                exact f1 (q := ⟨bCe (dT (fun h => (h.2.2.1 j hj).2 m hm (of_decide_eq_true h69))), rfl⟩)
              ·
                refine AW.skip (AW.reg (sM ?_))
                refine Z2 ?_
                refine sB ?_
                exact ⟨m + 1, _, Wk.keep 84 [(0, .c (scC z d0)), (3, .lp 3 0), (4, .c (bC false)), (5, .lp 5 0), (10, iX .i64 ((j : Nat) : Int)), (11, iX .i64 (((m + 1) : Nat) : Int))] [(3, .box (zDf d)), (5, .box (zCr d))] (H) rfl ⟨rfl, rfl, rfl, rfl, rfl, rfl, trivial⟩ ⟨rfl, rfl, trivial⟩ (fun _ _ h => h) rfl, by omega, ⟨by omega, fun k hk hki => by
                  by_cases e : k = m
                  · subst e; exact of_decide_eq_false h69
                  · exact hV k (by omega) hki⟩, rfl⟩
            ·
              refine AW.exit ?_
              refine eth_e ?_
              refine eth_e ?_
              refine exit_here ?_
              have hVV : ∀ k (hk : k < j), d.keys[j] ≠ d.keys[k]'(by omega) := fun k hk => hV k (by omega) hk
              refine AW.reg (sM ?_)
              refine Z2 ?_
              refine sB ?_
              exact ⟨j + 1, _, by exact Wk.keep 84 _ _ _ rfl ⟨rfl, rfl, rfl, rfl, rfl, trivial⟩ ⟨rfl, rfl, trivial⟩ (fun _ _ h => h) rfl, by omega, ⟨hj, upS hj hU2 (⟨Classical.not_not.1 (of_decide_eq_false h53), hVV⟩)⟩, rfl⟩
        ·
          refine AW.exit ?_
          refine eth_e ?_
          refine eth_e ?_
          refine exit_here ?_
          refine AW.seq (AW.seq ?_)
          have hA := upE hU2 (by rw [List.length_map] at h45; omega)
          refine AW.reg (sB ?_)
          refine AW.block ?_
          refine AW.loop (fun (j : Nat) s => (j ≤ d.fks.length ∧ ∀ k (h : k < d.fks.length), k < j → ndP d.fks[k].cols) ∧ s = ⟨84, sp [(0, .c (scC z d0)), (3, .lp 3 0), (4, .c (bC false)), (5, .lp 5 0), (12, iX .i64 ((j : Nat) : Int))], lv [(3, .box (zDf d)), (5, .box (zCr d))], H⟩) (fun j => d.fks.length - j) 0 ⟨_, by exact Wk.keep 84 _ _ _ rfl ⟨rfl, rfl, rfl, rfl, rfl, trivial⟩ ⟨rfl, rfl, trivial⟩ (fun _ _ h => h) rfl, ⟨Nat.zero_le _, up0⟩, rfl⟩ (fun j s hs => ?_)
          obtain ⟨⟨hj0, hU3⟩, rfl⟩ := hs
          refine AW.seq (sR (sM ?_))
          refine Z1 Fx.fl40_2 ?_
          refine Z0 Fx.ty38 ?_
          refine Z14 Fx.un38 ?_
          refine Z10 ?_
          refine Z3 ?_
          refine AW.condD rfl ?_ ?_ <;> intro h74
          ·
            have hj : j < d.fks.length := by rw [List.length_map] at h74; omega
            have kf := hk.fksl _ (List.getElem_mem hj)
            refine AW.skip (AW.seq (AW.block (sR (Z1 Fx.fl40_2 ?_))))
            refine Z0 Fx.ty38 ?_
            refine sM ?_
            refine Z9 Fx.sl38 (idx_map (f := rfT) hj) ?_
            refine SeqK.q (q_fieldP _ rfl Fx.fl114_0 rfl rfl) rfl rfl rfl ?_
            refine Z11 (.a _) Fx.ty25 ?_
            refine SeqK.q (q_call _ rfl Fx.fn84 rfl (twice_any _ .un (by first | (rw [List.length_map]; omega) | (have := hk.keysl _ (List.getElem_mem hj); omega) | (have := hk.fksl _ (List.getElem_mem hj); omega))) rfl) rfl rfl rfl ?_
            refine Z3 ?_
            refine AW.cond _ rfl (fun h83 => ?_) (fun h83 => ?_)
            ·
              refine sR (sB ?_)
              refine AW.ret ?_
              exact f1 (q := ⟨bCe (dT (fun h => of_decide_eq_true h83 (h.2.2.2 j hj))), rfl⟩)
            ·
              refine AW.skip (AW.reg (sM ?_))
              refine Z2 ?_
              refine sB ?_
              exact ⟨j + 1, _, by exact Wk.keep 84 _ _ _ rfl ⟨rfl, rfl, rfl, rfl, rfl, trivial⟩ ⟨rfl, rfl, trivial⟩ (fun _ _ h => h) rfl, by omega, ⟨hj, upS hj hU3 (Classical.not_not.1 (of_decide_eq_false h83))⟩, rfl⟩
          ·
            refine AW.exit ?_
            refine eth_e ?_
            refine eth_e ?_
            refine exit_here ?_
            refine AW.seq ?_
            have hB := upE hU3 (by rw [List.length_map] at h74; omega)
            refine AW.reg (sB ?_)
            refine AW.ret ?_
            exact f1 (q := ⟨bCe (dF (fun h => h ⟨hf, hnd, hA, hB⟩)), rfl⟩)

end Go.Proofs.YtihlgigaejhilaaGreatDoor.W
namespace Go.Proofs.YtihlgigaejhilaaGreatDoor.W
open Go.RowKit E
abbrev nbT (cs : List Co) (l : List ByteArray) : List Int := if nbP cs l then nbL cs l else []
theorem numbers_tup (t : Tb) (l : List ByteArray) (z : Nz) (hl : l.length ≤ 1000000) (hc : t.cols.length ≤ 17592186044000) : Pure Tryz.prog 86 [tbC t, sL z l] (.tup [iL .un (nbT t.cols l), bC (decide (nbP t.cols l))]) := by
  have h := numbers_any t l z hl hc
  by_cases hp : nbP t.cols l
  · rw [nbX, if_pos hp] at h
    rw [nbT, if_pos hp, decide_eq_true hp]; exact h
  · rw [nbX, if_neg hp] at h
    rw [nbT, if_neg hp, decide_eq_false hp]; exact h
theorem fstI_lt {α : Type} {f : α → ByteArray} {u : ByteArray} : ∀ {l : List α} {n : Nat}, fstI f u l = some n → n < l.length
  | [], n, h => by cases h
  | a :: l, n, h => by
    rw [fstI] at h
    split at h
    · injection h with h; subst h; simp
    · obtain ⟨m, hm, rfl⟩ := Option.map_eq_some_iff.1 h
      have := fstI_lt hm; simp only [List.length_cons]; omega
theorem nbL_in {t : Tb} {l : List ByteArray} (h : nbP t.cols l) : insP t (nbL t.cols l) := fun j hj => by
  have hj' : j < l.length := by simpa using hj
  have h1 := h j hj'
  obtain ⟨n, hn⟩ := Option.isSome_iff_exists.1 h1
  rw [show (nbL t.cols l)[j] = (((fstI Co.nm l[j] t.cols).getD 0 : Nat) : Int) from List.getElem_map _, hn]
  have := fstI_lt hn
  simp only [Option.getD_some]; omega
abbrev tb0 : Tb := ⟨⟨#[]⟩, [], [], [], []⟩
abbrev tb1 (d : Df) : Tb := ⟨d.nm, d.cols, d.keys.map (nbT d.cols), [], d.chks⟩
abbrev allS (s : List Tb) (d : Df) : List Tb := s ++ [tb1 d]
def keyU (has : Bool) (tg : List Int) (keys : List (List Int)) : Nat → Int
  | 0 => -1
  | i + 1 => if has = true ∧ keys.getD i [] = tg then (i : Int) else keyU has tg keys i
theorem keyU_has {tg : List Int} {keys : List (List Int)} : ∀ i, keyU false tg keys i = -1
  | 0 => rfl
  | i + 1 => by rw [keyU, if_neg (by simp), keyU_has i]
abbrev fTab (s : List Tb) (d : Df) (f : Rf) : Nat := (fstI Tb.nm f.tab (allS s d)).getD 0
abbrev fU (s : List Tb) (d : Df) (f : Rf) : Tb := (allS s d).getD (fTab s d f) tb0
abbrev fHas (s : List Tb) (d : Df) (f : Rf) : Bool := decide (nbP (fU s d f).cols f.tgt)
abbrev fTg (s : List Tb) (d : Df) (f : Rf) : List Int := nbT (fU s d f).cols f.tgt
abbrev fKey (s : List Tb) (d : Df) (f : Rf) : Int := keyU (fHas s d f) (fTg s d f) (fU s d f).keys (fU s d f).keys.length
abbrev fOk (s : List Tb) (d : Df) (f : Rf) : Prop := (nbP d.cols f.cols ∧ (fstI Tb.nm f.tab (allS s d)).isSome = true) ∧ 0 ≤ fKey s d f
abbrev fTy (s : List Tb) (d : Df) (f : Rf) : Prop := tysP (tb1 d) (fU s d f) (nbT d.cols f.cols) (fTg s d f)
abbrev fMk (s : List Tb) (d : Df) (f : Rf) : Fk := ⟨nbT d.cols f.cols, (fTab s d f : Int), fKey s d f⟩
abbrev tbR (s : List Tb) (d : Df) : Tb := ⟨d.nm, d.cols, d.keys.map (nbT d.cols), d.fks.map (fMk s d), d.chks⟩
abbrev tOk (s : List Tb) (d : Df) : Prop := (∀ j (h : j < d.keys.length), nbP d.cols d.keys[j]) ∧ ∀ j (h : j < d.fks.length), fOk s d d.fks[j]
abbrev tTy (s : List Tb) (d : Df) : Prop := ∀ j (h : j < d.fks.length), fTy s d d.fks[j]
/-- the table of a statement, or an error -/
abbrev tbX (s : List Tb) (d : Df) : Tb × Int := if tOk s d then (if tTy s d then (tbR s d, 0) else (tb0, 6)) else (tb0, 4)
theorem tbX_4 {s : List Tb} {d : Df} (h : ¬ tOk s d) : (tb0, (4 : Int)) = tbX s d := (if_neg h).symm
theorem tbX_6 {s : List Tb} {d : Df} (h : tOk s d) (h2 : ¬ tTy s d) : (tb0, (6 : Int)) = tbX s d := ((if_pos h).trans (if_neg h2)).symm
theorem tbX_0 {s : List Tb} {d : Df} (h : tOk s d) (h2 : tTy s d) : (tbR s d, (0 : Int)) = tbX s d := ((if_pos h).trans (if_pos h2)).symm
theorem nbT_len {cs : List Co} {l : List ByteArray} : (nbT cs l).length ≤ l.length := by
  unfold nbT; split
  · rw [List.length_map]; omega
  · simp
theorem tbe {t : Tb} {e : Int} {p : Tb × Int} (h : (t, e) = p) : X.tup [tbC t, iC e] = .tup [tbC p.1, iC p.2] := by rw [← h]
structure okS (s : List Tb) : Prop where
  len : s.length ≤ 1000
  cols : ∀ t ∈ s, t.cols.length ≤ 17592186044000
  keys : ∀ t ∈ s, t.keys.length ≤ 17592186044000
  keysl : ∀ t ∈ s, ∀ k ∈ t.keys, k.length ≤ 17592186044000

set_option maxHeartbeats 16000000 in
set_option maxRecDepth 20000 in
theorem table_any (s0 : List Tb) (z : Nz) (d : Df) (hs : okS s0) (hk : okD d) (hcl : d.cols.length ≤ 1000000) (hkl : d.keys.length ≤ 1000) (hfl : d.fks.length ≤ 1000) (hg : ∀ f ∈ d.fks, f.cols.length = f.tgt.length) : Pure Tryz.prog 53 [scC z s0, dfX d] (.tup [tbC (tbX s0 d).1, iC (tbX s0 d).2]) := by
  intro H
  refine Spec.enter Tryz.func53 rfl ?_
  refine AW.wk (Wk.keep 160 [(0, .c (scC z s0)), (1, .c (dfX d))] [] (H) rfl ⟨rfl, rfl, trivial⟩ trivial (fun _ _ h => h) rfl) ?_
  refine sR (Z16 (r := [_, _, _, _, _, _, _, _, _, _, _, _, _, _, _, _, _, _, _, _, _, _]) ?_)
  refine Z25 (r := [_, _, _, _, _]) Fx.ze64 ?_
  refine sB ?_
  refine AW.seq ?_
  have q1 := hs.len
  have q2 : (allS s0 d).length = s0.length + 1 := by simp
  refine AW.reg (Z1 Fx.fl47_1 ?_)
  refine Z0 Fx.ty9 ?_
  refine Z1 Fx.fl47_2 ?_
  refine Z1 Fx.fl40_0 ?_
  refine Z0 Fx.ty36 ?_
  refine Z1 Fx.fl47_2 ?_
  refine Z1 Fx.fl40_3 ?_
  refine Z0 Fx.ty28 ?_
  refine Z34 (zs := [_, _, _, _, _]) (r := [_, _, _, _, _]) [(0, 1), (1, 1), (2, 1), (3, 1), (4, 1)] Fx.ze64 Fx.bp64 ?_
  refine Z25 (r := [_, _, _, _, _]) Fx.ze64 ?_
  refine Z15 (r := [_, _, _, _, _]) Fx.ty64 ?_
  refine Z3 (AW.seq (sR (sB ?_)))
  refine AW.block ?_
  refine AW.tipL 6 2 24 1 rfl rfl (fun k0 hk0 => ?_)
  refine AW.loop (fun (i : Nat) s => ∃ (ka : Nat) (za : List (List E.T)), (i ≤ d.keys.length ∧ H ka = none ∧ za = ((d.keys.take i).map (nbT d.cols)).map iLT ∧ ∀ j (h : j < d.keys.length), j < i → nbP d.cols d.keys[j]) ∧ s = ⟨160, sp [(0, .c (scC z s0)), (3, .lp 3 0), (4, .lp 4 0), (6, .lp 6 0), (7, iX .i64 ((i : Nat) : Int))], lv [(3, .box (zDf d)), (4, .box [.t (.v (.string ⟨#[]⟩)), .t (.v (.slice none 0 0)), .t (.v (.slice none 0 0)), .t (.v (.slice none 0 0)), .t (.v (.slice none 0 0))]), (6, .box [.t (.v (.string d.nm)), .t (.sl .un 6 (d.cols.map coT)), .ts ka .ne 1 za, .t (.v (.slice none 0 0)), .t (.sl .un 8 (d.chks.map exT'))])], (upd H ka (some (.tip 24 1 za.length)))⟩) (fun i => d.keys.length - i) 0 ⟨_, by exact Wk.keep 160 _ _ _ rfl ⟨rfl, rfl, rfl, rfl, rfl, trivial⟩ ⟨rfl, rfl, rfl, trivial⟩ (fun _ _ h => h) rfl, k0, [], ⟨Nat.zero_le _, hk0, rfl, up0⟩, rfl⟩ (fun i s hs => ?_)
  obtain ⟨ka, za, ⟨hi0, hka, hza, hU⟩, rfl⟩ := hs
  refine AW.seq (sR (sM ?_))
  refine Z1 Fx.fl47_2 ?_
  refine Z1 Fx.fl40_1 ?_
  refine Z0 Fx.ty37 ?_
  refine Z14 Fx.un37 ?_
  refine Z10 ?_
  refine Z3 ?_
  refine AW.condD rfl ?_ ?_ <;> intro h36
  ·
    have hi : i < d.keys.length := by rw [List.length_map] at h36; omega
    refine AW.skip (AW.seq (AW.block (AW.seq (AW.draw Fx.mo ?_))))
    refine Z45 (r := .g [_, _, _, _, _]) Fx.ty64 ?_
    refine Z23 Fx.fl47_2 ?_
    refine Z23 Fx.fl40_1 ?_
    refine Z20 Fx.ty37 ?_
    refine Z18 ?_
    refine Z27 Fx.sl37 (idx_map (f := sLT) hi) ?_
    refine Z26 (.a _) Fx.ty25 ?_
    refine LexK.q (q_call _ rfl Fx.fn86 rfl (Pure.arg [] (r := [sL .un d.keys[i]]) (XW.g (.cons XW.reA (.cons XW.reA (.cons (XW.ts.trans (XW.es hza)) (.cons (XW.nilU (sz := 3)) (.cons XW.reA .nil)))))) (numbers_tup ⟨d.nm, d.cols, (d.keys.take i).map (nbT d.cols), [], d.chks⟩ d.keys[i] .un (hk.keysl _ (List.getElem_mem hi)) (by show d.cols.length ≤ _; omega))) rfl) rfl rfl rfl ?_
    refine LexK.q (q_mvT rfl rfl) rfl rfl rfl ?_
    refine LexK.q (q_extract _ rfl rfl rfl) rfl rfl rfl ?_
    refine LexK.q (q_extract _ rfl rfl rfl) rfl rfl rfl ?_
    refine Z36 ?_
    refine Z36 ?_
    refine Z30 ?_
    refine AW.seq (sR (sM ?_))
    refine Z33 ?_
    refine Z3 ?_
    refine AW.cond _ rfl (fun h51 => ?_) (fun h51 => ?_)
    ·
      have hno := nd_t h51
      refine sR (Z34 (zs := [_, _, _, _, _]) (r := [_, _, _, _, _]) [(0, 1), (1, 1), (2, 1), (3, 1), (4, 1)] Fx.ze64 Fx.bp64 ?_)
      refine Z15 (r := [_, _, _, _, _]) Fx.ty64 ?_
      refine sB ?_
      refine AW.xwL 4 rfl (.cons XW.reA (.cons (XW.nilU (sz := 6)) (.cons (XW.nilU (sz := 1)) (.cons (XW.nilU (sz := 3)) (.cons (XW.nilU (sz := 8)) .nil))))) ?_
      refine AW.ret ?_
      exact fin_x (x := .tup [_, _]) (H) (.cellL rfl rfl Fx.ty64 rfl rfl (.tmp rfl .nil)) rfl ((fun j o h => upd_sub hka j o h)) (⟨tbe (tbX_4 (fun h => hno (h.1 i hi))), rfl⟩)
    ·
      have hyes := nd_f h51
      refine AW.skip (AW.reg (Z1 Fx.fl64_2 ?_))
      refine Z0 Fx.ty61 ?_
      refine sM ?_
      refine Z38 Fx.el61 ?_
      refine SeqK.app1 rfl (hka) rfl Fx.el61 rfl rfl (by simp [hza]; omega) rfl rfl (fun k57 hk57 => ?_)
      refine Z1 Fx.fl64_2 ?_
      refine Z15 (r := [_, _, _, _, _]) Fx.ty61 ?_
      refine Z3 (AW.reg (sM ?_))
      refine Z2 ?_
      refine sB ?_
      exact ⟨i + 1, _, by exact Wk.keep 160 _ _ _ rfl ⟨rfl, rfl, rfl, rfl, rfl, trivial⟩ ⟨rfl, rfl, rfl, trivial⟩ (fun _ _ h => h) rfl, by omega, k57, za ++ [iLT (nbT d.cols d.keys[i])], ⟨hi, hk57, by rw [hza, take_put hi, List.map_append, List.map_append]; rfl, upS hi hU hyes⟩, rfl⟩
  ·
    refine AW.exit ?_
    refine eth_e ?_
    refine eth_e ?_
    refine exit_here ?_
    refine AW.seq ?_
    obtain rfl : i = d.keys.length := by rw [List.length_map] at h36; omega
    rw [List.take_length] at hza
    have hKall := upE hU (Nat.le_refl _)
    refine AW.xwL 6 rfl (.cons XW.reA (.cons XW.reA (.cons (XW.ts.trans (XW.es hza)) XWs.re))) ?_
    refine AW.draw Fx.mo ?_
    refine LexK.q (q_build0 rfl Fx.el23) rfl rfl rfl ?_
    refine Z18 ?_
    refine LexK.r (b_app0 rfl Fx.el23 rfl rfl (by have := hs.len; rw [List.length_map]; omega) rfl rfl rfl) rfl ?_
    refine Z45 (r := .g [_, _, _, _, _]) Fx.ty64 ?_
    refine LexK.q (q_buildSlice _ rfl Fx.el23 rfl (by decide) rfl) rfl rfl rfl ?_
    refine LexK.r (b_app rfl Fx.el23 rfl rfl rfl (rfl) (by have := hs.len; simp; omega) rfl rfl) rfl ?_
    refine Z36 ?_
    refine Z30 ?_
    refine AW.xw 10 rfl ((XW.tw (TW.sl (TWss.app TWss.re (.cons (.cons TW.re (.cons TW.re (.cons TW.re (.cons TW.nil (.cons TW.re .nil))))) .nil)))).trans (XW.es (es' := (allS s0 d).map tbT) (by rw [List.map_append]; rfl))) ?_
    refine sR (sB ?_)
    refine AW.seq (sR (sB ?_))
    refine AW.block ?_
    refine AW.tipL 6 3 88 3 rfl rfl (fun k0 hk0 => ?_)
    refine AW.loop (fun (i : Nat) s => ∃ (kb : Nat) (zb : List (List E.T)) (ok : Bool), (i ≤ d.fks.length ∧ (upd H ka (some (.tip 24 1 za.length))) kb = none ∧ zb = ((d.fks.take i).map (fMk s0 d)).map fkT ∧ (∀ j (h : j < d.fks.length), j < i → fOk s0 d d.fks[j]) ∧ (ok = true ↔ ∀ j (h : j < d.fks.length), j < i → fTy s0 d d.fks[j])) ∧ s = ⟨160, sp [(3, .lp 3 0), (4, .lp 4 0), (6, .lp 6 0), (10, .c (scC .un (allS s0 d))), (11, .c (iC (if ok then 0 else 6))), (12, iX .i64 ((i : Nat) : Int))], lv [(3, .box (zDf d)), (4, .box [.t (.v (.string ⟨#[]⟩)), .t (.v (.slice none 0 0)), .t (.v (.slice none 0 0)), .t (.v (.slice none 0 0)), .t (.v (.slice none 0 0))]), (6, .box [.t (.v (.string d.nm)), .t (.sl .un 6 (d.cols.map coT)), .t (.sl .un 1 ((d.keys.map (nbT d.cols)).map iLT)), .ts kb .ne 3 zb, .t (.sl .un 8 (d.chks.map exT'))])], (upd (upd H ka (some (.tip 24 1 za.length))) kb (some (.tip 88 3 zb.length)))⟩) (fun i => d.fks.length - i) 0 ⟨_, by exact Wk.keep 160 _ _ _ rfl ⟨rfl, rfl, rfl, rfl, rfl, rfl, trivial⟩ ⟨rfl, rfl, rfl, trivial⟩ (fun _ _ h => h) rfl, k0, [], true, ⟨Nat.zero_le _, hk0, rfl, up0, ⟨fun _ => up0, fun _ => rfl⟩⟩, rfl⟩ (fun i s hs => ?_)
    obtain ⟨kb, zb, ok, ⟨hi0, hkb, hzb, hV, hW⟩, rfl⟩ := hs
    refine AW.seq (sR (sM ?_))
    refine Z1 Fx.fl47_2 ?_
    refine Z1 Fx.fl40_2 ?_
    refine Z0 Fx.ty38 ?_
    refine Z14 Fx.un38 ?_
    refine Z10 ?_
    refine Z3 ?_
    refine AW.condD rfl ?_ ?_ <;> intro h70
    ·
      have hi : i < d.fks.length := by rw [List.length_map] at h70; omega
      have hfc := (hk.fksl _ (List.getElem_mem hi)).1
      have hft := (hk.fksl _ (List.getElem_mem hi)).2
      refine AW.skip (AW.seq (AW.block (sR (Z1 Fx.fl47_2 ?_))))
      refine Z1 Fx.fl40_2 ?_
      refine Z0 Fx.ty38 ?_
      refine sM ?_
      refine Z9 Fx.sl38 (idx_map (f := rfT) hi) ?_
      refine Z11 (.g [_, _, _]) Fx.ty114 ?_
      refine Z25 (r := [_, _, _]) Fx.ze114 ?_
      refine Z15 (r := [_, _, _]) Fx.ty114 ?_
      refine Z3 (sR (Z12 (r := .g [_, _, _, _, _]) Fx.ty64 ?_))
      refine Z1 Fx.fl114_0 ?_
      refine Z0 Fx.ty25 ?_
      refine SeqK.q (q_call _ rfl Fx.fn86 rfl (Pure.arg [] (r := [sL .un d.fks[i].cols]) (XW.g (.cons XW.reA (.cons XW.reA (.cons XW.reA (.cons (XW.ts.trans (XW.es hzb)) (.cons XW.reA .nil)))))) (numbers_tup ⟨d.nm, d.cols, d.keys.map (nbT d.cols), (d.fks.take i).map (fMk s0 d), d.chks⟩ d.fks[i].cols .un hfc (by show d.cols.length ≤ _; omega))) rfl) rfl rfl rfl ?_
      refine SeqK.q (q_mvT rfl rfl) rfl rfl rfl ?_
      refine Z47 ?_
      refine Z47 ?_
      refine sA ?_
      refine sB ?_
      refine sR (sM ?_)
      refine Z1 Fx.fl114_1 ?_
      refine Z0 Fx.ty9 ?_
      refine SeqK.q (q_call _ rfl Fx.fn83 rfl (find_any (allS s0 d) .un d.fks[i].tab (by omega)) rfl) rfl rfl rfl ?_
      refine SeqK.q (q_mvT rfl rfl) rfl rfl rfl ?_
      refine Z47 ?_
      refine Z47 ?_
      refine sA ?_
      refine sB ?_
      refine AW.seq (sR (sM ?_))
      refine Z33 ?_
      refine SeqK.qB (q_mvC rfl rfl) rfl rfl rfl (fun g95 => ?_) (fun g95 => ?_)
      ·
        have hnk : ¬ fOk s0 d d.fks[i] := fun h => nd_t g95 h.1.1
        iterate 2 refine SeqK.off rfl rfl rfl rfl rfl rfl ?_
        refine Z4 ?_
        refine Z3 (AW.condT rfl ?_)
        refine sR (Z34 (zs := [_, _, _, _, _]) (r := [_, _, _, _, _]) [(0, 1), (1, 1), (2, 1), (3, 1), (4, 1)] Fx.ze64 Fx.bp64 ?_)
        refine Z15 (r := [_, _, _, _, _]) Fx.ty64 ?_
        refine sB ?_
        refine AW.xwL 4 rfl (.cons XW.reA (.cons (XW.nilU (sz := 6)) (.cons (XW.nilU (sz := 1)) (.cons (XW.nilU (sz := 3)) (.cons (XW.nilU (sz := 8)) .nil))))) ?_
        refine AW.ret ?_
        exact fin_x (x := .tup [_, _]) (H) (.cellL rfl rfl Fx.ty64 rfl rfl (.tmp rfl .nil)) rfl ((fun j o h => upd_sub hkb j o (upd_sub hka j o h))) (⟨tbe (tbX_4 (fun h => hnk (h.2 i hi))), rfl⟩)
      ·
        refine Z13 ?_
        refine SeqK.on (q_not rfl rfl) rfl rfl rfl rfl rfl ?_
        refine Z7 ?_
        refine Z3 ?_
        refine AW.cond _ rfl (fun h98 => ?_) (fun h98 => ?_)
        ·
          have hnk : ¬ fOk s0 d d.fks[i] := fun h => by have := h.1.2; rw [this] at h98; cases h98
          refine sR (Z34 (zs := [_, _, _, _, _]) (r := [_, _, _, _, _]) [(0, 1), (1, 1), (2, 1), (3, 1), (4, 1)] Fx.ze64 Fx.bp64 ?_)
          refine Z15 (r := [_, _, _, _, _]) Fx.ty64 ?_
          refine sB ?_
          refine AW.xwL 4 rfl (.cons XW.reA (.cons (XW.nilU (sz := 6)) (.cons (XW.nilU (sz := 1)) (.cons (XW.nilU (sz := 3)) (.cons (XW.nilU (sz := 8)) .nil))))) ?_
          refine AW.ret ?_
          exact fin_x (x := .tup [_, _]) (H) (.cellL rfl rfl Fx.ty64 rfl rfl (.tmp rfl .nil)) rfl ((fun j o h => upd_sub hkb j o (upd_sub hka j o h))) (⟨tbe (tbX_4 (fun h => hnk (h.2 i hi))), rfl⟩)
        ·
          refine AW.skip (AW.seq ?_)
          have hok1 := nd_f g95
          have hok2 : (fstI Tb.nm d.fks[i].tab (allS s0 d)).isSome = true := by simpa using h98
          obtain ⟨nn, hnn⟩ := Option.isSome_iff_exists.1 hok2
          have hnl := fstI_lt hnn
          have hfT : fTab s0 d d.fks[i] = nn := by show ((fstI Tb.nm d.fks[i].tab (allS s0 d)).getD 0) = nn; rw [hnn]; rfl
          have hfl2 : fTab s0 d d.fks[i] < (allS s0 d).length := by rw [hfT]; exact hnl
          have hUe : (fU s0 d d.fks[i]) = (allS s0 d)[fTab s0 d d.fks[i]] := by show (allS s0 d).getD _ tb0 = _; rw [List.getD_eq_getElem?_getD, List.getElem?_eq_getElem hfl2]; rfl
          have hUm : (fU s0 d d.fks[i]) ∈ (allS s0 d) := by rw [hUe]; exact List.getElem_mem _
          have hUc : (fU s0 d d.fks[i]).cols.length ≤ 17592186044000 := by rcases List.mem_append.1 hUm with h | h; exact hs.cols _ h; rw [List.mem_singleton.1 h]; show d.cols.length ≤ _; omega
          have hUk : (fU s0 d d.fks[i]).keys.length ≤ 17592186044000 := by rcases List.mem_append.1 hUm with h | h; exact hs.keys _ h; rw [List.mem_singleton.1 h]; show (List.map _ _).length ≤ _; rw [List.length_map]; omega
          have hUkk : ∀ k ∈ (fU s0 d d.fks[i]).keys, k.length ≤ 17592186044000 := by
            rcases List.mem_append.1 hUm with h | h
            · exact hs.keysl _ h
            · rw [List.mem_singleton.1 h]
              intro k hk2
              obtain ⟨y, hy, rfl⟩ := List.mem_map.1 hk2
              have k1 := nbT_len (cs := d.cols) (l := y)
              have k2 := hk.keysl y hy
              omega
          have hidx : ((allS s0 d).map tbT)[((fTab s0 d d.fks[i] : Nat) : Int).toNat]? = some (tbT (fU s0 d d.fks[i])) := by rw [Int.toNat_natCast, List.getElem?_map, List.getElem?_eq_getElem hfl2, ← hUe]; rfl
          refine AW.draw Fx.mo ?_
          refine Z18 ?_
          refine Z18 ?_
          refine Z27 Fx.sl23 (hidx) ?_
          refine Z26 (.g [_, _, _, _, _]) Fx.ty64 ?_
          refine Z23 Fx.fl114_2 ?_
          refine Z20 Fx.ty25 ?_
          refine Z52 Fx.fn86 (numbers_tup (fU s0 d d.fks[i]) d.fks[i].tgt .un hft hUc) ?_
          refine LexK.q (q_mvT rfl rfl) rfl rfl rfl ?_
          refine LexK.q (q_extract _ rfl rfl rfl) rfl rfl rfl ?_
          refine LexK.q (q_extract _ rfl rfl rfl) rfl rfl rfl ?_
          refine Z36 ?_
          refine Z36 ?_
          refine Z30 ?_
          refine sR (sB ?_)
          refine AW.seq (sR (sB ?_))
          refine AW.block ?_
          refine AW.loop (fun (j : Nat) s => (j ≤ (fU s0 d d.fks[i]).keys.length) ∧ s = ⟨160, sp [(3, .lp 3 0), (4, .lp 4 0), (6, .lp 6 0), (10, .c (scC .un (allS s0 d))), (11, .c (iC (if ok then 0 else 6))), (12, iX .i64 ((i : Nat) : Int)), (13, .lp 13 0), (14, .c (iL .un (nbT d.cols d.fks[i].cols))), (16, iX .i64 ((fTab s0 d d.fks[i] : Nat) : Int)), (18, .c (iL .un (fTg s0 d d.fks[i]))), (19, .c (bC (fHas s0 d d.fks[i]))), (20, .c (iC (keyU (fHas s0 d d.fks[i]) (fTg s0 d d.fks[i]) (fU s0 d d.fks[i]).keys j))), (21, iX .i64 ((j : Nat) : Int))], lv [(3, .box (zDf d)), (4, .box [.t (.v (.string ⟨#[]⟩)), .t (.v (.slice none 0 0)), .t (.v (.slice none 0 0)), .t (.v (.slice none 0 0)), .t (.v (.slice none 0 0))]), (6, .box [.t (.v (.string d.nm)), .t (.sl .un 6 (d.cols.map coT)), .t (.sl .un 1 ((d.keys.map (nbT d.cols)).map iLT)), .ts kb .ne 3 zb, .t (.sl .un 8 (d.chks.map exT'))]), (13, .box [.t (.sl .un 1 (d.fks[i].cols.map sT)), .t (.v (.string d.fks[i].tab)), .t (.sl .un 1 (d.fks[i].tgt.map sT))])], (upd (upd H ka (some (.tip 24 1 za.length))) kb (some (.tip 88 3 zb.length)))⟩) (fun j => (fU s0 d d.fks[i]).keys.length - j) 0 ⟨_, Wk.keep 160 [(3, .lp 3 0), (4, .lp 4 0), (6, .lp 6 0), (10, .c (scC .un (allS s0 d))), (11, .c (iC (if ok then 0 else 6))), (12, iX .i64 ((i : Nat) : Int)), (13, .lp 13 0), (14, .c (iL .un (nbT d.cols d.fks[i].cols))), (16, iX .i64 ((fTab s0 d d.fks[i] : Nat) : Int)), (18, .c (iL .un (fTg s0 d d.fks[i]))), (19, .c (bC (fHas s0 d d.fks[i]))), (20, .c (iC (keyU (fHas s0 d d.fks[i]) (fTg s0 d d.fks[i]) (fU s0 d d.fks[i]).keys ((0 : Nat))))), (21, iX .i64 ((((0 : Nat)) : Nat) : Int))] [(3, .box (zDf d)), (4, .box [.t (.v (.string ⟨#[]⟩)), .t (.v (.slice none 0 0)), .t (.v (.slice none 0 0)), .t (.v (.slice none 0 0)), .t (.v (.slice none 0 0))]), (6, .box [.t (.v (.string d.nm)), .t (.sl .un 6 (d.cols.map coT)), .t (.sl .un 1 ((d.keys.map (nbT d.cols)).map iLT)), .ts kb .ne 3 zb, .t (.sl .un 8 (d.chks.map exT'))]), (13, .box [.t (.sl .un 1 (d.fks[i].cols.map sT)), .t (.v (.string d.fks[i].tab)), .t (.sl .un 1 (d.fks[i].tgt.map sT))])] ((upd (upd H ka (some (.tip 24 1 za.length))) kb (some (.tip 88 3 zb.length)))) rfl ⟨rfl, rfl, rfl, rfl, rfl, rfl, rfl, rfl, rfl, rfl, rfl, rfl, rfl, trivial⟩ ⟨rfl, rfl, rfl, rfl, trivial⟩ (fun _ _ h => h) rfl, Nat.zero_le _, rfl⟩ (fun j s hs => ?_)
          obtain ⟨hj0, rfl⟩ := hs
          refine AW.seq (sR (sM ?_))
          refine sM ?_
          refine sM ?_
          refine Z9 Fx.sl23 (hidx) ?_
          refine SeqK.q (q_fieldP _ rfl Fx.fl64_2 rfl rfl) rfl rfl rfl ?_
          refine Z11 (.a _) Fx.ty61 ?_
          refine Z14 Fx.un61 ?_
          refine Z10 ?_
          refine Z3 ?_
          refine AW.condD rfl ?_ ?_ <;> intro h117
          ·
            have hj : j < (fU s0 d d.fks[i]).keys.length := by rw [List.length_map] at h117; omega
            have hjd : (fU s0 d d.fks[i]).keys.getD j [] = (fU s0 d d.fks[i]).keys[j] := by rw [List.getD_eq_getElem?_getD, List.getElem?_eq_getElem hj]; rfl
            have hkjl := hUkk _ (List.getElem_mem hj)
            refine AW.skip (AW.seq (AW.block (sR (sM ?_))))
            refine SeqK.qB (q_mvC rfl rfl) rfl rfl rfl (fun g121 => ?_) (fun g121 => ?_)
            ·
              refine Z13 ?_
              refine Z13 ?_
              refine SeqK.on (q_index _ rfl Fx.sl23 rfl rfl (by omega) (hidx)) rfl rfl rfl rfl rfl ?_
              refine SeqK.on (q_fieldP _ rfl Fx.fl64_2 rfl rfl) rfl rfl rfl rfl rfl ?_
              refine SeqK.on (q_load (.a _) rfl Fx.ty61 rfl rfl rfl) rfl rfl rfl rfl rfl ?_
              refine Z13 ?_
              refine SeqK.on (q_index _ rfl Fx.sl61 rfl rfl (by omega) (idx_map (f := iLT) hj)) rfl rfl rfl rfl rfl ?_
              refine SeqK.on (q_load (.a _) rfl Fx.ty24 rfl rfl rfl) rfl rfl rfl rfl rfl ?_
              refine Z13 ?_
              refine SeqK.on (q_call _ rfl Fx.fn87 rfl (ints_any _ _ .un .un (by omega)) rfl) rfl rfl rfl rfl rfl ?_
              refine Z4 ?_
              refine Z3 ?_
              refine AW.cond _ rfl (fun h132 => ?_) (fun h132 => ?_)
              ·
                refine AW.reg (sM ?_)
                refine sB ?_
                refine AW.wk (Wk.keep 160 [(3, .lp 3 0), (4, .lp 4 0), (6, .lp 6 0), (10, .c (scC .un (allS s0 d))), (11, .c (iC (if ok then 0 else 6))), (12, iX .i64 ((i : Nat) : Int)), (13, .lp 13 0), (14, .c (iL .un (nbT d.cols d.fks[i].cols))), (16, iX .i64 ((fTab s0 d d.fks[i] : Nat) : Int)), (18, .c (iL .un (fTg s0 d d.fks[i]))), (19, .c (bC (fHas s0 d d.fks[i]))), (20, .c (iC (keyU (fHas s0 d d.fks[i]) (fTg s0 d d.fks[i]) (fU s0 d d.fks[i]).keys (j + 1)))), (21, iX .i64 ((j : Nat) : Int))] [(3, .box (zDf d)), (4, .box [.t (.v (.string ⟨#[]⟩)), .t (.v (.slice none 0 0)), .t (.v (.slice none 0 0)), .t (.v (.slice none 0 0)), .t (.v (.slice none 0 0))]), (6, .box [.t (.v (.string d.nm)), .t (.sl .un 6 (d.cols.map coT)), .t (.sl .un 1 ((d.keys.map (nbT d.cols)).map iLT)), .ts kb .ne 3 zb, .t (.sl .un 8 (d.chks.map exT'))]), (13, .box [.t (.sl .un 1 (d.fks[i].cols.map sT)), .t (.v (.string d.fks[i].tab)), .t (.sl .un 1 (d.fks[i].tgt.map sT))])] ((upd (upd H ka (some (.tip 24 1 za.length))) kb (some (.tip 88 3 zb.length)))) rfl ⟨rfl, rfl, rfl, rfl, rfl, rfl, rfl, rfl, rfl, rfl, rfl, (iCe (by rw [keyU, if_pos ⟨g121, hjd.trans (of_decide_eq_true h132)⟩])), rfl, trivial⟩ ⟨rfl, rfl, rfl, rfl, trivial⟩ (fun _ _ h => h) rfl) ?_
                refine AW.reg (sM ?_)
                refine Z2 ?_
                refine sB ?_
                exact ⟨j + 1, _, by exact Wk.keep 160 _ _ _ rfl ⟨rfl, rfl, rfl, rfl, rfl, rfl, rfl, rfl, rfl, rfl, rfl, rfl, rfl, trivial⟩ ⟨rfl, rfl, rfl, rfl, trivial⟩ (fun _ _ h => h) rfl, by omega, hj, rfl⟩
              ·
                refine AW.skip ?_
                refine AW.wk (Wk.keep 160 [(3, .lp 3 0), (4, .lp 4 0), (6, .lp 6 0), (10, .c (scC .un (allS s0 d))), (11, .c (iC (if ok then 0 else 6))), (12, iX .i64 ((i : Nat) : Int)), (13, .lp 13 0), (14, .c (iL .un (nbT d.cols d.fks[i].cols))), (16, iX .i64 ((fTab s0 d d.fks[i] : Nat) : Int)), (18, .c (iL .un (fTg s0 d d.fks[i]))), (19, .c (bC (fHas s0 d d.fks[i]))), (20, .c (iC (keyU (fHas s0 d d.fks[i]) (fTg s0 d d.fks[i]) (fU s0 d d.fks[i]).keys (j + 1)))), (21, iX .i64 ((j : Nat) : Int))] [(3, .box (zDf d)), (4, .box [.t (.v (.string ⟨#[]⟩)), .t (.v (.slice none 0 0)), .t (.v (.slice none 0 0)), .t (.v (.slice none 0 0)), .t (.v (.slice none 0 0))]), (6, .box [.t (.v (.string d.nm)), .t (.sl .un 6 (d.cols.map coT)), .t (.sl .un 1 ((d.keys.map (nbT d.cols)).map iLT)), .ts kb .ne 3 zb, .t (.sl .un 8 (d.chks.map exT'))]), (13, .box [.t (.sl .un 1 (d.fks[i].cols.map sT)), .t (.v (.string d.fks[i].tab)), .t (.sl .un 1 (d.fks[i].tgt.map sT))])] ((upd (upd H ka (some (.tip 24 1 za.length))) kb (some (.tip 88 3 zb.length)))) rfl ⟨rfl, rfl, rfl, rfl, rfl, rfl, rfl, rfl, rfl, rfl, rfl, (iCe (by rw [keyU, if_neg (fun h => (of_decide_eq_false h132) (hjd.symm.trans h.2))])), rfl, trivial⟩ ⟨rfl, rfl, rfl, rfl, trivial⟩ (fun _ _ h => h) rfl) ?_
                refine AW.reg (sM ?_)
                refine Z2 ?_
                refine sB ?_
                exact ⟨j + 1, _, by exact Wk.keep 160 _ _ _ rfl ⟨rfl, rfl, rfl, rfl, rfl, rfl, rfl, rfl, rfl, rfl, rfl, rfl, rfl, trivial⟩ ⟨rfl, rfl, rfl, rfl, trivial⟩ (fun _ _ h => h) rfl, by omega, hj, rfl⟩
            ·
              iterate 10 refine SeqK.off rfl rfl rfl rfl rfl rfl ?_
              refine Z7 ?_
              refine Z3 (AW.condF rfl ?_)
              refine AW.skip ?_
              refine AW.wk (Wk.keep 160 [(3, .lp 3 0), (4, .lp 4 0), (6, .lp 6 0), (10, .c (scC .un (allS s0 d))), (11, .c (iC (if ok then 0 else 6))), (12, iX .i64 ((i : Nat) : Int)), (13, .lp 13 0), (14, .c (iL .un (nbT d.cols d.fks[i].cols))), (16, iX .i64 ((fTab s0 d d.fks[i] : Nat) : Int)), (18, .c (iL .un (fTg s0 d d.fks[i]))), (19, .c (bC (fHas s0 d d.fks[i]))), (20, .c (iC (keyU (fHas s0 d d.fks[i]) (fTg s0 d d.fks[i]) (fU s0 d d.fks[i]).keys (j + 1)))), (21, iX .i64 ((j : Nat) : Int))] [(3, .box (zDf d)), (4, .box [.t (.v (.string ⟨#[]⟩)), .t (.v (.slice none 0 0)), .t (.v (.slice none 0 0)), .t (.v (.slice none 0 0)), .t (.v (.slice none 0 0))]), (6, .box [.t (.v (.string d.nm)), .t (.sl .un 6 (d.cols.map coT)), .t (.sl .un 1 ((d.keys.map (nbT d.cols)).map iLT)), .ts kb .ne 3 zb, .t (.sl .un 8 (d.chks.map exT'))]), (13, .box [.t (.sl .un 1 (d.fks[i].cols.map sT)), .t (.v (.string d.fks[i].tab)), .t (.sl .un 1 (d.fks[i].tgt.map sT))])] ((upd (upd H ka (some (.tip 24 1 za.length))) kb (some (.tip 88 3 zb.length)))) rfl ⟨rfl, rfl, rfl, rfl, rfl, rfl, rfl, rfl, rfl, rfl, rfl, (iCe (by rw [keyU, if_neg (fun h => by have e := h.1; rw [show fHas s0 d d.fks[i] = false from g121] at e; cases e)])), rfl, trivial⟩ ⟨rfl, rfl, rfl, rfl, trivial⟩ (fun _ _ h => h) rfl) ?_
              refine AW.reg (sM ?_)
              refine Z2 ?_
              refine sB ?_
              exact ⟨j + 1, _, by exact Wk.keep 160 _ _ _ rfl ⟨rfl, rfl, rfl, rfl, rfl, rfl, rfl, rfl, rfl, rfl, rfl, rfl, rfl, trivial⟩ ⟨rfl, rfl, rfl, rfl, trivial⟩ (fun _ _ h => h) rfl, by omega, hj, rfl⟩
          ·
            refine AW.exit ?_
            refine eth_e ?_
            refine eth_e ?_
            refine exit_here ?_
            refine AW.seq (AW.seq ?_)
            obtain rfl : j = (fU s0 d d.fks[i]).keys.length := by rw [List.length_map] at h117; omega
            refine AW.reg (sM ?_)
            refine Z10 ?_
            refine Z3 ?_
            refine AW.condD rfl ?_ ?_ <;> intro h135
            ·
              have hnk : ¬ fOk s0 d d.fks[i] := fun h => by have h2 : 0 ≤ keyU (fHas s0 d d.fks[i]) (fTg s0 d d.fks[i]) (fU s0 d d.fks[i]).keys (fU s0 d d.fks[i]).keys.length := h.2; omega
              refine sR (Z34 (zs := [_, _, _, _, _]) (r := [_, _, _, _, _]) [(0, 1), (1, 1), (2, 1), (3, 1), (4, 1)] Fx.ze64 Fx.bp64 ?_)
              refine Z15 (r := [_, _, _, _, _]) Fx.ty64 ?_
              refine sB ?_
              refine AW.xwL 4 rfl (.cons XW.reA (.cons (XW.nilU (sz := 6)) (.cons (XW.nilU (sz := 1)) (.cons (XW.nilU (sz := 3)) (.cons (XW.nilU (sz := 8)) .nil))))) ?_
              refine AW.ret ?_
              exact fin_x (x := .tup [_, _]) (H) (.cellL rfl rfl Fx.ty64 rfl rfl (.tmp rfl .nil)) rfl ((fun j o h => upd_sub hkb j o (upd_sub hka j o h))) (⟨tbe (tbX_4 (fun h => hnk (h.2 i hi))), rfl⟩)
            ·
              refine AW.skip (AW.seq (AW.seq ?_))
              have hK0 : 0 ≤ fKey s0 d d.fks[i] := by show 0 ≤ keyU (fHas s0 d d.fks[i]) (fTg s0 d d.fks[i]) (fU s0 d d.fks[i]).keys (fU s0 d d.fks[i]).keys.length; omega
              have hHas : nbP (fU s0 d d.fks[i]).cols d.fks[i].tgt := by
                by_cases hp : nbP (fU s0 d d.fks[i]).cols d.fks[i].tgt
                · exact hp
                · have e : fHas s0 d d.fks[i] = false := decide_eq_false hp
                  have : fKey s0 d d.fks[i] = -1 := by rw [fKey, e, keyU_has]
                  omega
              have eTa : nbT d.cols d.fks[i].cols = nbL d.cols d.fks[i].cols := if_pos hok1
              have eTb : fTg s0 d d.fks[i] = nbL (fU s0 d d.fks[i]).cols d.fks[i].tgt := if_pos hHas
              have hTl : (nbT d.cols d.fks[i].cols).length ≤ 17592186044000 := by rw [eTa, List.length_map]; omega
              have hTab : (nbT d.cols d.fks[i].cols).length ≤ (fTg s0 d d.fks[i]).length := by rw [eTa, eTb, List.length_map, List.length_map, hg _ (List.getElem_mem hi)]; omega
              have hTa : insP ⟨d.nm, d.cols, d.keys.map (nbT d.cols), (d.fks.take i).map (fMk s0 d), d.chks⟩ (nbT d.cols d.fks[i].cols) := by rw [eTa]; exact nbL_in (t := ⟨d.nm, d.cols, d.keys.map (nbT d.cols), (d.fks.take i).map (fMk s0 d), d.chks⟩) hok1
              have hTb : insP (fU s0 d d.fks[i]) (fTg s0 d d.fks[i]) := by rw [eTb]; exact nbL_in hHas
              have hfo : fOk s0 d d.fks[i] := ⟨⟨hok1, hok2⟩, hK0⟩
              refine AW.draw Fx.mo ?_
              refine Z45 (r := .g [_, _, _, _, _]) Fx.ty64 ?_
              refine Z18 ?_
              refine Z18 ?_
              refine Z27 Fx.sl23 (hidx) ?_
              refine Z26 (.g [_, _, _, _, _]) Fx.ty64 ?_
              refine Z18 ?_
              refine Z18 ?_
              refine Z52 Fx.fn88 (Pure.arg [] (r := [tbC (fU s0 d d.fks[i]), iL .un (nbT d.cols d.fks[i].cols), iL .un (fTg s0 d d.fks[i])]) (XW.g (.cons XW.reA (.cons XW.reA (.cons XW.reA (.cons (XW.ts.trans (XW.es hzb)) (.cons XW.reA .nil)))))) (types_any ⟨d.nm, d.cols, d.keys.map (nbT d.cols), (d.fks.take i).map (fMk s0 d), d.chks⟩ (fU s0 d d.fks[i]) (nbT d.cols d.fks[i].cols) (fTg s0 d d.fks[i]) .un .un hTl hTab hTa hTb)) ?_
              refine LexK.q (q_not rfl rfl) rfl rfl rfl ?_
              refine Z30 ?_
              refine AW.cond _ rfl (fun h145 => ?_) (fun h145 => ?_)
              ·
                refine AW.reg (sB ?_)
                refine AW.reg (Z1 Fx.fl64_3 ?_)
                refine Z0 Fx.ty62 ?_
                refine sM ?_
                refine sM ?_
                refine sM ?_
                refine Z34 (zs := [_, _, _]) (r := [_, _, _]) [(0, 1), (1, 1), (2, 1)] Fx.ze88 Fx.bp88 ?_
                refine Z38 Fx.el62 ?_
                refine SeqK.app1 rfl (hkb) rfl Fx.el62 rfl rfl (by simp [hzb]; omega) rfl rfl (fun k153 hk153 => ?_)
                refine Z1 Fx.fl64_3 ?_
                refine Z15 (r := [_, _, _, _, _]) Fx.ty62 ?_
                refine Z3 (AW.reg (sM ?_))
                refine Z2 ?_
                refine sB ?_
                exact ⟨i + 1, _, by exact Wk.keep 160 _ _ _ rfl ⟨rfl, rfl, rfl, rfl, rfl, rfl, trivial⟩ ⟨rfl, rfl, rfl, trivial⟩ (fun _ _ h => h) rfl, by omega, k153, zb ++ [fkT (fMk s0 d d.fks[i])], false, ⟨hi, hk153, by rw [hzb, take_put hi, List.map_append, List.map_append]; rfl, upS hi hV hfo, ⟨fun e => (by cases e), fun e => absurd (e i hi (Nat.lt_succ_self i)) (nd_t h145)⟩⟩, rfl⟩
              ·
                refine AW.skip (AW.reg (Z1 Fx.fl64_3 ?_))
                refine Z0 Fx.ty62 ?_
                refine sM ?_
                refine sM ?_
                refine sM ?_
                refine Z34 (zs := [_, _, _]) (r := [_, _, _]) [(0, 1), (1, 1), (2, 1)] Fx.ze88 Fx.bp88 ?_
                refine Z38 Fx.el62 ?_
                refine SeqK.app1 rfl (hkb) rfl Fx.el62 rfl rfl (by simp [hzb]; omega) rfl rfl (fun k153 hk153 => ?_)
                refine Z1 Fx.fl64_3 ?_
                refine Z15 (r := [_, _, _, _, _]) Fx.ty62 ?_
                refine Z3 (AW.reg (sM ?_))
                refine Z2 ?_
                refine sB ?_
                exact ⟨i + 1, _, by exact Wk.keep 160 _ _ _ rfl ⟨rfl, rfl, rfl, rfl, rfl, rfl, trivial⟩ ⟨rfl, rfl, rfl, trivial⟩ (fun _ _ h => h) rfl, by omega, k153, zb ++ [fkT (fMk s0 d d.fks[i])], ok, ⟨hi, hk153, by rw [hzb, take_put hi, List.map_append, List.map_append]; rfl, upS hi hV hfo, hW.trans ⟨fun e => upS hi e (nd_f h145), fun e j hj hji => e j hj (by omega)⟩⟩, rfl⟩
    ·
      refine AW.exit ?_
      refine eth_e ?_
      refine eth_e ?_
      refine exit_here ?_
      refine AW.seq (AW.seq ?_)
      obtain rfl : i = d.fks.length := by rw [List.length_map] at h70; omega
      rw [List.take_length] at hzb
      have hFall := upE hV (Nat.le_refl _)
      have htok : tOk s0 d := ⟨hKall, hFall⟩
      refine AW.reg (sM ?_)
      refine Z49 ?_
      refine Z3 ?_
      refine AW.condD rfl ?_ ?_ <;> intro h156
      ·
        obtain rfl : ok = false := by cases ok with | false => rfl | true => exact absurd rfl h156
        have hnt : ¬ tTy s0 d := fun h => by have := hW.2 (fun j hj _ => h j hj); cases this
        refine sR (Z34 (zs := [_, _, _, _, _]) (r := [_, _, _, _, _]) [(0, 1), (1, 1), (2, 1), (3, 1), (4, 1)] Fx.ze64 Fx.bp64 ?_)
        refine sM ?_
        refine Z15 (r := [_, _, _, _, _]) Fx.ty64 ?_
        refine sB ?_
        refine AW.xwL 4 rfl (.cons XW.reA (.cons (XW.nilU (sz := 6)) (.cons (XW.nilU (sz := 1)) (.cons (XW.nilU (sz := 3)) (.cons (XW.nilU (sz := 8)) .nil))))) ?_
        refine AW.ret ?_
        exact fin_x (x := .tup [_, _]) (H) (.cellL rfl rfl Fx.ty64 rfl rfl (.tmp rfl .nil)) rfl ((fun j o h => upd_sub hkb j o (upd_sub hka j o h))) (⟨tbe (tbX_6 htok hnt), rfl⟩)
      ·
        obtain rfl : ok = true := by cases ok with | true => rfl | false => exact absurd h156 (by simp)
        have hty : tTy s0 d := fun j hj => hW.1 rfl j hj hj
        refine AW.skip (sR (Z12 (r := .g [_, _, _, _, _]) Fx.ty64 ?_))
        refine SeqK.xw 159 rfl (XW.g (.cons XW.reA (.cons XW.reA (.cons XW.reA (.cons (XW.ts.trans (XW.es hzb)) (.cons XW.reA .nil)))))) ?_
        refine Z15 (r := [_, _, _, _, _]) Fx.ty64 ?_
        refine sB ?_
        refine AW.ret ?_
        exact fin_x (x := .tup [_, _]) (H) (.cellL rfl rfl Fx.ty64 rfl rfl (.tmp rfl .nil)) rfl ((fun j o h => upd_sub hkb j o (upd_sub hka j o h))) (⟨tbe (tbX_0 htok hty), rfl⟩)

end Go.Proofs.YtihlgigaejhilaaGreatDoor.W
namespace Go.Proofs.YtihlgigaejhilaaGreatDoor.W
open Go.RowKit E
abbrev tbAt (s : List Tb) (v : Int) : Tb := s.getD v.toNat tb0
theorem tbAt_get {s : List Tb} {v : Int} (h : v.toNat < s.length) : tbAt s v = s[v.toNat] := by
  show s.getD v.toNat tb0 = _; rw [List.getD_eq_getElem?_getD, List.getElem?_eq_getElem h]; rfl
abbrev fkP (s : List Tb) (j : Nat) (t : Tb) (f : Fk) : Prop := insP t f.cols ∧ (0 ≤ f.tab ∧ f.tab ≤ j) ∧ 0 ≤ f.key ∧ f.key < (tbAt s f.tab).keys.length
abbrev tvP (s : List Tb) (j : Nat) (t : Tb) : Prop := (∀ k (h : k < t.keys.length), insP t t.keys[k]) ∧ ∀ k (h : k < t.fks.length), fkP s j t t.fks[k]
abbrev vP (s : List Tb) : Prop := ∀ j (h : j < s.length), tvP s j s[j]
abbrev nmsOf (t : Tb) (l : List Int) : List ByteArray := l.map fun v => (colAt t v).nm
abbrev rfOf (s : List Tb) (t : Tb) (f : Fk) : Rf := ⟨nmsOf t f.cols, (tbAt s f.tab).nm, nmsOf (tbAt s f.tab) ((tbAt s f.tab).keys.getD f.key.toNat [])⟩
abbrev dfOf (s : List Tb) (t : Tb) : Df := ⟨1, t.nm, t.cols, t.keys.map (nmsOf t), t.fks.map (rfOf s t), t.chks⟩
structure okV (s : List Tb) : Prop where
  cols : ∀ t ∈ s, t.cols.length ≤ 17592186044000
  keys : ∀ t ∈ s, t.keys.length ≤ 1000
  keysl : ∀ t ∈ s, ∀ k ∈ t.keys, k.length ≤ 1000
  fks : ∀ t ∈ s, t.fks.length ≤ 1000
  fksl : ∀ t ∈ s, ∀ f ∈ t.fks, f.cols.length ≤ 1000

set_option maxHeartbeats 8000000 in
set_option maxRecDepth 20000 in
theorem definition_any (s0 : List Tb) (z : Nz) (i : Nat) (hi : i < s0.length) (hv : vP s0) (ho : okV s0) : Pure Tryz.prog 30 [scC z s0, iC (i : Int)] (.c (dfX (dfOf s0 s0[i]))) := by
 intro H
 refine Spec.enter Tryz.func30 rfl ?_
 refine AW.wk (Wk.keep 87 [(0, .c (scC z s0)), (1, .c (iC (i : Int)))] [] (H) rfl ⟨rfl, rfl, trivial⟩ trivial (fun _ _ h => h) rfl) ?_
 refine sR (Z25 (r := [_, _, _, _, _, _, _, _, _, _, _, _, _, _, _, _, _, _, _, _, _, _]) Fx.ze47 ?_)
 refine Z3 (AW.seq ?_)
 have hti := hv i hi
 have hm := List.getElem_mem hi
 have q1 := ho.cols _ hm
 have q2 := ho.keys _ hm
 have q3 := ho.fks _ hm
 refine AW.reg (sM ?_)
 refine sM ?_
 refine Z9 Fx.sl23 (idx_map (f := tbT) hi) ?_
 refine Z11 (.g [_, _, _, _, _]) Fx.ty64 ?_
 refine Z25 (r := [_, _, _, _, _]) Fx.ze64 ?_
 refine Z15 (r := [_, _, _, _, _]) Fx.ty64 ?_
 refine Z3 (sR (Z1 Fx.fl64_0 ?_))
 refine Z0 Fx.ty9 ?_
 refine Z34 (zs := [_, _, _, _, _, _, _, _, _, _, _, _, _, _, _, _, _, _, _, _, _, _]) (r := [_, _, _, _, _, _, _, _, _, _, _, _, _, _, _, _, _, _, _, _, _, _]) [(0, 1), (1, 1), (2, 4), (6, 1), (7, 1), (8, 1), (9, 1), (10, 8), (18, 1), (19, 1), (20, 1), (21, 1)] Fx.ze47 Fx.bp47 ?_
 refine Z25 (r := [_, _, _, _, _, _, _, _, _, _, _, _, _, _, _, _, _, _, _, _, _, _]) Fx.ze47 ?_
 refine Z15 (r := [_, _, _, _, _, _, _, _, _, _, _, _, _, _, _, _, _, _, _, _, _, _]) Fx.ty47 ?_
 refine Z3 (AW.seq (AW.draw Fx.mo ?_))
 refine Z23 Fx.fl64_1 ?_
 refine Z20 Fx.ty36 ?_
 refine Z23 Fx.fl64_4 ?_
 refine Z20 Fx.ty28 ?_
 refine Z23 Fx.fl47_2 ?_
 refine Z23 Fx.fl40_0 ?_
 refine LexK.r (b_store (r := [_, _, _, _, _, _, _, _, _, _, _, _, _, _, _, _, _, _, _, _, _, _]) rfl rfl Fx.ty36 rfl rfl rfl rfl rfl rfl) rfl ?_
 refine Z23 Fx.fl47_2 ?_
 refine Z23 Fx.fl40_3 ?_
 refine LexK.r (b_store (r := [_, _, _, _, _, _, _, _, _, _, _, _, _, _, _, _, _, _, _, _, _, _]) rfl rfl Fx.ty28 rfl rfl rfl rfl rfl rfl) rfl ?_
 refine Z30 ?_
 refine AW.seq (sR (sB ?_))
 refine AW.block ?_
 refine AW.tipL 6 3 25 1 rfl rfl (fun k0 hk0 => ?_)
 refine AW.loop (fun (j : Nat) s => ∃ (ka : Nat) (za : List (List E.T)), (j ≤ s0[i].keys.length ∧ H ka = none ∧ za = ((s0[i].keys.take j).map (nmsOf s0[i])).map sLT) ∧ s = ⟨87, sp [(0, .c (scC z s0)), (4, .lp 4 0), (5, .lp 5 0), (6, .lp 6 0), (7, iX .i64 ((j : Nat) : Int))], lv [(4, .box [.t (.v (.int .i64 0)), .t (.v (.string ⟨#[]⟩)), .t (.v (.slice none 0 0)), .t (.v (.slice none 0 0)), .t (.v (.slice none 0 0)), .t (.v (.slice none 0 0)), .t (.v (.slice none 0 0)), .t (.v (.slice none 0 0)), .t (.v (.slice none 0 0)), .t (.v (.slice none 0 0)), .t (.v (.int .i64 0)), .t (.v (.string ⟨#[]⟩)), .t (.v (.string ⟨#[]⟩)), .t (.v (.int .i64 0)), .t (.v (.int .i64 0)), .t (.v (.int .i64 0)), .t (.v (.string ⟨#[]⟩)), .t (.v (.slice none 0 0)), .t (.v (.slice none 0 0)), .t (.v (.slice none 0 0)), .t (.v (.int .i64 0)), .t (.v (.string ⟨#[]⟩))]), (5, .box (zTb s0[i])), (6, .box [.t (.v (.int .i64 1)), .t (.v (.string s0[i].nm)), .t (.sl .un 6 (s0[i].cols.map coT)), .ts ka .ne 1 za, .t (.v (.slice none 0 0)), .t (.sl .un 8 (s0[i].chks.map exT')), .t (.v (.slice none 0 0)), .t (.v (.slice none 0 0)), .t (.v (.slice none 0 0)), .t (.v (.slice none 0 0)), .t (.v (.int .i64 0)), .t (.v (.string ⟨#[]⟩)), .t (.v (.string ⟨#[]⟩)), .t (.v (.int .i64 0)), .t (.v (.int .i64 0)), .t (.v (.int .i64 0)), .t (.v (.string ⟨#[]⟩)), .t (.v (.slice none 0 0)), .t (.v (.slice none 0 0)), .t (.v (.slice none 0 0)), .t (.v (.int .i64 0)), .t (.v (.string ⟨#[]⟩))])], (upd H ka (some (.tip 25 1 za.length)))⟩) (fun j => s0[i].keys.length - j) 0 ⟨_, Wk.keep 87 [(0, .c (scC z s0)), (4, .lp 4 0), (5, .lp 5 0), (6, .lp 6 0), (7, iX .i64 ((((0 : Nat)) : Nat) : Int))] [(4, .box [.t (.v (.int .i64 0)), .t (.v (.string ⟨#[]⟩)), .t (.v (.slice none 0 0)), .t (.v (.slice none 0 0)), .t (.v (.slice none 0 0)), .t (.v (.slice none 0 0)), .t (.v (.slice none 0 0)), .t (.v (.slice none 0 0)), .t (.v (.slice none 0 0)), .t (.v (.slice none 0 0)), .t (.v (.int .i64 0)), .t (.v (.string ⟨#[]⟩)), .t (.v (.string ⟨#[]⟩)), .t (.v (.int .i64 0)), .t (.v (.int .i64 0)), .t (.v (.int .i64 0)), .t (.v (.string ⟨#[]⟩)), .t (.v (.slice none 0 0)), .t (.v (.slice none 0 0)), .t (.v (.slice none 0 0)), .t (.v (.int .i64 0)), .t (.v (.string ⟨#[]⟩))]), (5, .box (zTb s0[i])), (6, .box [.t (.v (.int .i64 1)), .t (.v (.string s0[i].nm)), .t (.sl .un 6 (s0[i].cols.map coT)), .ts (k0) .ne 1 ([]), .t (.v (.slice none 0 0)), .t (.sl .un 8 (s0[i].chks.map exT')), .t (.v (.slice none 0 0)), .t (.v (.slice none 0 0)), .t (.v (.slice none 0 0)), .t (.v (.slice none 0 0)), .t (.v (.int .i64 0)), .t (.v (.string ⟨#[]⟩)), .t (.v (.string ⟨#[]⟩)), .t (.v (.int .i64 0)), .t (.v (.int .i64 0)), .t (.v (.int .i64 0)), .t (.v (.string ⟨#[]⟩)), .t (.v (.slice none 0 0)), .t (.v (.slice none 0 0)), .t (.v (.slice none 0 0)), .t (.v (.int .i64 0)), .t (.v (.string ⟨#[]⟩))])] ((upd H (k0) (some (.tip 25 1 ([]).length)))) rfl ⟨rfl, rfl, rfl, rfl, rfl, trivial⟩ ⟨rfl, rfl, rfl, trivial⟩ (fun _ _ h => h) rfl, k0, [], ⟨Nat.zero_le _, hk0, rfl⟩, rfl⟩ (fun j s hs => ?_)
 obtain ⟨ka, za, ⟨hj0, hka, hza⟩, rfl⟩ := hs
 refine AW.seq (sR (sM ?_))
 refine Z1 Fx.fl64_2 ?_
 refine Z0 Fx.ty61 ?_
 refine Z14 Fx.un61 ?_
 refine Z10 ?_
 refine Z3 ?_
 refine AW.condD rfl ?_ ?_ <;> intro h30
 ·
  have hj : j < s0[i].keys.length := by rw [List.length_map] at h30; omega
  have q4 := ho.keysl _ hm _ (List.getElem_mem hj)
  refine AW.skip (AW.seq (AW.block ?_))
  refine AW.drawO [0, 1, 2, 3, 4, 5, 6, 7, 8, 9, 10, 11, 12, 13, 14] Fx.mo (by kernel_rfl) ?_
  refine Z32 Fx.fl47_2 ?_
  refine Z32 Fx.fl40_1 ?_
  refine Z40 Fx.ty37 ?_
  refine LexO.r rfl (by kernel_rfl) (b_load (r := .g [_, _, _, _, _]) rfl Fx.ty64 rfl rfl rfl rfl rfl rfl) rfl ?_
  refine Z32 Fx.fl64_2 ?_
  refine Z40 Fx.ty61 ?_
  refine LexO.q rfl (by kernel_rfl) (q_mvC rfl rfl) rfl rfl rfl ?_
  refine LexO.q rfl (by kernel_rfl) (q_index _ rfl Fx.sl61 rfl rfl (by omega) (idx_map (f := iLT) hj)) rfl rfl rfl ?_
  refine LexO.q rfl (by kernel_rfl) (q_load (.a _) rfl Fx.ty24 rfl rfl rfl) rfl rfl rfl ?_
  refine LexO.q rfl (by kernel_rfl) (q_call _ rfl Fx.fn50 rfl (names_any s0[i] s0[i].keys[j] .un (by omega) (hti.1 j hj) q1) rfl) rfl rfl rfl ?_
  refine LexO.q rfl (by kernel_rfl) (q_buildSlice _ rfl Fx.el37 rfl (by decide) rfl) rfl rfl rfl ?_
  refine LexO.app1 rfl (by kernel_rfl) (by kernel_rfl) (by kernel_rfl) rfl (hka) rfl Fx.el37 rfl rfl (by simp [hza]; omega) rfl rfl (fun k44 hk44 => ?_)
  refine Z32 Fx.fl47_2 ?_
  refine Z32 Fx.fl40_1 ?_
  refine LexO.r rfl (by kernel_rfl) (b_store (r := [_, _, _, _, _, _, _, _, _, _, _, _, _, _, _, _, _, _, _, _, _, _]) rfl rfl Fx.ty37 rfl rfl rfl rfl rfl rfl) rfl ?_
  refine LexO.nil (by kernel_rfl) ?_
  refine AW.reg (sM ?_)
  refine Z2 ?_
  refine sB ?_
  exact ⟨j + 1, _, by exact Wk.keep 87 _ _ _ rfl ⟨rfl, rfl, rfl, rfl, rfl, trivial⟩ ⟨rfl, rfl, rfl, trivial⟩ (fun _ _ h => h) rfl, by omega, k44, za ++ [sLT (nmsOf s0[i] s0[i].keys[j])], ⟨hj, hk44, by rw [hza, take_put hj, List.map_append, List.map_append]; rfl⟩, rfl⟩
 refine AW.exit ?_
 refine eth_e ?_
 refine eth_e ?_
 refine exit_here ?_
 refine AW.seq (AW.seq ?_)
 obtain rfl : j = s0[i].keys.length := by rw [List.length_map] at h30; omega
 rw [List.take_length] at hza
 refine AW.reg (sB ?_)
 refine AW.block ?_
 refine AW.tipL 6 4 114 3 rfl rfl (fun k0 hk0 => ?_)
 refine AW.loop (fun (j : Nat) s => ∃ (kb : Nat) (zb : List (List E.T)), (j ≤ s0[i].fks.length ∧ (upd H ka (some (.tip 25 1 za.length))) kb = none ∧ zb = ((s0[i].fks.take j).map (rfOf s0 s0[i])).map rfT) ∧ s = ⟨87, sp [(0, .c (scC z s0)), (4, .lp 4 0), (5, .lp 5 0), (6, .lp 6 0), (8, iX .i64 ((j : Nat) : Int))], lv [(4, .box [.t (.v (.int .i64 0)), .t (.v (.string ⟨#[]⟩)), .t (.v (.slice none 0 0)), .t (.v (.slice none 0 0)), .t (.v (.slice none 0 0)), .t (.v (.slice none 0 0)), .t (.v (.slice none 0 0)), .t (.v (.slice none 0 0)), .t (.v (.slice none 0 0)), .t (.v (.slice none 0 0)), .t (.v (.int .i64 0)), .t (.v (.string ⟨#[]⟩)), .t (.v (.string ⟨#[]⟩)), .t (.v (.int .i64 0)), .t (.v (.int .i64 0)), .t (.v (.int .i64 0)), .t (.v (.string ⟨#[]⟩)), .t (.v (.slice none 0 0)), .t (.v (.slice none 0 0)), .t (.v (.slice none 0 0)), .t (.v (.int .i64 0)), .t (.v (.string ⟨#[]⟩))]), (5, .box (zTb s0[i])), (6, .box [.t (.v (.int .i64 1)), .t (.v (.string s0[i].nm)), .t (.sl .un 6 (s0[i].cols.map coT)), .ts ka .ne 1 za, .ts kb .ne 3 zb, .t (.sl .un 8 (s0[i].chks.map exT')), .t (.v (.slice none 0 0)), .t (.v (.slice none 0 0)), .t (.v (.slice none 0 0)), .t (.v (.slice none 0 0)), .t (.v (.int .i64 0)), .t (.v (.string ⟨#[]⟩)), .t (.v (.string ⟨#[]⟩)), .t (.v (.int .i64 0)), .t (.v (.int .i64 0)), .t (.v (.int .i64 0)), .t (.v (.string ⟨#[]⟩)), .t (.v (.slice none 0 0)), .t (.v (.slice none 0 0)), .t (.v (.slice none 0 0)), .t (.v (.int .i64 0)), .t (.v (.string ⟨#[]⟩))])], (upd (upd H ka (some (.tip 25 1 za.length))) kb (some (.tip 114 3 zb.length)))⟩) (fun j => s0[i].fks.length - j) 0 ⟨_, Wk.keep 87 [(0, .c (scC z s0)), (4, .lp 4 0), (5, .lp 5 0), (6, .lp 6 0), (8, iX .i64 ((((0 : Nat)) : Nat) : Int))] [(4, .box [.t (.v (.int .i64 0)), .t (.v (.string ⟨#[]⟩)), .t (.v (.slice none 0 0)), .t (.v (.slice none 0 0)), .t (.v (.slice none 0 0)), .t (.v (.slice none 0 0)), .t (.v (.slice none 0 0)), .t (.v (.slice none 0 0)), .t (.v (.slice none 0 0)), .t (.v (.slice none 0 0)), .t (.v (.int .i64 0)), .t (.v (.string ⟨#[]⟩)), .t (.v (.string ⟨#[]⟩)), .t (.v (.int .i64 0)), .t (.v (.int .i64 0)), .t (.v (.int .i64 0)), .t (.v (.string ⟨#[]⟩)), .t (.v (.slice none 0 0)), .t (.v (.slice none 0 0)), .t (.v (.slice none 0 0)), .t (.v (.int .i64 0)), .t (.v (.string ⟨#[]⟩))]), (5, .box (zTb s0[i])), (6, .box [.t (.v (.int .i64 1)), .t (.v (.string s0[i].nm)), .t (.sl .un 6 (s0[i].cols.map coT)), .ts ka .ne 1 za, .ts (k0) .ne 3 ([]), .t (.sl .un 8 (s0[i].chks.map exT')), .t (.v (.slice none 0 0)), .t (.v (.slice none 0 0)), .t (.v (.slice none 0 0)), .t (.v (.slice none 0 0)), .t (.v (.int .i64 0)), .t (.v (.string ⟨#[]⟩)), .t (.v (.string ⟨#[]⟩)), .t (.v (.int .i64 0)), .t (.v (.int .i64 0)), .t (.v (.int .i64 0)), .t (.v (.string ⟨#[]⟩)), .t (.v (.slice none 0 0)), .t (.v (.slice none 0 0)), .t (.v (.slice none 0 0)), .t (.v (.int .i64 0)), .t (.v (.string ⟨#[]⟩))])] ((upd (upd H ka (some (.tip 25 1 za.length))) (k0) (some (.tip 114 3 ([]).length)))) rfl ⟨rfl, rfl, rfl, rfl, rfl, trivial⟩ ⟨rfl, rfl, rfl, trivial⟩ (fun _ _ h => h) rfl, k0, [], ⟨Nat.zero_le _, hk0, rfl⟩, rfl⟩ (fun j s hs => ?_)
 obtain ⟨kb, zb, ⟨hj0, hkb, hzb⟩, rfl⟩ := hs
 refine AW.seq (sR (sM ?_))
 refine Z1 Fx.fl64_3 ?_
 refine Z0 Fx.ty62 ?_
 refine Z14 Fx.un62 ?_
 refine Z10 ?_
 refine Z3 ?_
 refine AW.condD rfl ?_ ?_ <;> intro h51
 ·
  have hj : j < s0[i].fks.length := by rw [List.length_map] at h51; omega
  obtain ⟨p1, p2, p3⟩ := hti.2 j hj
  have q5 := ho.fksl _ hm _ (List.getElem_mem hj)
  have hu : s0[i].fks[j].tab.toNat < s0.length := by omega
  have eu := tbAt_get hu
  have hum : (tbAt s0 s0[i].fks[j].tab) ∈ s0 := by rw [eu]; exact List.getElem_mem _
  have hkk : s0[i].fks[j].key.toNat < (tbAt s0 s0[i].fks[j].tab).keys.length := by omega
  have hidx : (s0.map tbT)[s0[i].fks[j].tab.toNat]? = some (tbT (tbAt s0 s0[i].fks[j].tab)) := by rw [List.getElem?_map, List.getElem?_eq_getElem hu, ← eu]; rfl
  have hui : insP (tbAt s0 s0[i].fks[j].tab) (tbAt s0 s0[i].fks[j].tab).keys[s0[i].fks[j].key.toNat] := by
   have h9 := (hv _ hu).1
   rw [← eu] at h9
   exact h9 _ hkk
  have hkd : (tbAt s0 s0[i].fks[j].tab).keys.getD s0[i].fks[j].key.toNat [] = (tbAt s0 s0[i].fks[j].tab).keys[s0[i].fks[j].key.toNat] := by rw [List.getD_eq_getElem?_getD, List.getElem?_eq_getElem hkk]; rfl
  have q6 := ho.keysl _ hum _ (List.getElem_mem hkk)
  refine AW.skip (AW.seq (AW.block (sR (Z1 Fx.fl64_3 ?_))))
  refine Z0 Fx.ty62 ?_
  refine sM ?_
  refine Z9 Fx.sl62 (idx_map (f := fkT) hj) ?_
  refine Z11 (.g [_, _, _]) Fx.ty88 ?_
  refine Z25 (r := [_, _, _]) Fx.ze88 ?_
  refine Z15 (r := [_, _, _]) Fx.ty88 ?_
  refine Z3 (sR (sM ?_))
  refine Z1 Fx.fl88_1 ?_
  refine Z0 Fx.ty3 ?_
  refine Z9 Fx.sl23 (hidx) ?_
  refine Z11 (.g [_, _, _, _, _]) Fx.ty64 ?_
  refine Z25 (r := [_, _, _, _, _]) Fx.ze64 ?_
  refine Z15 (r := [_, _, _, _, _]) Fx.ty64 ?_
  refine Z3 ?_
  refine AW.drawO [0, 1, 2, 3, 4, 5, 6, 7, 8, 9, 10, 11, 12, 13, 14, 15, 16, 17, 18, 19, 20, 21, 22] Fx.mo (by kernel_rfl) ?_
  refine Z32 Fx.fl47_2 ?_
  refine Z32 Fx.fl40_2 ?_
  refine Z40 Fx.ty38 ?_
  refine LexO.r rfl (by kernel_rfl) (b_load (r := .g [_, _, _, _, _]) rfl Fx.ty64 rfl rfl rfl rfl rfl rfl) rfl ?_
  refine Z32 Fx.fl88_0 ?_
  refine Z40 Fx.ty24 ?_
  refine LexO.q rfl (by kernel_rfl) (q_call _ rfl Fx.fn50 rfl (names_any s0[i] s0[i].fks[j].cols .un (by omega) p1 q1) rfl) rfl rfl rfl ?_
  refine Z32 Fx.fl64_0 ?_
  refine Z40 Fx.ty9 ?_
  refine LexO.r rfl (by kernel_rfl) (b_load (r := .g [_, _, _, _, _]) rfl Fx.ty64 rfl rfl rfl rfl rfl rfl) rfl ?_
  refine Z32 Fx.fl64_2 ?_
  refine Z40 Fx.ty61 ?_
  refine Z32 Fx.fl88_2 ?_
  refine Z40 Fx.ty3 ?_
  refine LexO.q rfl (by kernel_rfl) (q_index _ rfl Fx.sl61 rfl rfl (by omega) (idx_map (f := iLT) hkk)) rfl rfl rfl ?_
  refine LexO.q rfl (by kernel_rfl) (q_load (.a _) rfl Fx.ty24 rfl rfl rfl) rfl rfl rfl ?_
  refine LexO.q rfl (by kernel_rfl) (q_call _ rfl Fx.fn50 rfl (names_any (tbAt s0 s0[i].fks[j].tab) (tbAt s0 s0[i].fks[j].tab).keys[s0[i].fks[j].key.toNat] .un (by omega) hui (ho.cols _ hum)) rfl) rfl rfl rfl ?_
  refine LexO.q rfl (by kernel_rfl) (q_build2 (zs := [_, _, _]) (r := [_, _, _]) [(0, 1), (1, 1), (2, 1)] _ rfl Fx.ze114 rfl Fx.bp114 rfl rfl rfl rfl) rfl rfl rfl ?_
  refine LexO.q rfl (by kernel_rfl) (q_buildSlice _ rfl Fx.el38 rfl (by decide) rfl) rfl rfl rfl ?_
  refine LexO.app1 rfl (by kernel_rfl) (by kernel_rfl) (by kernel_rfl) rfl (hkb) rfl Fx.el38 rfl rfl (by simp [hzb]; omega) rfl rfl (fun k83 hk83 => ?_)
  refine Z32 Fx.fl47_2 ?_
  refine Z32 Fx.fl40_2 ?_
  refine LexO.r rfl (by kernel_rfl) (b_store (r := [_, _, _, _, _, _, _, _, _, _, _, _, _, _, _, _, _, _, _, _, _, _]) rfl rfl Fx.ty38 rfl rfl rfl rfl rfl rfl) rfl ?_
  refine LexO.nil (by kernel_rfl) ?_
  refine AW.reg (sM ?_)
  refine Z2 ?_
  refine sB ?_
  exact ⟨j + 1, _, by exact Wk.keep 87 _ _ _ rfl ⟨rfl, rfl, rfl, rfl, rfl, trivial⟩ ⟨rfl, rfl, rfl, trivial⟩ (fun _ _ h => h) rfl, by omega, k83, zb ++ [rfT ⟨nmsOf s0[i] s0[i].fks[j].cols, (tbAt s0 s0[i].fks[j].tab).nm, nmsOf (tbAt s0 s0[i].fks[j].tab) (tbAt s0 s0[i].fks[j].tab).keys[s0[i].fks[j].key.toNat]⟩], ⟨hj, hk83, by rw [hzb, take_put hj, List.map_append, List.map_append, List.map_singleton, List.map_singleton, rfOf, hkd]⟩, rfl⟩
 refine AW.exit ?_
 refine eth_e ?_
 refine eth_e ?_
 refine exit_here ?_
 refine AW.seq ?_
 obtain rfl : j = s0[i].fks.length := by rw [List.length_map] at h51; omega
 rw [List.take_length] at hzb
 refine AW.reg (Z12 (r := .g [_, _, _, _, _, _, _, _, _, _, _, _, _, _, _, _, _, _, _, _, _, _]) Fx.ty47 ?_)
 refine SeqK.xw 86 rfl (XW.g (.cons XW.reA (.cons XW.reA (.cons XW.reA (.cons (XW.ts.trans (XW.es hza)) (.cons (XW.ts.trans (XW.es hzb)) XWs.re)))))) ?_
 refine Z15 (r := [_, _, _, _, _, _, _, _, _, _, _, _, _, _, _, _, _, _, _, _, _, _]) Fx.ty47 ?_
 refine Z3 (AW.ret ?_)
 exact fin_x (x := .c _) (H) (.cellL rfl rfl Fx.ty47 rfl rfl .nil) rfl ((fun j o h => upd_sub hkb j o (upd_sub hka j o h))) (⟨rfl, rfl⟩)

end Go.Proofs.YtihlgigaejhilaaGreatDoor.W
namespace Go.Proofs.YtihlgigaejhilaaGreatDoor.W
open Go.RowKit E
def stE (i : Nat) (s : List Tb) (d : Df) : Int := if d.k ≠ 1 then 1 else if 8 ≤ i ∨ 8 < d.cols.length ∨ 4 < d.keys.length ∨ 4 < d.fks.length ∨ 4 < d.chks.length then 3 else if ¬ gdP d then 1 else if ¬ nwP s d then 5 else 0
/-- the schema of statements, or the place of the first wrong one and its error -/
def bld : List Df → Nat → List Tb → List Tb × Int × Int
  | [], _, s => (s, 0, 0)
  | d :: r, i, s => if stE i s d ≠ 0 then ([], (i : Int), stE i s d) else if (tbX s d).2 ≠ 0 then ([], (i : Int), (tbX s d).2) else bld r (i + 1) (s ++ [(tbX s d).1])
theorem bld_err {l : List Df} {i : Nat} {s : List Tb} {e : Int} (hi : i < l.length) (h : stE i s l[i] = e) (he : e ≠ 0) : bld (l.drop i) i s = ([], (i : Int), e) := by
  rw [List.drop_eq_getElem_cons hi, bld, h, if_pos he]
theorem bld_tab {l : List Df} {i : Nat} {s : List Tb} (hi : i < l.length) (h : stE i s l[i] = 0) (h2 : (tbX s l[i]).2 ≠ 0) : bld (l.drop i) i s = ([], (i : Int), (tbX s l[i]).2) := by
  rw [List.drop_eq_getElem_cons hi, bld, if_neg (by rw [h]; simp), if_pos h2]
theorem bld_go {l : List Df} {i : Nat} {s : List Tb} (hi : i < l.length) (h : stE i s l[i] = 0) (h2 : (tbX s l[i]).2 = 0) : bld (l.drop i) i s = bld (l.drop (i + 1)) (i + 1) (s ++ [(tbX s l[i]).1]) := by
  rw [List.drop_eq_getElem_cons hi, bld, if_neg (by rw [h]; simp), if_neg (by rw [h2]; simp)]
theorem b3e {s : List Tb} {a b : Int} {p : List Tb × Int × Int} (h : p = (s, a, b)) : X.tup [scC .un s, iC a, iC b] = .tup [scC .un p.1, iC p.2.1, iC p.2.2] := by rw [h]
theorem tbX_1 (s : List Tb) (d : Df) : (tbX s d).1 = tbR s d ∨ (tbX s d).1 = tb0 := by
  unfold tbX; split
  · split
    · exact .inl rfl
    · exact .inr rfl
  · exact .inr rfl
theorem okS_add {s : List Tb} {d : Df} (h : okS s) (hl : s.length < 1000) (hk : okD d) (hc : d.cols.length ≤ 17592186044000) (hkl : d.keys.length ≤ 17592186044000) : okS (s ++ [(tbX s d).1]) := by
  refine ⟨by rw [List.length_append]; simp; omega, fun t ht => ?_, fun t ht => ?_, fun t ht => ?_⟩
  · rcases List.mem_append.1 ht with h1 | h1
    · exact h.cols t h1
    · rw [List.mem_singleton.1 h1]
      rcases tbX_1 s d with e | e <;> rw [e]
      · exact hc
      · simp
  · rcases List.mem_append.1 ht with h1 | h1
    · exact h.keys t h1
    · rw [List.mem_singleton.1 h1]
      rcases tbX_1 s d with e | e <;> rw [e]
      · show (List.map _ _).length ≤ _; rw [List.length_map]; exact hkl
      · simp
  · rcases List.mem_append.1 ht with h1 | h1
    · exact h.keysl t h1
    · rw [List.mem_singleton.1 h1]
      rcases tbX_1 s d with e | e <;> rw [e]
      · intro k hk2
        obtain ⟨y, hy, rfl⟩ := List.mem_map.1 hk2
        have k1 := nbT_len (cs := d.cols) (l := y)
        have k2 := hk.keysl y hy
        omega
      · intro k hk2; cases hk2

set_option maxHeartbeats 16000000 in
set_option maxRecDepth 20000 in
theorem build_any (l : List Df) (z : Nz) (hl : l.length ≤ 17592186044000) (hok : ∀ d ∈ l, okD d) : Pure Tryz.prog 31 [.a (.t (.sl z 22 (l.map dfT)))] (.tup [scC .un (bld l 0 []).1, iC (bld l 0 []).2.1, iC (bld l 0 []).2.2]) := by
 intro H
 refine Spec.enter Tryz.func31 rfl ?_
 refine AW.wk (Wk.keep 91 [(0, .c (.a (.t (.sl z 22 (l.map dfT)))))] [] (H) rfl ⟨rfl, trivial⟩ trivial (fun _ _ h => h) rfl) ?_
 refine sR (sA ?_)
 refine sA ?_
 refine sB ?_
 refine sR (sB ?_)
 refine AW.seq (sR (sB ?_))
 refine AW.block ?_
 refine AW.tip 5 64 5 rfl (fun k0 hk0 => ?_)
 refine AW.loop (fun (i : Nat) s => ∃ (kt : Nat) (zs : List (List E.T)) (s1 : List Tb), (i ≤ l.length ∧ H kt = none ∧ zs = s1.map tbT ∧ (s1.length = i ∧ i ≤ 8) ∧ okS s1 ∧ bld (l.drop i) i s1 = bld l 0 []) ∧ s = ⟨91, sp [(0, .c (.a (.t (.sl z 22 (l.map dfT))))), (5, .c (.a (.ts kt .ne 5 zs))), (6, iX .i64 ((i : Nat) : Int))], lv [], upd H kt (some (.tip 64 5 zs.length))⟩) (fun i => l.length - i) 0 ⟨_, by exact Wk.keep 91 _ _ _ rfl ⟨rfl, rfl, rfl, trivial⟩ trivial (fun _ _ h => h) rfl, k0, [], [], ⟨Nat.zero_le _, hk0, rfl, ⟨rfl, by omega⟩, ⟨by simp, by simp, by simp, by simp⟩, rfl⟩, rfl⟩ (fun i s hs => ?_)
 obtain ⟨kt, zs, s1, ⟨hi0, hkt, hzs, ⟨hsl, hi8⟩, hs, hI⟩, rfl⟩ := hs
 refine AW.seq (sR (sM ?_))
 refine sM ?_
 refine Z14 Fx.un85 ?_
 refine Z10 ?_
 refine Z3 ?_
 refine AW.condD rfl ?_ ?_ <;> intro h14
 ·
  have hi : i < l.length := by rw [List.length_map] at h14; omega
  have hk := hok _ (List.getElem_mem hi)
  refine AW.skip (AW.seq (AW.block (sR (sM ?_))))
  refine sM ?_
  refine Z9 Fx.sl85 (idx_map (f := dfT) hi) ?_
  refine SeqK.q (q_fieldP _ rfl Fx.fl47_2 rfl rfl) rfl rfl rfl ?_
  refine Z11 (.g [_, _, _, _]) Fx.ty40 ?_
  refine Z25 (r := [_, _, _, _]) Fx.ze40 ?_
  refine Z15 (r := [_, _, _, _]) Fx.ty40 ?_
  refine Z3 (sR (sB ?_))
  refine AW.seq (AW.block (sR (sM ?_)))
  refine sM ?_
  refine Z9 Fx.sl85 (idx_map (f := dfT) hi) ?_
  refine SeqK.q (q_fieldP _ rfl Fx.fl47_0 rfl rfl) rfl rfl rfl ?_
  refine Z11 (.a _) Fx.ty3 ?_
  refine Z49 ?_
  refine sB ?_
  refine AW.condD rfl ?_ ?_ <;> intro h22
  ·
   refine AW.reg (sB ?_)
   refine AW.seq (sR (sM ?_))
   refine Z49 ?_
   refine Z3 ?_
   refine AW.condD rfl ?_ ?_ <;> intro h70
   ·
    refine sR (sM ?_)
    refine sM ?_
    refine sA ?_
    refine sA ?_
    refine sB ?_
    refine AW.xw 2 rfl (XW.nilU (sz := 5)) ?_
    refine AW.ret ?_
    exact fin_x (x := .tup [_, _, _]) (H) (.tmp rfl (.tmp rfl (.tmp rfl .nil))) rfl ((fun j o h => upd_sub hkt j o h)) (⟨b3e (hI.symm.trans (bld_err hi (by rw [stE, if_pos h22]) (by decide))), rfl⟩)
   exact absurd (by decide) h70
  refine sR (sM ?_)
  refine SeqK.q (q_geq rfl rfl rfl) rfl rfl rfl ?_
  refine Z19 (fun g32 => ?_) (fun g32 => ?_)
  ·
   iterate 4 refine SeqK.off rfl rfl rfl rfl rfl rfl ?_
   refine Z4 ?_
   refine sM ?_
   iterate 4 refine SeqK.off rfl rfl rfl rfl rfl rfl ?_
   refine Z4 ?_
   refine sM ?_
   iterate 4 refine SeqK.off rfl rfl rfl rfl rfl rfl ?_
   refine Z4 ?_
   refine sM ?_
   iterate 4 refine SeqK.off rfl rfl rfl rfl rfl rfl ?_
   refine Z4 ?_
   refine sB ?_
   refine AW.condT rfl ?_
   refine AW.reg (sB ?_)
   refine AW.seq (sR (sM ?_))
   refine Z49 ?_
   refine Z3 ?_
   refine AW.condD rfl ?_ ?_ <;> intro h70
   ·
    refine sR (sM ?_)
    refine sM ?_
    refine sA ?_
    refine sA ?_
    refine sB ?_
    refine AW.xw 2 rfl (XW.nilU (sz := 5)) ?_
    refine AW.ret ?_
    exact fin_x (x := .tup [_, _, _]) (H) (.tmp rfl (.tmp rfl (.tmp rfl .nil))) rfl ((fun j o h => upd_sub hkt j o h)) (⟨b3e (hI.symm.trans (bld_err hi (by rw [stE, if_neg h22, if_pos (by simp only [List.length_map] at *; omega)]) (by decide))), rfl⟩)
   exact absurd (by decide) h70
  refine Z6 Fx.fl40_0 ?_
  refine Z5 Fx.ty36 ?_
  refine Z28 Fx.un36 ?_
  refine Z35 ?_
  refine Z7 ?_
  refine Z19 (fun g38 => ?_) (fun g38 => ?_)
  ·
   iterate 4 refine SeqK.off rfl rfl rfl rfl rfl rfl ?_
   refine Z4 ?_
   refine sM ?_
   iterate 4 refine SeqK.off rfl rfl rfl rfl rfl rfl ?_
   refine Z4 ?_
   refine sM ?_
   iterate 4 refine SeqK.off rfl rfl rfl rfl rfl rfl ?_
   refine Z4 ?_
   refine sB ?_
   refine AW.condT rfl ?_
   refine AW.reg (sB ?_)
   refine AW.seq (sR (sM ?_))
   refine Z49 ?_
   refine Z3 ?_
   refine AW.condD rfl ?_ ?_ <;> intro h70
   ·
    refine sR (sM ?_)
    refine sM ?_
    refine sA ?_
    refine sA ?_
    refine sB ?_
    refine AW.xw 2 rfl (XW.nilU (sz := 5)) ?_
    refine AW.ret ?_
    exact fin_x (x := .tup [_, _, _]) (H) (.tmp rfl (.tmp rfl (.tmp rfl .nil))) rfl ((fun j o h => upd_sub hkt j o h)) (⟨b3e (hI.symm.trans (bld_err hi (by rw [stE, if_neg h22, if_pos (by simp only [List.length_map] at *; omega)]) (by decide))), rfl⟩)
   exact absurd (by decide) h70
  refine Z6 Fx.fl40_1 ?_
  refine Z5 Fx.ty37 ?_
  refine Z28 Fx.un37 ?_
  refine Z35 ?_
  refine Z7 ?_
  refine Z19 (fun g44 => ?_) (fun g44 => ?_)
  ·
   iterate 4 refine SeqK.off rfl rfl rfl rfl rfl rfl ?_
   refine Z4 ?_
   refine sM ?_
   iterate 4 refine SeqK.off rfl rfl rfl rfl rfl rfl ?_
   refine Z4 ?_
   refine sB ?_
   refine AW.condT rfl ?_
   refine AW.reg (sB ?_)
   refine AW.seq (sR (sM ?_))
   refine Z49 ?_
   refine Z3 ?_
   refine AW.condD rfl ?_ ?_ <;> intro h70
   ·
    refine sR (sM ?_)
    refine sM ?_
    refine sA ?_
    refine sA ?_
    refine sB ?_
    refine AW.xw 2 rfl (XW.nilU (sz := 5)) ?_
    refine AW.ret ?_
    exact fin_x (x := .tup [_, _, _]) (H) (.tmp rfl (.tmp rfl (.tmp rfl .nil))) rfl ((fun j o h => upd_sub hkt j o h)) (⟨b3e (hI.symm.trans (bld_err hi (by rw [stE, if_neg h22, if_pos (by simp only [List.length_map] at *; omega)]) (by decide))), rfl⟩)
   exact absurd (by decide) h70
  refine Z6 Fx.fl40_2 ?_
  refine Z5 Fx.ty38 ?_
  refine Z28 Fx.un38 ?_
  refine Z35 ?_
  refine Z7 ?_
  refine Z19 (fun g50 => ?_) (fun g50 => ?_)
  ·
   iterate 4 refine SeqK.off rfl rfl rfl rfl rfl rfl ?_
   refine Z4 ?_
   refine sB ?_
   refine AW.condT rfl ?_
   refine AW.reg (sB ?_)
   refine AW.seq (sR (sM ?_))
   refine Z49 ?_
   refine Z3 ?_
   refine AW.condD rfl ?_ ?_ <;> intro h70
   ·
    refine sR (sM ?_)
    refine sM ?_
    refine sA ?_
    refine sA ?_
    refine sB ?_
    refine AW.xw 2 rfl (XW.nilU (sz := 5)) ?_
    refine AW.ret ?_
    exact fin_x (x := .tup [_, _, _]) (H) (.tmp rfl (.tmp rfl (.tmp rfl .nil))) rfl ((fun j o h => upd_sub hkt j o h)) (⟨b3e (hI.symm.trans (bld_err hi (by rw [stE, if_neg h22, if_pos (by simp only [List.length_map] at *; omega)]) (by decide))), rfl⟩)
   exact absurd (by decide) h70
  refine Z6 Fx.fl40_3 ?_
  refine Z5 Fx.ty28 ?_
  refine Z28 Fx.un28 ?_
  refine Z35 ?_
  refine Z7 ?_
  refine sB ?_
  refine AW.condD rfl ?_ ?_ <;> intro h29
  ·
   refine AW.reg (sB ?_)
   refine AW.seq (sR (sM ?_))
   refine Z49 ?_
   refine Z3 ?_
   refine AW.condD rfl ?_ ?_ <;> intro h70
   ·
    refine sR (sM ?_)
    refine sM ?_
    refine sA ?_
    refine sA ?_
    refine sB ?_
    refine AW.xw 2 rfl (XW.nilU (sz := 5)) ?_
    refine AW.ret ?_
    exact fin_x (x := .tup [_, _, _]) (H) (.tmp rfl (.tmp rfl (.tmp rfl .nil))) rfl ((fun j o h => upd_sub hkt j o h)) (⟨b3e (hI.symm.trans (bld_err hi (by rw [stE, if_neg h22, if_pos (by simp only [List.length_map] at *; omega)]) (by decide))), rfl⟩)
   exact absurd (by decide) h70
  refine AW.seq ?_
  have hn3 : ¬ (8 ≤ i ∨ 8 < l[i].cols.length ∨ 4 < l[i].keys.length ∨ 4 < l[i].fks.length ∨ 4 < l[i].chks.length) := by simp only [List.length_map] at *; omega
  refine AW.reg (sM ?_)
  refine sM ?_
  refine Z9 Fx.sl85 (idx_map (f := dfT) hi) ?_
  refine Z11 (.g [_, _, _, _, _, _, _, _, _, _, _, _, _, _, _, _, _, _, _, _, _, _]) Fx.ty47 ?_
  refine Z22 Fx.fn51 (invalid_any l[i] hk) ?_
  refine sB ?_
  refine AW.cond _ rfl (fun h56 => ?_) (fun h56 => ?_)
  ·
   have hgd : ¬ gdP l[i] := of_decide_eq_true h56
   refine AW.reg (sB ?_)
   refine AW.seq (sR (sM ?_))
   refine Z49 ?_
   refine Z3 ?_
   refine AW.condD rfl ?_ ?_ <;> intro h70
   ·
    refine sR (sM ?_)
    refine sM ?_
    refine sA ?_
    refine sA ?_
    refine sB ?_
    refine AW.xw 2 rfl (XW.nilU (sz := 5)) ?_
    refine AW.ret ?_
    exact fin_x (x := .tup [_, _, _]) (H) (.tmp rfl (.tmp rfl (.tmp rfl .nil))) rfl ((fun j o h => upd_sub hkt j o h)) (⟨b3e (hI.symm.trans (bld_err hi (by rw [stE, if_neg h22, if_neg hn3, if_pos hgd]) (by decide))), rfl⟩)
   exact absurd (by decide) h70
  have hgd : gdP l[i] := Classical.not_not.1 (of_decide_eq_false h56)
  refine sR (sM ?_)
  refine SeqK.xw 63 rfl (XW.ts.trans (XW.es hzs)) ?_
  refine sM ?_
  refine sM ?_
  refine Z9 Fx.sl85 (idx_map (f := dfT) hi) ?_
  refine Z11 (.g [_, _, _, _, _, _, _, _, _, _, _, _, _, _, _, _, _, _, _, _, _, _]) Fx.ty47 ?_
  refine SeqK.q (q_call _ rfl Fx.fn52 rfl (exists_any s1 .un l[i] (by omega) hk (by omega)) rfl) rfl rfl rfl ?_
  refine sB ?_
  refine AW.cond _ rfl (fun h62 => ?_) (fun h62 => ?_)
  ·
   have hnw : ¬ nwP s1 l[i] := of_decide_eq_true h62
   refine AW.reg (sB ?_)
   refine AW.seq (sR (sM ?_))
   refine Z49 ?_
   refine Z3 ?_
   refine AW.condD rfl ?_ ?_ <;> intro h70
   ·
    refine sR (sM ?_)
    refine sM ?_
    refine sA ?_
    refine sA ?_
    refine sB ?_
    refine AW.xw 2 rfl (XW.nilU (sz := 5)) ?_
    refine AW.ret ?_
    exact fin_x (x := .tup [_, _, _]) (H) (.tmp rfl (.tmp rfl (.tmp rfl .nil))) rfl ((fun j o h => upd_sub hkt j o h)) (⟨b3e (hI.symm.trans (bld_err hi (by rw [stE, if_neg h22, if_neg hn3, if_neg (fun h => h hgd), if_pos hnw]) (by decide))), rfl⟩)
   exact absurd (by decide) h70
  have hnw : nwP s1 l[i] := Classical.not_not.1 (of_decide_eq_false h62)
  refine AW.skip (AW.seq (sR (sM ?_)))
  refine Z49 ?_
  refine Z3 ?_
  refine AW.condD rfl ?_ ?_ <;> intro h70
  ·
   exact absurd rfl h70
  refine AW.skip (AW.seq ?_)
  have hst : stE i s1 l[i] = 0 := by rw [stE, if_neg h22, if_neg hn3, if_neg (fun h => h hgd), if_neg (fun h => h hnw)]
  have hg : ∀ f ∈ l[i].fks, f.cols.length = f.tgt.length := fun f hf => by obtain ⟨j, hj, rfl⟩ := List.mem_iff_getElem.1 hf; exact (hgd.2.2.2 j hj).2
  refine AW.reg (sM ?_)
  refine SeqK.xw 74 rfl (XW.ts.trans (XW.es hzs)) ?_
  refine sM ?_
  refine sM ?_
  refine Z9 Fx.sl85 (idx_map (f := dfT) hi) ?_
  refine Z11 (.g [_, _, _, _, _, _, _, _, _, _, _, _, _, _, _, _, _, _, _, _, _, _]) Fx.ty47 ?_
  refine SeqK.q (q_call _ rfl Fx.fn53 rfl (table_any s1 .un l[i] hs hk (by omega) (by omega) (by omega) hg) rfl) rfl rfl rfl ?_
  refine SeqK.q (q_mvT rfl rfl) rfl rfl rfl ?_
  refine Z47 ?_
  refine Z47 ?_
  refine Z25 (r := [_, _, _, _, _]) Fx.ze64 ?_
  refine Z15 (r := [_, _, _, _, _]) Fx.ty64 ?_
  refine sB ?_
  refine AW.seq (sR (sM ?_))
  refine Z49 ?_
  refine Z3 ?_
  refine AW.condD rfl ?_ ?_ <;> intro h83
  ·
   refine sR (sM ?_)
   refine sM ?_
   refine sA ?_
   refine sA ?_
   refine sB ?_
   refine AW.xw 2 rfl (XW.nilU (sz := 5)) ?_
   refine AW.ret ?_
   exact fin_x (x := .tup [_, _, _]) (H) (.tmp rfl (.tmp rfl (.tmp rfl .nil))) rfl ((fun j o h => upd_sub hkt j o h)) (⟨b3e (hI.symm.trans (bld_tab hi hst h83)), rfl⟩)
  refine AW.skip (AW.reg (sM ?_))
  refine Z12 (r := .g [_, _, _, _, _]) Fx.ty64 ?_
  refine Z38 Fx.el23 ?_
  refine SeqK.app1 rfl (hkt) rfl Fx.el23 rfl rfl (by have := congrArg List.length hzs; rw [List.length_map] at this; simp; omega) rfl rfl (fun k89 hk89 => ?_)
  refine sB ?_
  refine AW.reg (sM ?_)
  refine Z2 ?_
  refine sB ?_
  exact ⟨i + 1, _, by exact Wk.keep 91 _ _ _ rfl ⟨rfl, rfl, rfl, trivial⟩ trivial (fun _ _ h => h) rfl, by omega, k89, zs ++ [tbT (tbX s1 l[i]).1], s1 ++ [(tbX s1 l[i]).1], ⟨hi, hk89, by rw [hzs, List.map_append]; rfl, ⟨by rw [List.length_append, hsl]; rfl, by omega⟩, okS_add hs (by omega) hk (by omega) (by omega), by rw [← hI, bld_go hi hst (Classical.not_not.1 h83)]⟩, rfl⟩
 refine AW.exit ?_
 refine eth_e ?_
 refine eth_e ?_
 refine exit_here ?_
 refine AW.seq ?_
 obtain rfl : i = l.length := by rw [List.length_map] at h14; omega
 refine AW.xw 5 rfl (XW.ts.trans (XW.es hzs)) ?_
 refine AW.reg (sM ?_)
 refine sA ?_
 refine sA ?_
 refine sB ?_
 refine AW.ret ?_
 exact fin_x (x := .tup [_, _, _]) (H) (.tmp rfl (.tmp rfl (.tmp rfl .nil))) rfl ((fun j o h => upd_sub hkt j o h)) (⟨b3e (by rw [← hI, List.drop_length, bld]), rfl⟩)

abbrev dfsOf (s : List Tb) : List Df := s.map (dfOf s)
abbrev vldS (s : List Tb) : Prop := vP s ∧ (bld (dfsOf s) 0 []).2.2 = 0

end Go.Proofs.YtihlgigaejhilaaGreatDoor.W
