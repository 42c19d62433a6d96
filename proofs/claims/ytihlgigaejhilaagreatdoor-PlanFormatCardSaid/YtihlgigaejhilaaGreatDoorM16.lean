/- Parts of the proof, one after the other: W12, W13, W14, W15, W16, W17. No condition. -/
import Derived.Test.YtihlgigaejhilaaGreatDoorM15
set_option linter.unusedSectionVars false
set_option linter.unusedSimpArgs false
set_option linter.unusedVariables false
namespace Go.Proofs.YtihlgigaejhilaaGreatDoor.W
open Go.RowKit E
theorem okV_of {s : List Tb} (h : ssP s) (ho : ∀ t ∈ s, okT t) : okV s := by
  have at_ : ∀ t ∈ s, ssD t := fun t ht => by obtain ⟨j, hj, rfl⟩ := List.mem_iff_getElem.1 ht; exact h.1 j hj
  refine ⟨fun t ht => (ho t ht).cols, fun t ht => by have := (at_ t ht).1.1; omega, fun t ht k hk => ?_, fun t ht => by have := (at_ t ht).1.2.1; omega, fun t ht f hf => ?_⟩
  · obtain ⟨j, hj, rfl⟩ := List.mem_iff_getElem.1 hk
    have := ((at_ t ht).2.1 j hj).2.1; omega
  · obtain ⟨j, hj, rfl⟩ := List.mem_iff_getElem.1 hf
    have := ((at_ t ht).2.2 j hj).2.1; omega
theorem colAt_size {t : Tb} (h : okT t) (v : Int) : (colAt t v).nm.size ≤ 1000000000000000 := by
  unfold colAt
  rw [List.getD_eq_getElem?_getD]
  by_cases hv : v.toNat < t.cols.length
  · rw [List.getElem?_eq_getElem hv]; exact h.colsn _ (List.getElem_mem hv)
  · rw [List.getElem?_eq_none (by omega)]; show (0 : Nat) ≤ _; omega
theorem tbAt_ok {s : List Tb} (ho : ∀ t ∈ s, okT t) (v : Int) : okT (tbAt s v) := by
  unfold tbAt
  rw [List.getD_eq_getElem?_getD]
  by_cases hv : v.toNat < s.length
  · rw [List.getElem?_eq_getElem hv]; exact ho _ (List.getElem_mem hv)
  · rw [List.getElem?_eq_none (by omega)]
    exact ⟨by show (0 : Nat) ≤ _; omega, by simp, by simp, by simp, by simp, by simp, by simp, by simp, by simp⟩
theorem tbAt_v {s : List Tb} (hv : okV s) (v : Int) : ∀ k ∈ (tbAt s v).keys, k.length ≤ 1000 := by
  unfold tbAt
  rw [List.getD_eq_getElem?_getD]
  by_cases h : v.toNat < s.length
  · rw [List.getElem?_eq_getElem h]; exact hv.keysl _ (List.getElem_mem h)
  · rw [List.getElem?_eq_none (by omega)]; simp
theorem okD_df {s : List Tb} (hv : okV s) (ho : ∀ t ∈ s, okT t) {t : Tb} (ht : t ∈ s) : okD (dfOf s t) := by
  have h := ho t ht
  refine ⟨h.nm, h.cols, h.colsn, by show (List.map _ _).length ≤ _; rw [List.length_map]; have := hv.keys t ht; omega, fun k hk => ?_, fun k hk u hu => ?_, by show (List.map _ _).length ≤ _; rw [List.length_map]; have := hv.fks t ht; omega, fun f hf => ?_, fun f hf => ?_, h.chks, h.chkso⟩
  · obtain ⟨y, hy, rfl⟩ := List.mem_map.1 hk
    rw [List.length_map]; have := hv.keysl t ht y hy; omega
  · obtain ⟨y, hy, rfl⟩ := List.mem_map.1 hk
    obtain ⟨v, _, rfl⟩ := List.mem_map.1 hu
    exact colAt_size h v
  · obtain ⟨y, hy, rfl⟩ := List.mem_map.1 hf
    refine ⟨by show (List.map _ _).length ≤ _; rw [List.length_map]; have := hv.fksl t ht y hy; omega, ?_⟩
    show (List.map _ _).length ≤ _
    rw [List.length_map, List.getD_eq_getElem?_getD]
    by_cases hk : y.key.toNat < (tbAt s y.tab).keys.length
    · rw [List.getElem?_eq_getElem hk]; have := tbAt_v hv y.tab _ (List.getElem_mem hk); simp only [Option.getD_some]; omega
    · rw [List.getElem?_eq_none (by omega)]; simp
  · obtain ⟨y, hy, rfl⟩ := List.mem_map.1 hf
    exact (tbAt_ok ho y.tab).nm

set_option maxHeartbeats 16000000 in
set_option maxRecDepth 20000 in
theorem rvalid_any (d0 : List Tb) (z : Nz) (hl : d0.length ≤ 1000) (hss : ssP d0) (ho : ∀ t ∈ d0, okT t) : Pure Tryz.prog 11 [scC z d0] (.c (bC (decide (vldS d0)))) := by
 intro H
 refine Spec.enter Tryz.func11 rfl ?_
 refine AW.wk (Wk.keep 116 [(0, .c (scC z d0))] [] (H) rfl ⟨rfl, trivial⟩ trivial (fun _ _ h => h) rfl) ?_
 refine sR (sB ?_)
 refine AW.seq (AW.seq ?_)
 have hv0 := okV_of hss ho
 refine AW.reg (sB ?_)
 refine AW.block ?_
 refine AW.loop (fun (i : Nat) s => (i ≤ d0.length ∧ ∀ j (h : j < d0.length), j < i → tvP d0 j d0[j]) ∧ s = ⟨116, sp [(0, .c (scC z d0)), (2, .c (bC false)), (3, iX .i64 ((i : Nat) : Int))], lv [], H⟩) (fun i => d0.length - i) 0 ⟨_, by exact Wk.keep 116 _ _ _ rfl ⟨rfl, rfl, rfl, trivial⟩ trivial (fun _ _ h => h) rfl, ⟨Nat.zero_le _, up0⟩, rfl⟩ (fun i s hs => ?_)
 obtain ⟨⟨hi0, hU⟩, rfl⟩ := hs
 refine AW.seq (sR (sM ?_))
 refine sM ?_
 refine Z14 Fx.un23 ?_
 refine Z10 ?_
 refine Z3 ?_
 refine AW.condD rfl ?_ ?_ <;> intro h15
 ·
  have hi : i < d0.length := by rw [List.length_map] at h15; omega
  have hm := List.getElem_mem hi
  have kb1 := hv0.keys _ hm
  have kb2 := hv0.fks _ hm
  refine AW.skip (AW.seq (AW.block (AW.seq (sR (sB ?_)))))
  refine AW.block ?_
  refine AW.loop (fun (j : Nat) s => (j ≤ d0[i].keys.length ∧ ∀ k (h : k < d0[i].keys.length), k < j → insP d0[i] d0[i].keys[k]) ∧ s = ⟨116, sp [(0, .c (scC z d0)), (2, .c (bC false)), (3, iX .i64 ((i : Nat) : Int)), (4, iX .i64 ((j : Nat) : Int))], lv [], H⟩) (fun j => d0[i].keys.length - j) 0 ⟨_, by exact Wk.keep 116 _ _ _ rfl ⟨rfl, rfl, rfl, rfl, trivial⟩ trivial (fun _ _ h => h) rfl, ⟨Nat.zero_le _, up0⟩, rfl⟩ (fun j s hs => ?_)
  obtain ⟨⟨hj0, hU1⟩, rfl⟩ := hs
  refine AW.seq (sR (sM ?_))
  refine sM ?_
  refine sM ?_
  refine Z9 Fx.sl23 (idx_map (f := tbT) hi) ?_
  refine SeqK.q (q_fieldP _ rfl Fx.fl64_2 rfl rfl) rfl rfl rfl ?_
  refine Z11 (.a _) Fx.ty61 ?_
  refine Z14 Fx.un61 ?_
  refine Z10 ?_
  refine Z3 ?_
  refine AW.condD rfl ?_ ?_ <;> intro h25
  ·
   have hj : j < d0[i].keys.length := by rw [List.length_map] at h25; omega
   refine AW.skip (AW.seq (AW.block (AW.seq (AW.draw Fx.mo ?_))))
   refine Z18 ?_
   refine Z18 ?_
   refine Z27 Fx.sl23 (idx_map (f := tbT) hi) ?_
   refine Z26 (.g [_, _, _, _, _]) Fx.ty64 ?_
   refine Z18 ?_
   refine Z18 ?_
   refine Z27 Fx.sl23 (idx_map (f := tbT) hi) ?_
   refine LexK.q (q_fieldP _ rfl Fx.fl64_2 rfl rfl) rfl rfl rfl ?_
   refine Z26 (.a _) Fx.ty61 ?_
   refine Z18 ?_
   refine Z27 Fx.sl61 (idx_map (f := iLT) hj) ?_
   refine Z26 (.a _) Fx.ty24 ?_
   refine LexK.q (q_call _ rfl Fx.fn29 rfl (inside_any d0[i] _ .un (by first | (have := hv0.keysl _ hm _ (List.getElem_mem hj); omega) | (have := hv0.fksl _ hm _ (List.getElem_mem hj); omega))) rfl) rfl rfl rfl ?_
   refine LexK.q (q_not rfl rfl) rfl rfl rfl ?_
   refine Z30 ?_
   refine AW.cond _ rfl (fun h41 => ?_) (fun h41 => ?_)
   ·
    refine sR (sB ?_)
    refine AW.ret ?_
    exact f1 (q := ⟨bCe (dF (fun h => nd_t h41 ((h.1 i hi).1 j hj))), rfl⟩)
   refine AW.skip (AW.reg (sM ?_))
   refine Z2 ?_
   refine sB ?_
   exact ⟨j + 1, _, by exact Wk.keep 116 _ _ _ rfl ⟨rfl, rfl, rfl, rfl, trivial⟩ trivial (fun _ _ h => h) rfl, by omega, ⟨hj, upS hj hU1 (nd_f h41)⟩, rfl⟩
  refine AW.exit ?_
  refine eth_e ?_
  refine eth_e ?_
  refine exit_here ?_
  refine AW.seq ?_
  have hA := upE hU1 (by rw [List.length_map] at h25; omega)
  refine AW.reg (sB ?_)
  refine AW.block ?_
  refine AW.loop (fun (j : Nat) s => (j ≤ d0[i].fks.length ∧ ∀ k (h : k < d0[i].fks.length), k < j → fkP d0 i d0[i] d0[i].fks[k]) ∧ s = ⟨116, sp [(0, .c (scC z d0)), (2, .c (bC false)), (3, iX .i64 ((i : Nat) : Int)), (5, iX .i64 ((j : Nat) : Int))], lv [], H⟩) (fun j => d0[i].fks.length - j) 0 ⟨_, by exact Wk.keep 116 _ _ _ rfl ⟨rfl, rfl, rfl, rfl, trivial⟩ trivial (fun _ _ h => h) rfl, ⟨Nat.zero_le _, up0⟩, rfl⟩ (fun j s hs => ?_)
  obtain ⟨⟨hj0, hU2⟩, rfl⟩ := hs
  refine AW.seq (sR (sM ?_))
  refine sM ?_
  refine sM ?_
  refine Z9 Fx.sl23 (idx_map (f := tbT) hi) ?_
  refine SeqK.q (q_fieldP _ rfl Fx.fl64_3 rfl rfl) rfl rfl rfl ?_
  refine Z11 (.a _) Fx.ty62 ?_
  refine Z14 Fx.un62 ?_
  refine Z10 ?_
  refine Z3 ?_
  refine AW.condD rfl ?_ ?_ <;> intro h49
  ·
   have hj : j < d0[i].fks.length := by rw [List.length_map] at h49; omega
   refine AW.skip (AW.seq (AW.block (sR (sM ?_))))
   refine sM ?_
   refine Z9 Fx.sl23 (idx_map (f := tbT) hi) ?_
   refine SeqK.q (q_fieldP _ rfl Fx.fl64_3 rfl rfl) rfl rfl rfl ?_
   refine Z11 (.a _) Fx.ty62 ?_
   refine sM ?_
   refine Z9 Fx.sl62 (idx_map (f := fkT) hj) ?_
   refine Z11 (.g [_, _, _]) Fx.ty88 ?_
   refine Z25 (r := [_, _, _]) Fx.ze88 ?_
   refine Z15 (r := [_, _, _]) Fx.ty88 ?_
   refine Z3 (AW.seq (AW.draw Fx.mo ?_))
   refine Z18 ?_
   refine Z18 ?_
   refine Z27 Fx.sl23 (idx_map (f := tbT) hi) ?_
   refine Z26 (.g [_, _, _, _, _]) Fx.ty64 ?_
   refine Z23 Fx.fl88_0 ?_
   refine Z20 Fx.ty24 ?_
   refine LexK.q (q_call _ rfl Fx.fn29 rfl (inside_any d0[i] _ .un (by first | (have := hv0.keysl _ hm _ (List.getElem_mem hj); omega) | (have := hv0.fksl _ hm _ (List.getElem_mem hj); omega))) rfl) rfl rfl rfl ?_
   refine LexK.q (q_not rfl rfl) rfl rfl rfl ?_
   refine LexK.qB (q_mvC rfl rfl) rfl rfl rfl (fun g68 => ?_) (fun g68 => ?_)
   ·
    iterate 3 refine LexK.off rfl rfl rfl rfl rfl rfl ?_
    refine Z43 ?_
    refine Z18 ?_
    iterate 4 refine LexK.off rfl rfl rfl rfl rfl rfl ?_
    refine Z43 ?_
    refine Z18 ?_
    iterate 3 refine LexK.off rfl rfl rfl rfl rfl rfl ?_
    refine Z43 ?_
    refine Z18 ?_
    iterate 10 refine LexK.off rfl rfl rfl rfl rfl rfl ?_
    refine Z43 ?_
    refine Z30 ?_
    refine AW.condT rfl ?_
    refine sR (sB ?_)
    refine AW.ret ?_
    exact f1 (q := ⟨bCe (dF (fun h => by have h9 := (h.1 i hi).2 j hj; first | exact nd_t g68 h9.1 | (have := h9.2.1; omega) | (have := h9.2.2; omega) | (have := h9.2.2.2; rw [List.length_map] at h95; omega))), rfl⟩)
   refine Z24 Fx.fl88_1 ?_
   refine Z21 Fx.ty3 ?_
   refine LexK.on (q_lss rfl rfl rfl) rfl rfl rfl rfl rfl ?_
   refine Z31 ?_
   refine LexK.qD (q_mvC rfl rfl) rfl rfl rfl (fun g73 => ?_) (fun g73 => ?_)
   ·
    iterate 4 refine LexK.off rfl rfl rfl rfl rfl rfl ?_
    refine Z43 ?_
    refine Z18 ?_
    iterate 3 refine LexK.off rfl rfl rfl rfl rfl rfl ?_
    refine Z43 ?_
    refine Z18 ?_
    iterate 10 refine LexK.off rfl rfl rfl rfl rfl rfl ?_
    refine Z43 ?_
    refine Z30 ?_
    refine AW.condT rfl ?_
    refine sR (sB ?_)
    refine AW.ret ?_
    exact f1 (q := ⟨bCe (dF (fun h => by have h9 := (h.1 i hi).2 j hj; first | exact nd_t g68 h9.1 | (have := h9.2.1; omega) | (have := h9.2.2; omega) | (have := h9.2.2.2; rw [List.length_map] at h95; omega))), rfl⟩)
   refine Z24 Fx.fl88_1 ?_
   refine Z21 Fx.ty3 ?_
   refine Z29 ?_
   refine LexK.on (q_gtr rfl rfl rfl) rfl rfl rfl rfl rfl ?_
   refine Z31 ?_
   refine LexK.qD (q_mvC rfl rfl) rfl rfl rfl (fun g79 => ?_) (fun g79 => ?_)
   ·
    iterate 3 refine LexK.off rfl rfl rfl rfl rfl rfl ?_
    refine Z43 ?_
    refine Z18 ?_
    iterate 10 refine LexK.off rfl rfl rfl rfl rfl rfl ?_
    refine Z43 ?_
    refine Z30 ?_
    refine AW.condT rfl ?_
    refine sR (sB ?_)
    refine AW.ret ?_
    exact f1 (q := ⟨bCe (dF (fun h => by have h9 := (h.1 i hi).2 j hj; first | exact nd_t g68 h9.1 | (have := h9.2.1; omega) | (have := h9.2.2; omega) | (have := h9.2.2.2; rw [List.length_map] at h95; omega))), rfl⟩)
   refine Z24 Fx.fl88_2 ?_
   refine Z21 Fx.ty3 ?_
   refine LexK.on (q_lss rfl rfl rfl) rfl rfl rfl rfl rfl ?_
   refine Z31 ?_
   refine LexK.qD (q_mvC rfl rfl) rfl rfl rfl (fun g84 => ?_) (fun g84 => ?_)
   ·
    iterate 10 refine LexK.off rfl rfl rfl rfl rfl rfl ?_
    refine Z43 ?_
    refine Z30 ?_
    refine AW.condT rfl ?_
    refine sR (sB ?_)
    refine AW.ret ?_
    exact f1 (q := ⟨bCe (dF (fun h => by have h9 := (h.1 i hi).2 j hj; first | exact nd_t g68 h9.1 | (have := h9.2.1; omega) | (have := h9.2.2; omega) | (have := h9.2.2.2; rw [List.length_map] at h95; omega))), rfl⟩)
   have hu : d0[i].fks[j].tab.toNat < d0.length := by omega
   have eu := tbAt_get hu
   have hidx : (d0.map tbT)[d0[i].fks[j].tab.toNat]? = some (tbT (tbAt d0 d0[i].fks[j].tab)) := by rw [List.getElem?_map, List.getElem?_eq_getElem hu, ← eu]; rfl
   refine Z24 Fx.fl88_2 ?_
   refine Z21 Fx.ty3 ?_
   refine Z29 ?_
   refine Z24 Fx.fl88_1 ?_
   refine Z21 Fx.ty3 ?_
   refine Z48 Fx.sl23 (hidx) ?_
   refine LexK.on (q_fieldP _ rfl Fx.fl64_2 rfl rfl) rfl rfl rfl rfl rfl ?_
   refine Z39 (.a _) Fx.ty61 ?_
   refine LexK.on (q_len rfl Fx.un61 rfl) rfl rfl rfl rfl rfl ?_
   refine LexK.on (q_geq rfl rfl rfl) rfl rfl rfl rfl rfl ?_
   refine Z31 ?_
   refine Z30 ?_
   refine AW.condD rfl ?_ ?_ <;> intro h95
   ·
    refine sR (sB ?_)
    refine AW.ret ?_
    exact f1 (q := ⟨bCe (dF (fun h => by have h9 := (h.1 i hi).2 j hj; first | exact nd_t g68 h9.1 | (have := h9.2.1; omega) | (have := h9.2.2; omega) | (have := h9.2.2.2; rw [List.length_map] at h95; omega))), rfl⟩)
   refine AW.skip (AW.reg (sM ?_))
   refine Z2 ?_
   refine sB ?_
   exact ⟨j + 1, _, by exact Wk.keep 116 _ _ _ rfl ⟨rfl, rfl, rfl, rfl, trivial⟩ trivial (fun _ _ h => h) rfl, by omega, ⟨hj, upS hj hU2 (⟨nd_f g68, ⟨by omega, by omega⟩, by omega, by rw [List.length_map] at h95; omega⟩)⟩, rfl⟩
  refine AW.exit ?_
  refine eth_e ?_
  refine eth_e ?_
  refine exit_here ?_
  have hB := upE hU2 (by rw [List.length_map] at h49; omega)
  refine AW.reg (sM ?_)
  refine Z2 ?_
  refine sB ?_
  exact ⟨i + 1, _, by exact Wk.keep 116 _ _ _ rfl ⟨rfl, rfl, rfl, trivial⟩ trivial (fun _ _ h => h) rfl, by omega, ⟨hi, upS hi hU (⟨hA, hB⟩)⟩, rfl⟩
 refine AW.exit ?_
 refine eth_e ?_
 refine eth_e ?_
 refine exit_here ?_
 refine AW.seq ?_
 have hV : vP d0 := upE hU (by rw [List.length_map] at h15; omega)
 refine AW.reg (sB ?_)
 refine AW.seq (sR (sB ?_))
 refine AW.block ?_
 refine AW.tip 7 47 22 rfl (fun k0 hk0 => ?_)
 refine AW.loop (fun (i : Nat) s => ∃ (kt : Nat) (zs : List (List E.T)), (i ≤ d0.length ∧ H kt = none ∧ zs = ((d0.take i).map (dfOf d0)).map dfT) ∧ s = ⟨116, sp [(0, .c (scC z d0)), (7, .c (.a (.ts kt .ne 22 zs))), (8, iX .i64 ((i : Nat) : Int))], lv [], upd H kt (some (.tip 47 22 zs.length))⟩) (fun i => d0.length - i) 0 ⟨_, by exact Wk.keep 116 _ _ _ rfl ⟨rfl, rfl, rfl, trivial⟩ trivial (fun _ _ h => h) rfl, k0, [], ⟨Nat.zero_le _, hk0, rfl⟩, rfl⟩ (fun i s hs => ?_)
 obtain ⟨kt, zs, ⟨hi0, hkt, hzs⟩, rfl⟩ := hs
 refine AW.seq (sR (sM ?_))
 refine sM ?_
 refine Z14 Fx.un23 ?_
 refine Z10 ?_
 refine Z3 ?_
 refine AW.condD rfl ?_ ?_ <;> intro h99
 ·
  have hi : i < d0.length := by rw [List.length_map] at h99; omega
  refine AW.skip (AW.seq (AW.block (AW.reg (sM ?_))))
  refine sM ?_
  refine sM ?_
  refine Z22 Fx.fn30 (definition_any d0 z i hi hV hv0) ?_
  refine Z38 Fx.el85 ?_
  refine SeqK.app1 rfl (hkt) rfl Fx.el85 rfl rfl (by simp [hzs]; omega) rfl rfl (fun k107 hk107 => ?_)
  refine sB ?_
  refine AW.reg (sM ?_)
  refine Z2 ?_
  refine sB ?_
  exact ⟨i + 1, _, by exact Wk.keep 116 _ _ _ rfl ⟨rfl, rfl, rfl, trivial⟩ trivial (fun _ _ h => h) rfl, by omega, k107, zs ++ [dfT (dfOf d0 d0[i])], ⟨hi, hk107, by rw [hzs, take_put hi, List.map_append, List.map_append]; rfl⟩, rfl⟩
 refine AW.exit ?_
 refine eth_e ?_
 refine eth_e ?_
 refine exit_here ?_
 refine AW.seq ?_
 obtain rfl : i = d0.length := by rw [List.length_map] at h99; omega
 rw [List.take_length] at hzs
 refine AW.xw 7 rfl (XW.ts.trans (XW.es hzs)) ?_
 refine AW.reg (sM ?_)
 refine SeqK.q (q_call _ rfl Fx.fn31 rfl (build_any (dfsOf d0) .un (by rw [List.length_map]; omega) (fun x hx => by obtain ⟨t, ht, rfl⟩ := List.mem_map.1 hx; exact okD_df hv0 ho ht)) rfl) rfl rfl rfl ?_
 refine SeqK.q (q_mvT rfl rfl) rfl rfl rfl ?_
 refine Z47 ?_
 refine Z47 ?_
 refine Z47 ?_
 refine sA ?_
 refine sA ?_
 refine sB ?_
 refine sR (sM ?_)
 refine Z8 ?_
 refine sB ?_
 refine AW.ret ?_
 exact fin_x (x := .c _) (H) (.tmp rfl .nil) rfl ((fun j o h => upd_sub hkt j o h)) (⟨bCe (dI ⟨fun h => ⟨hV, h⟩, fun h => h.2⟩), rfl⟩)

end Go.Proofs.YtihlgigaejhilaaGreatDoor.W
namespace Go.Proofs.YtihlgigaejhilaaGreatDoor.W
open Go.RowKit E
/-! expressions: equality; small ones; the operands of AND -/
theorem part25_0 (x0 : Int) (x1 : Int) (x2 : ByteArray) (w : World) : (part 3 #[.int .i64 x0, .int .i64 x1, .string x2] 0).run Tryz.prog w = .ok (.int .i64 x0) w := by kernel_rfl
theorem part25_1 (x0 : Int) (x1 : Int) (x2 : ByteArray) (w : World) : (part 2 #[.int .i64 x0, .int .i64 x1, .string x2] 1).run Tryz.prog w = .ok (.int .i64 x1) w := by kernel_rfl
theorem part25_2 (x0 : Int) (x1 : Int) (x2 : ByteArray) (w : World) : (part 9 #[.int .i64 x0, .int .i64 x1, .string x2] 2).run Tryz.prog w = .ok (.string x2) w := by kernel_rfl
theorem eq25 (x0 : Int) (x1 : Int) (x2 : ByteArray) (y0 : Int) (y1 : Int) (y2 : ByteArray) (w : World) : (Op.equalIn 10000 27 (.agg #[.int .i64 x0, .int .i64 x1, .string x2]) (.agg #[.int .i64 y0, .int .i64 y1, .string y2])).run Tryz.prog w = .ok (decide (x0 = y0) && decide (x1 = y1) && decide (x2 = y2)) w := by
  have e2 : ∀ (a b : Int), (Op.equalIn 9999 2 (.int .i64 a) (.int .i64 b)).run Tryz.prog w = .ok (a == b) w := fun a b => run_equalIn_int w 9998 2 .i64 .i64 _ _ Tryz.underlying2
  have e3 : ∀ (a b : Int), (Op.equalIn 9999 3 (.int .i64 a) (.int .i64 b)).run Tryz.prog w = .ok (a == b) w := fun a b => run_equalIn_int w 9998 3 .i64 .i64 _ _ Tryz.underlying3
  have e9 : ∀ (a b : ByteArray), (Op.equalIn 9999 9 (.string a) (.string b)).run Tryz.prog w = .ok (a.toList == b.toList) w := fun a b => run_equalIn_string w 9998 9 _ _ Tryz.underlying9
  rw [show (10000 : Nat) = 9999 + 1 from rfl, run_equalIn_agg w 9999 27 _ _ (by kernel_rfl) (by kernel_rfl)]
  simp only [Program.fieldsOf, Tryz.underlying27, Op.eqFields, Sem.run_bind, part25_0, part25_1, part25_2, e2, e3, e9, Result.andThen_ok, eqI, eqBt, eqBo]
  by_cases h0 : x0 = y0 <;> by_cases h1 : x1 = y1 <;> by_cases h2 : x2 = y2 <;> simp [Sem.run_bind, part25_0, part25_1, part25_2, e2, e3, e9, Result.andThen_ok, Result.andThen, eqI, eqBt, eqBo, h0, h1, h2]

mutual
def exE : Ex → Ex → Bool
  | .mk a1 a2 a3 a4 a5 a6 a7 xs, .mk b1 b2 b3 b4 b5 b6 b7 ys => decide (a1 = b1) && (decide (a2 = b2) && (decide (a3 = b3) && (decide (a4 = b4) && (decide (a5 = b5) && (decide (a6 = b6) && (decide (a7 = b7) && exEs xs ys))))))
def exEs : List Ex → List Ex → Bool
  | [], [] => true
  | a :: r, b :: q => exE a b && exEs r q
  | _, _ => false
end
mutual
theorem exE_iff : ∀ a b, exE a b = true ↔ a = b
  | .mk a1 a2 a3 a4 a5 a6 a7 xs, .mk b1 b2 b3 b4 b5 b6 b7 ys => by
    have := exEs_iff xs ys
    simp only [exE, Bool.and_eq_true, decide_eq_true_eq, this, Ex.mk.injEq]
theorem exEs_iff : ∀ a b, exEs a b = true ↔ a = b
  | [], [] => by simp [exEs]
  | a :: r, b :: q => by
    have h1 := exE_iff a b
    have h2 := exEs_iff r q
    simp only [exEs, Bool.and_eq_true, h1, h2, List.cons.injEq]
  | [], b :: q => by simp [exEs]
  | a :: r, [] => by simp [exEs]
end
instance : DecidableEq Ex := fun a b => decidable_of_iff (exE a b = true) (exE_iff a b)
theorem ex_ext {a b : Ex} (h1 : a.op = b.op) (h2 : a.tb = b.tb) (h3 : a.nm = b.nm) (h4 : a.ix = b.ix) (h5 : a.vk = b.vk) (h6 : a.vn = b.vn) (h7 : a.vs = b.vs) (h8 : a.args = b.args) : a = b := by
  cases a; cases b
  rw [Ex.mk.injEq]; exact ⟨h1, h2, h3, h4, h5, h6, h7, h8⟩

set_option maxHeartbeats 4000000 in
set_option maxRecDepth 20000 in
theorem expr_of (a b : Ex) (ha : okE a) (ih : ∀ x ∈ a.args, ∀ y, Pure Tryz.prog 73 [exC x, exC y] (.c (bC (decide (x = y))))) : Pure Tryz.prog 73 [exC a, exC b] (.c (bC (decide (a = b)))) := by
 intro H
 refine Spec.enter Tryz.func73 rfl ?_
 refine AW.wk (Wk.keep 67 [(0, .c (exC a)), (1, .c (exC b))] [] (H) rfl ⟨rfl, rfl, trivial⟩ trivial (fun _ _ h => h) rfl) ?_
 refine sR (Z16 (r := [_, _, _, _, _, _, _, _]) ?_)
 refine Z16 (r := [_, _, _, _, _, _, _, _]) ?_
 refine sB ?_
 refine AW.seq (AW.seq ?_)
 have q1 := (okE_iff.1 ha).1.2.2.2
 refine AW.reg (Z1 Fx.fl30_0 ?_)
 refine Z0 Fx.ty3 ?_
 refine Z1 Fx.fl30_0 ?_
 refine Z0 Fx.ty3 ?_
 refine Z49 ?_
 refine Z19 (fun g11 => ?_) (fun g11 => ?_)
 ·
  iterate 5 refine SeqK.off rfl rfl rfl rfl rfl rfl ?_
  refine Z4 ?_
  refine sM ?_
  iterate 5 refine SeqK.off rfl rfl rfl rfl rfl rfl ?_
  refine Z4 ?_
  refine sM ?_
  iterate 5 refine SeqK.off rfl rfl rfl rfl rfl rfl ?_
  refine Z4 ?_
  refine sM ?_
  iterate 5 refine SeqK.off rfl rfl rfl rfl rfl rfl ?_
  refine Z4 ?_
  refine sM ?_
  iterate 7 refine SeqK.off rfl rfl rfl rfl rfl rfl ?_
  refine Z4 ?_
  refine Z3 (AW.condT rfl ?_)
  refine sR (sB ?_)
  refine AW.ret ?_
  exact f1 (q := ⟨bCe (dF (fun h => by subst h; first | exact g11 rfl | exact g18 rfl | exact g25 rfl | exact g32 rfl | (simp at g39; done) | exact h47 rfl)), rfl⟩)
 refine Z6 Fx.fl30_1 ?_
 refine Z5 Fx.ty9 ?_
 refine Z6 Fx.fl30_1 ?_
 refine Z5 Fx.ty9 ?_
 refine SeqK.on (q_neqS rfl rfl rfl) rfl rfl rfl rfl rfl ?_
 refine Z7 ?_
 refine Z19 (fun g18 => ?_) (fun g18 => ?_)
 ·
  iterate 5 refine SeqK.off rfl rfl rfl rfl rfl rfl ?_
  refine Z4 ?_
  refine sM ?_
  iterate 5 refine SeqK.off rfl rfl rfl rfl rfl rfl ?_
  refine Z4 ?_
  refine sM ?_
  iterate 5 refine SeqK.off rfl rfl rfl rfl rfl rfl ?_
  refine Z4 ?_
  refine sM ?_
  iterate 7 refine SeqK.off rfl rfl rfl rfl rfl rfl ?_
  refine Z4 ?_
  refine Z3 (AW.condT rfl ?_)
  refine sR (sB ?_)
  refine AW.ret ?_
  exact f1 (q := ⟨bCe (dF (fun h => by subst h; first | exact g11 rfl | exact g18 rfl | exact g25 rfl | exact g32 rfl | (simp at g39; done) | exact h47 rfl)), rfl⟩)
 refine Z6 Fx.fl30_2 ?_
 refine Z5 Fx.ty9 ?_
 refine Z6 Fx.fl30_2 ?_
 refine Z5 Fx.ty9 ?_
 refine SeqK.on (q_neqS rfl rfl rfl) rfl rfl rfl rfl rfl ?_
 refine Z7 ?_
 refine Z19 (fun g25 => ?_) (fun g25 => ?_)
 ·
  iterate 5 refine SeqK.off rfl rfl rfl rfl rfl rfl ?_
  refine Z4 ?_
  refine sM ?_
  iterate 5 refine SeqK.off rfl rfl rfl rfl rfl rfl ?_
  refine Z4 ?_
  refine sM ?_
  iterate 7 refine SeqK.off rfl rfl rfl rfl rfl rfl ?_
  refine Z4 ?_
  refine Z3 (AW.condT rfl ?_)
  refine sR (sB ?_)
  refine AW.ret ?_
  exact f1 (q := ⟨bCe (dF (fun h => by subst h; first | exact g11 rfl | exact g18 rfl | exact g25 rfl | exact g32 rfl | (simp at g39; done) | exact h47 rfl)), rfl⟩)
 refine Z6 Fx.fl30_3 ?_
 refine Z5 Fx.ty3 ?_
 refine Z6 Fx.fl30_3 ?_
 refine Z5 Fx.ty3 ?_
 refine SeqK.on (q_neq rfl rfl rfl) rfl rfl rfl rfl rfl ?_
 refine Z7 ?_
 refine Z19 (fun g32 => ?_) (fun g32 => ?_)
 ·
  iterate 5 refine SeqK.off rfl rfl rfl rfl rfl rfl ?_
  refine Z4 ?_
  refine sM ?_
  iterate 7 refine SeqK.off rfl rfl rfl rfl rfl rfl ?_
  refine Z4 ?_
  refine Z3 (AW.condT rfl ?_)
  refine sR (sB ?_)
  refine AW.ret ?_
  exact f1 (q := ⟨bCe (dF (fun h => by subst h; first | exact g11 rfl | exact g18 rfl | exact g25 rfl | exact g32 rfl | (simp at g39; done) | exact h47 rfl)), rfl⟩)
 refine Z6 Fx.fl30_4 ?_
 refine Z37 (r := .g [_, _, _]) Fx.ty27 ?_
 refine Z6 Fx.fl30_4 ?_
 refine Z37 (r := .g [_, _, _]) Fx.ty27 ?_
 refine SeqK.on (q_neqG [.int .i64 a.vk, .int .i64 a.vn, .string a.vs] [.int .i64 b.vk, .int .i64 b.vn, .string b.vs] rfl rfl rfl rfl rfl (by kernel_rfl) (fun w => eq25 _ _ _ _ _ _ w)) rfl rfl rfl rfl rfl ?_
 refine Z7 ?_
 refine SeqK.qB (q_mvC rfl rfl) rfl rfl rfl (fun g39 => ?_) (fun g39 => ?_)
 ·
  iterate 7 refine SeqK.off rfl rfl rfl rfl rfl rfl ?_
  refine Z4 ?_
  refine Z3 (AW.condT rfl ?_)
  refine sR (sB ?_)
  refine AW.ret ?_
  exact f1 (q := ⟨bCe (dF (fun h => by subst h; first | exact g11 rfl | exact g18 rfl | exact g25 rfl | exact g32 rfl | (simp at g39; done) | exact h47 rfl)), rfl⟩)
 refine Z6 Fx.fl30_5 ?_
 refine Z5 Fx.ty28 ?_
 refine Z28 Fx.un28 ?_
 refine Z6 Fx.fl30_5 ?_
 refine Z5 Fx.ty28 ?_
 refine Z28 Fx.un28 ?_
 refine SeqK.on (q_neq rfl rfl rfl) rfl rfl rfl rfl rfl ?_
 refine Z7 ?_
 refine Z3 ?_
 refine AW.condD rfl ?_ ?_ <;> intro h47
 ·
  refine sR (sB ?_)
  refine AW.ret ?_
  exact f1 (q := ⟨bCe (dF (fun h => by subst h; first | exact g11 rfl | exact g18 rfl | exact g25 rfl | exact g32 rfl | (simp at g39; done) | exact h47 rfl)), rfl⟩)
 refine AW.skip (AW.seq (AW.seq ?_))
 have hlen : a.args.length = b.args.length := by simp only [List.length_map] at h47; omega
 have e1 := Classical.not_not.1 g11
 have e2 := Classical.not_not.1 g18
 have e3 := Classical.not_not.1 g25
 have e4 := Classical.not_not.1 g32
 have e5 : (a.vk = b.vk ∧ a.vn = b.vn) ∧ a.vs = b.vs := by simpa using g39
 refine AW.reg (sB ?_)
 refine AW.block ?_
 refine AW.loop (fun (i : Nat) s => (i ≤ a.args.length ∧ ∀ j (h : j < a.args.length), j < i → a.args[j]? = b.args[j]?) ∧ s = ⟨67, sp [(2, .lp 2 0), (3, .lp 3 0), (4, .c (bC false)), (5, iX .i64 ((i : Nat) : Int))], lv [(2, .box (zEx a)), (3, .box (zEx b))], H⟩) (fun i => a.args.length - i) 0 ⟨_, by exact Wk.keep 67 _ _ _ rfl ⟨rfl, rfl, rfl, rfl, trivial⟩ ⟨rfl, rfl, trivial⟩ (fun _ _ h => h) rfl, ⟨Nat.zero_le _, up0⟩, rfl⟩ (fun i s hs => ?_)
 obtain ⟨⟨hi0, hU⟩, rfl⟩ := hs
 refine AW.seq (sR (sM ?_))
 refine Z1 Fx.fl30_5 ?_
 refine Z0 Fx.ty28 ?_
 refine Z14 Fx.un28 ?_
 refine Z10 ?_
 refine Z3 ?_
 refine AW.condD rfl ?_ ?_ <;> intro h52
 ·
  have hi : i < a.args.length := by rw [List.length_map] at h52; omega
  have hib : i < b.args.length := by omega
  refine AW.skip (AW.seq (AW.block (AW.seq (AW.draw Fx.mo ?_))))
  refine Z23 Fx.fl30_5 ?_
  refine Z20 Fx.ty28 ?_
  refine Z18 ?_
  refine Z27 Fx.sl28 (idx_ex hi) ?_
  refine Z26 (.g [_, _, _, _, _, _, _, _]) Fx.ty30 ?_
  refine Z23 Fx.fl30_5 ?_
  refine Z20 Fx.ty28 ?_
  refine Z18 ?_
  refine Z27 Fx.sl28 (idx_ex hib) ?_
  refine Z26 (.g [_, _, _, _, _, _, _, _]) Fx.ty30 ?_
  refine Z52 Fx.fn73 (ih _ (List.getElem_mem hi) _) ?_
  refine LexK.q (q_not rfl rfl) rfl rfl rfl ?_
  refine Z30 ?_
  refine AW.cond _ rfl (fun h66 => ?_) (fun h66 => ?_)
  ·
   refine sR (sB ?_)
   refine AW.ret ?_
   exact f1 (q := ⟨bCe (dF (fun h => nd_t h66 (by subst h; rfl))), rfl⟩)
  refine AW.skip (AW.reg (sM ?_))
  refine Z2 ?_
  refine sB ?_
  exact ⟨i + 1, _, by exact Wk.keep 67 _ _ _ rfl ⟨rfl, rfl, rfl, rfl, trivial⟩ ⟨rfl, rfl, trivial⟩ (fun _ _ h => h) rfl, by omega, ⟨hi, upS hi hU (by rw [List.getElem?_eq_getElem hi, List.getElem?_eq_getElem hib, nd_f h66])⟩, rfl⟩
 refine AW.exit ?_
 refine eth_e ?_
 refine eth_e ?_
 refine exit_here ?_
 refine sR (sB ?_)
 refine AW.ret ?_
 exact f1 (q := ⟨bCe (dT (ex_ext e1 e2 e3 e4 e5.1.1 e5.1.2 e5.2 (eq_up hlen (upE hU (by rw [List.length_map] at h52; omega))))), rfl⟩)

theorem Ex.rec' {motive : Ex → Prop} (h : ∀ e, (∀ a ∈ e.args, motive a) → motive e) (e : Ex) : motive e := by
  have key : ∀ n, ∀ e : Ex, SizeOf.sizeOf e < n → motive e := by
    intro n
    induction n with
    | zero => intro e he; omega
    | succ n ih => intro e he; exact h e fun a ha => ih a (by have := args_lt ha; omega)
  exact key _ e (Nat.lt_succ_self _)
theorem expr_any (a : Ex) : ∀ b, okE a → Pure Tryz.prog 73 [exC a, exC b] (.c (bC (decide (a = b)))) := by
  induction a using Ex.rec' with
  | h a ih => exact fun b ho => expr_of a b ho fun x hx y => ih x hx y ((okE_iff.1 ho).2 x hx)
def smlB : Nat → Ex → Bool
  | 0, _ => false
  | d + 1, e => decide (e.args.length ≤ 2) && (decide (e.nm.size + e.tb.size + e.vs.size ≤ 100) && e.args.all (smlB d))
theorem sml0 {d : Nat} {e : Ex} (h : d = 0) : false = smlB d e := by subst h; rw [smlB]
theorem smlB_pos {d : Nat} {e : Ex} (h : 0 < d) : smlB d e = (decide (e.args.length ≤ 2) && (decide (e.nm.size + e.tb.size + e.vs.size ≤ 100) && e.args.all (smlB (d - 1)))) := by
  cases d with
  | zero => omega
  | succ d => rw [smlB]; rfl

set_option maxRecDepth 20000 in
theorem small44_of (e : Ex) (d : Nat) (hd : d ≤ 1000) (ho : okE e) (ih : 0 < d → ∀ a ∈ e.args, Pure Tryz.prog 32 [exC a, iC ((d - 1 : Nat) : Int)] (.c (bC (smlB (d - 1) a)))) : Pure Tryz.prog 32 [exC e, iC (d : Int)] (.c (bC (smlB d e))) := by
 intro H
 refine Spec.enter Tryz.func32 rfl ?_
 refine AW.wk (Wk.keep 45 [(0, .c (exC e)), (1, .c (iC (d : Int)))] [] (H) rfl ⟨rfl, rfl, trivial⟩ trivial (fun _ _ h => h) rfl) ?_
 refine sR (Z16 (r := [_, _, _, _, _, _, _, _]) ?_)
 refine sB ?_
 refine AW.seq (AW.seq ?_)
 obtain ⟨⟨k1, k2, k3, k4⟩, k5⟩ := okE_iff.1 ho
 refine AW.reg (sM ?_)
 refine Z8 ?_
 refine Z19 (fun g8 => ?_) (fun g8 => ?_)
 ·
  iterate 4 refine SeqK.off rfl rfl rfl rfl rfl rfl ?_
  refine Z4 ?_
  refine sM ?_
  iterate 13 refine SeqK.off rfl rfl rfl rfl rfl rfl ?_
  refine Z4 ?_
  refine Z3 (AW.condT rfl ?_)
  refine sR (sB ?_)
  refine AW.ret ?_
  exact f1 (q := ⟨bCe (sml0 (by omega)), rfl⟩)
 have hd0 : 0 < d := by omega
 have hp := smlB_pos (e := e) hd0
 refine Z6 Fx.fl30_5 ?_
 refine Z5 Fx.ty28 ?_
 refine Z28 Fx.un28 ?_
 refine Z35 ?_
 refine Z7 ?_
 refine Z19 (fun g14 => ?_) (fun g14 => ?_)
 ·
  iterate 13 refine SeqK.off rfl rfl rfl rfl rfl rfl ?_
  refine Z4 ?_
  refine Z3 (AW.condT rfl ?_)
  refine sR (sB ?_)
  refine AW.ret ?_
  exact f1 (q := ⟨bCe (by rw [hp, decide_eq_false (p := e.args.length ≤ 2) (by rw [List.length_map] at g14; omega)]; rfl), rfl⟩)
 refine Z6 Fx.fl30_2 ?_
 refine Z5 Fx.ty9 ?_
 refine SeqK.on (q_lenS rfl Fx.un9 rfl) rfl rfl rfl rfl rfl ?_
 refine Z6 Fx.fl30_1 ?_
 refine Z5 Fx.ty9 ?_
 refine SeqK.on (q_lenS rfl Fx.un9 rfl) rfl rfl rfl rfl rfl ?_
 refine SeqK.on (q_add _ rfl rfl rfl (w64 (by omega) (by omega))) rfl rfl rfl rfl rfl ?_
 refine Z6 Fx.fl30_4 ?_
 refine Z6 Fx.fl27_2 ?_
 refine Z5 Fx.ty9 ?_
 refine SeqK.on (q_lenS rfl Fx.un9 rfl) rfl rfl rfl rfl rfl ?_
 refine SeqK.on (q_add _ rfl rfl rfl (w64 (by omega) (by omega))) rfl rfl rfl rfl rfl ?_
 refine Z35 ?_
 refine Z7 ?_
 refine Z3 ?_
 refine AW.condD rfl ?_ ?_ <;> intro h28
 ·
  refine sR (sB ?_)
  refine AW.ret ?_
  exact f1 (q := ⟨bCe (by rw [hp, decide_eq_false (p := _ ≤ 100) (by omega)]; simp), rfl⟩)
 refine AW.skip (AW.seq (AW.seq ?_))
 have hA8 : e.args.length ≤ 2 := by rw [List.length_map] at g14; omega
 have hA9 : e.nm.size + e.tb.size + e.vs.size ≤ 100 := by omega
 refine AW.reg (sB ?_)
 refine AW.block ?_
 refine AW.loop (fun (i : Nat) s => (i ≤ e.args.length ∧ ∀ j (h : j < e.args.length), j < i → smlB (d - 1) e.args[j] = true) ∧ s = ⟨45, sp [(1, .c (iC (d : Int))), (2, .lp 2 0), (4, .c (bC false)), (5, iX .i64 ((i : Nat) : Int))], lv [(2, .box (zEx e))], H⟩) (fun i => e.args.length - i) 0 ⟨_, by exact Wk.keep 45 _ _ _ rfl ⟨rfl, rfl, rfl, rfl, trivial⟩ ⟨rfl, trivial⟩ (fun _ _ h => h) rfl, ⟨Nat.zero_le _, up0⟩, rfl⟩ (fun i s hs => ?_)
 obtain ⟨⟨hi0, hU⟩, rfl⟩ := hs
 refine AW.seq (sR (sM ?_))
 refine Z1 Fx.fl30_5 ?_
 refine Z0 Fx.ty28 ?_
 refine Z14 Fx.un28 ?_
 refine Z10 ?_
 refine Z3 ?_
 refine AW.condD rfl ?_ ?_ <;> intro h33
 ·
  have hi : i < e.args.length := by rw [List.length_map] at h33; omega
  refine AW.skip (AW.seq (AW.block (sR (Z1 Fx.fl30_5 ?_))))
  refine Z0 Fx.ty28 ?_
  refine sM ?_
  refine Z9 Fx.sl28 (idx_ex hi) ?_
  refine Z11 (.g [_, _, _, _, _, _, _, _]) Fx.ty30 ?_
  refine sM ?_
  refine SeqK.q (q_sub _ rfl rfl rfl ((by rw [w64 (by omega) (by omega)]; omega : IntKind.i64.wrap _ = ((d - 1 : Nat) : Int)))) rfl rfl rfl ?_
  refine Z22 Fx.fn32 (ih hd0 _ (List.getElem_mem hi)) ?_
  refine Z33 ?_
  refine Z3 ?_
  refine AW.cond _ rfl (fun h44 => ?_) (fun h44 => ?_)
  ·
   have hno : smlB (d - 1) e.args[i] = false := by simpa using h44
   refine sR (sB ?_)
   refine AW.ret ?_
   exact f1 (q := ⟨bCe (by rw [hp, List.all_eq_false.2 ⟨_, List.getElem_mem hi, by simp [hno]⟩]; simp), rfl⟩)
  have hyes : smlB (d - 1) e.args[i] = true := by simpa using h44
  refine AW.skip (AW.reg (sM ?_))
  refine Z2 ?_
  refine sB ?_
  exact ⟨i + 1, _, by exact Wk.keep 45 _ _ _ rfl ⟨rfl, rfl, rfl, rfl, trivial⟩ ⟨rfl, trivial⟩ (fun _ _ h => h) rfl, by omega, ⟨hi, upS hi hU (hyes)⟩, rfl⟩
 refine AW.exit ?_
 refine eth_e ?_
 refine eth_e ?_
 refine exit_here ?_
 refine sR (sB ?_)
 refine AW.ret ?_
 exact f1 (q := ⟨bCe (by rw [hp, decide_eq_true hA8, decide_eq_true hA9, List.all_eq_true.2 fun x hx => by obtain ⟨j, hj, rfl⟩ := List.mem_iff_getElem.1 hx; exact upE hU (by rw [List.length_map] at h33; omega) j hj]; rfl), rfl⟩)

theorem small44_any : ∀ (d : Nat) (e : Ex), d ≤ 1000 → okE e → Pure Tryz.prog 32 [exC e, iC (d : Int)] (.c (bC (smlB d e)))
  | 0, e, hd, ho => small44_of e 0 hd ho fun h => absurd h (by omega)
  | d + 1, e, hd, ho => small44_of e (d + 1) hd ho fun _ a ha => small44_any d a (by omega) ((okE_iff.1 ho).2 a ha)
abbrev andP (e : Ex) : Prop := e.op = 18 → e.args.length = 2
def binB : Nat → Ex → Bool
  | 0, _ => false
  | d + 1, e => smlB (d + 1) e && (decide (andP e) && e.args.all (binB d))
theorem binB_pos {d : Nat} {e : Ex} (h : 0 < d) : binB d e = (smlB d e && (decide (andP e) && e.args.all (binB (d - 1)))) := by
  cases d with
  | zero => omega
  | succ d => rw [binB]; rfl
theorem bin_no {d : Nat} {e : Ex} (h : smlB d e = false) : false = binB d e := by
  cases d with
  | zero => rw [binB]
  | succ d => rw [binB, h]; rfl
theorem sml_pos {d : Nat} {e : Ex} (h : smlB d e = true) : 0 < d := by
  cases d with
  | zero => rw [smlB] at h; cases h
  | succ d => omega

set_option maxRecDepth 20000 in
theorem binary_of (e : Ex) (d : Nat) (hd : d ≤ 1000) (ho : okE e) (ih : 0 < d → ∀ a ∈ e.args, Pure Tryz.prog 12 [exC a, iC ((d - 1 : Nat) : Int)] (.c (bC (binB (d - 1) a)))) : Pure Tryz.prog 12 [exC e, iC (d : Int)] (.c (bC (binB d e))) := by
 intro H
 refine Spec.enter Tryz.func12 rfl ?_
 refine AW.wk (Wk.keep 37 [(0, .c (exC e)), (1, .c (iC (d : Int)))] [] (H) rfl ⟨rfl, rfl, trivial⟩ trivial (fun _ _ h => h) rfl) ?_
 refine sR (Z16 (r := [_, _, _, _, _, _, _, _]) ?_)
 refine sB ?_
 refine AW.seq (AW.seq ?_)
 have k4 := (okE_iff.1 ho).1.2.2.2
 refine AW.reg (Z12 (r := .g [_, _, _, _, _, _, _, _]) Fx.ty30 ?_)
 refine sM ?_
 refine Z22 Fx.fn32 (small44_any d e hd ho) ?_
 refine Z33 ?_
 refine SeqK.qB (q_mvC rfl rfl) rfl rfl rfl (fun g10 => ?_) (fun g10 => ?_)
 ·
  have hsm : smlB d e = false := by simpa using g10
  iterate 4 refine SeqK.off rfl rfl rfl rfl rfl rfl ?_
  iterate 4 refine SeqK.offU rfl rfl rfl rfl rfl ?_
  refine SeqK.off rfl rfl rfl rfl rfl rfl ?_
  refine Z4 ?_
  refine Z3 (AW.condT rfl ?_)
  refine sR (sB ?_)
  refine AW.ret ?_
  exact f1 (q := ⟨bCe (by first | exact bin_no hsm | (rw [hp, decide_eq_false (p := andP e) (fun h => by have := h g14; rw [List.length_map] at h20; omega)]; simp)), rfl⟩)
 have hsm : smlB d e = true := by simpa using g10
 have hd0 := sml_pos hsm
 have hp := binB_pos (e := e) hd0
 refine Z6 Fx.fl30_0 ?_
 refine Z5 Fx.ty3 ?_
 refine Z44 ?_
 refine SeqK.onD (q_mvC rfl rfl) rfl rfl rfl rfl rfl (fun g14 => ?_) (fun g14 => ?_)
 ·
  refine Z6 Fx.fl30_5 ?_
  refine Z5 Fx.ty28 ?_
  refine Z28 Fx.un28 ?_
  refine SeqK.on (q_neq rfl rfl rfl) rfl rfl rfl rfl rfl ?_
  refine Z42 ?_
  refine Z7 ?_
  refine Z3 ?_
  refine AW.condD rfl ?_ ?_ <;> intro h20
  ·
   refine sR (sB ?_)
   refine AW.ret ?_
   exact f1 (q := ⟨bCe (by first | exact bin_no hsm | (rw [hp, decide_eq_false (p := andP e) (fun h => by have := h g14; rw [List.length_map] at h20; omega)]; simp)), rfl⟩)
  refine AW.skip (AW.seq (AW.seq ?_))
  have hA : andP e := by intro h9; first | (simp only [List.length_map] at *; omega) | omega
  refine AW.reg (sB ?_)
  refine AW.block ?_
  refine AW.loop (fun (i : Nat) s => (i ≤ e.args.length ∧ ∀ j (h : j < e.args.length), j < i → binB (d - 1) e.args[j] = true) ∧ s = ⟨37, sp [(1, .c (iC (d : Int))), (2, .lp 2 0), (4, .c (bC false)), (5, iX .i64 ((i : Nat) : Int))], lv [(2, .box (zEx e))], H⟩) (fun i => e.args.length - i) 0 ⟨_, by exact Wk.keep 37 _ _ _ rfl ⟨rfl, rfl, rfl, rfl, trivial⟩ ⟨rfl, trivial⟩ (fun _ _ h => h) rfl, ⟨Nat.zero_le _, up0⟩, rfl⟩ (fun i s hs => ?_)
  obtain ⟨⟨hi0, hU⟩, rfl⟩ := hs
  refine AW.seq (sR (sM ?_))
  refine Z1 Fx.fl30_5 ?_
  refine Z0 Fx.ty28 ?_
  refine Z14 Fx.un28 ?_
  refine Z10 ?_
  refine Z3 ?_
  refine AW.condD rfl ?_ ?_ <;> intro h25
  ·
   have hi : i < e.args.length := by rw [List.length_map] at h25; omega
   refine AW.skip (AW.seq (AW.block (sR (Z1 Fx.fl30_5 ?_))))
   refine Z0 Fx.ty28 ?_
   refine sM ?_
   refine Z9 Fx.sl28 (idx_ex hi) ?_
   refine Z11 (.g [_, _, _, _, _, _, _, _]) Fx.ty30 ?_
   refine sM ?_
   refine SeqK.q (q_sub _ rfl rfl rfl ((by rw [w64 (by omega) (by omega)]; omega : IntKind.i64.wrap _ = ((d - 1 : Nat) : Int)))) rfl rfl rfl ?_
   refine Z22 Fx.fn12 (ih hd0 _ (List.getElem_mem hi)) ?_
   refine Z33 ?_
   refine Z3 ?_
   refine AW.cond _ rfl (fun h36 => ?_) (fun h36 => ?_)
   ·
    have hno : binB (d - 1) e.args[i] = false := by simpa using h36
    refine sR (sB ?_)
    refine AW.ret ?_
    exact f1 (q := ⟨bCe (by rw [hp, List.all_eq_false.2 ⟨_, List.getElem_mem hi, by simp [hno]⟩]; simp), rfl⟩)
   have hyes : binB (d - 1) e.args[i] = true := by simpa using h36
   refine AW.skip (AW.reg (sM ?_))
   refine Z2 ?_
   refine sB ?_
   exact ⟨i + 1, _, by exact Wk.keep 37 _ _ _ rfl ⟨rfl, rfl, rfl, rfl, trivial⟩ ⟨rfl, trivial⟩ (fun _ _ h => h) rfl, by omega, ⟨hi, upS hi hU (hyes)⟩, rfl⟩
  refine AW.exit ?_
  refine eth_e ?_
  refine eth_e ?_
  refine exit_here ?_
  refine sR (sB ?_)
  refine AW.ret ?_
  exact f1 (q := ⟨bCe (by rw [hp, hsm, decide_eq_true hA, List.all_eq_true.2 fun x hx => by obtain ⟨j, hj, rfl⟩ := List.mem_iff_getElem.1 hx; exact upE hU (by rw [List.length_map] at h25; omega) j hj]; rfl), rfl⟩)
 iterate 4 refine SeqK.off rfl rfl rfl rfl rfl rfl ?_
 refine Z46 ?_
 refine Z7 ?_
 refine Z3 (AW.condF rfl ?_)
 refine AW.skip (AW.seq (AW.seq ?_))
 have hA : andP e := by intro h9; first | (simp only [List.length_map] at *; omega) | omega
 refine AW.reg (sB ?_)
 refine AW.block ?_
 refine AW.loop (fun (i : Nat) s => (i ≤ e.args.length ∧ ∀ j (h : j < e.args.length), j < i → binB (d - 1) e.args[j] = true) ∧ s = ⟨37, sp [(1, .c (iC (d : Int))), (2, .lp 2 0), (4, .c (bC false)), (5, iX .i64 ((i : Nat) : Int))], lv [(2, .box (zEx e))], H⟩) (fun i => e.args.length - i) 0 ⟨_, by exact Wk.keep 37 _ _ _ rfl ⟨rfl, rfl, rfl, rfl, trivial⟩ ⟨rfl, trivial⟩ (fun _ _ h => h) rfl, ⟨Nat.zero_le _, up0⟩, rfl⟩ (fun i s hs => ?_)
 obtain ⟨⟨hi0, hU⟩, rfl⟩ := hs
 refine AW.seq (sR (sM ?_))
 refine Z1 Fx.fl30_5 ?_
 refine Z0 Fx.ty28 ?_
 refine Z14 Fx.un28 ?_
 refine Z10 ?_
 refine Z3 ?_
 refine AW.condD rfl ?_ ?_ <;> intro h25
 ·
  have hi : i < e.args.length := by rw [List.length_map] at h25; omega
  refine AW.skip (AW.seq (AW.block (sR (Z1 Fx.fl30_5 ?_))))
  refine Z0 Fx.ty28 ?_
  refine sM ?_
  refine Z9 Fx.sl28 (idx_ex hi) ?_
  refine Z11 (.g [_, _, _, _, _, _, _, _]) Fx.ty30 ?_
  refine sM ?_
  refine SeqK.q (q_sub _ rfl rfl rfl ((by rw [w64 (by omega) (by omega)]; omega : IntKind.i64.wrap _ = ((d - 1 : Nat) : Int)))) rfl rfl rfl ?_
  refine Z22 Fx.fn12 (ih hd0 _ (List.getElem_mem hi)) ?_
  refine Z33 ?_
  refine Z3 ?_
  refine AW.cond _ rfl (fun h36 => ?_) (fun h36 => ?_)
  ·
   have hno : binB (d - 1) e.args[i] = false := by simpa using h36
   refine sR (sB ?_)
   refine AW.ret ?_
   exact f1 (q := ⟨bCe (by rw [hp, List.all_eq_false.2 ⟨_, List.getElem_mem hi, by simp [hno]⟩]; simp), rfl⟩)
  have hyes : binB (d - 1) e.args[i] = true := by simpa using h36
  refine AW.skip (AW.reg (sM ?_))
  refine Z2 ?_
  refine sB ?_
  exact ⟨i + 1, _, by exact Wk.keep 37 _ _ _ rfl ⟨rfl, rfl, rfl, rfl, trivial⟩ ⟨rfl, trivial⟩ (fun _ _ h => h) rfl, by omega, ⟨hi, upS hi hU (hyes)⟩, rfl⟩
 refine AW.exit ?_
 refine eth_e ?_
 refine eth_e ?_
 refine exit_here ?_
 refine sR (sB ?_)
 refine AW.ret ?_
 exact f1 (q := ⟨bCe (by rw [hp, hsm, decide_eq_true hA, List.all_eq_true.2 fun x hx => by obtain ⟨j, hj, rfl⟩ := List.mem_iff_getElem.1 hx; exact upE hU (by rw [List.length_map] at h25; omega) j hj]; rfl), rfl⟩)

theorem binary_any : ∀ (d : Nat) (e : Ex), d ≤ 1000 → okE e → Pure Tryz.prog 12 [exC e, iC (d : Int)] (.c (bC (binB d e)))
  | 0, e, hd, ho => binary_of e 0 hd ho fun h => absurd h (by omega)
  | d + 1, e, hd, ho => binary_of e (d + 1) hd ho fun _ a ha => binary_any d a (by omega) ((okE_iff.1 ho).2 a ha)

set_option maxRecDepth 20000 in
theorem has_any (l : List Int) (z : Nz) (n : Int) (hl : l.length ≤ 17592186044000) : Pure Tryz.prog 23 [iL z l, iC n] (.c (bC (decide (n ∈ l)))) := by
 intro H
 refine Spec.enter Tryz.func23 rfl ?_
 refine AW.wk (Wk.keep 18 [(0, .c (iL z l)), (1, .c (iC n))] [] (H) rfl ⟨rfl, rfl, trivial⟩ trivial (fun _ _ h => h) rfl) ?_
 refine sR (sB ?_)
 refine AW.seq (sR (sB ?_))
 refine AW.block ?_
 refine AW.loop (fun (i : Nat) s => (i ≤ l.length ∧ ∀ j (h : j < l.length), j < i → l[j] ≠ n) ∧ s = ⟨18, sp [(0, .c (iL z l)), (1, .c (iC n)), (4, .c (bC false)), (5, iX .i64 ((i : Nat) : Int))], lv [], H⟩) (fun i => l.length - i) 0 ⟨_, by exact Wk.keep 18 _ _ _ rfl ⟨rfl, rfl, rfl, rfl, trivial⟩ trivial (fun _ _ h => h) rfl, ⟨Nat.zero_le _, up0⟩, rfl⟩ (fun i s hs => ?_)
 obtain ⟨⟨hi0, hU⟩, rfl⟩ := hs
 refine AW.seq (sR (sM ?_))
 refine sM ?_
 refine Z14 Fx.un24 ?_
 refine Z10 ?_
 refine Z3 ?_
 refine AW.condD rfl ?_ ?_ <;> intro h9
 ·
  have hi : i < l.length := by rw [List.length_map] at h9; omega
  refine AW.skip (AW.seq (AW.block (sR (sM ?_))))
  refine sM ?_
  refine Z9 Fx.sl24 (idx_map (f := i64T) hi) ?_
  refine Z11 (.a _) Fx.ty3 ?_
  refine sM ?_
  refine Z8 ?_
  refine Z3 ?_
  refine AW.condD rfl ?_ ?_ <;> intro h17
  ·
   refine sR (sB ?_)
   refine AW.ret ?_
   exact f1 (q := ⟨bCe (dT (by rw [← show l[i] = n from h17]; exact List.getElem_mem hi)), rfl⟩)
  refine AW.skip (AW.reg (sM ?_))
  refine Z2 ?_
  refine sB ?_
  exact ⟨i + 1, _, by exact Wk.keep 18 _ _ _ rfl ⟨rfl, rfl, rfl, rfl, trivial⟩ trivial (fun _ _ h => h) rfl, by omega, ⟨hi, upS hi hU (h17)⟩, rfl⟩
 refine AW.exit ?_
 refine eth_e ?_
 refine eth_e ?_
 refine exit_here ?_
 refine sR (sB ?_)
 refine AW.ret ?_
 exact f1 (q := ⟨bCe (dF (fun h => by obtain ⟨j, hj, e⟩ := List.mem_iff_getElem.1 h; exact upE hU (by rw [List.length_map] at h9; omega) j hj e)), rfl⟩)

end Go.Proofs.YtihlgigaejhilaaGreatDoor.W
namespace Go.Proofs.YtihlgigaejhilaaGreatDoor.W
open Go.RowKit E
/-! bound statements -/
structure Bd where (frm : List (ByteArray × ByteArray)) (wh : Ex) (tabs : List Int) (vars : List Vr)
abbrev srT (p : ByteArray × ByteArray) : List E.T := [.v (.string p.1), .v (.string p.2)]
abbrev bdC (b : Bd) : C := .g [.t (.v (.int .i64 5)), .t (.v (.string ⟨#[]⟩)), .t (.v (.slice none 0 0)), .t (.v (.slice none 0 0)), .t (.v (.slice none 0 0)), .t (.v (.slice none 0 0)), .t (.v (.slice none 0 0)), .t (.v (.slice none 0 0)), .t (.v (.slice none 0 0)), .t (.sl .un 2 (b.frm.map srT)), .t (.v (.int .i64 b.wh.op)), .t (.v (.string b.wh.tb)), .t (.v (.string b.wh.nm)), .t (.v (.int .i64 b.wh.ix)), .t (.v (.int .i64 b.wh.vk)), .t (.v (.int .i64 b.wh.vn)), .t (.v (.string b.wh.vs)), .t (.sl .un 8 (b.wh.args.map exT')), .t (.v (.slice none 0 0)), .t (.v (.slice none 0 0)), .t (.v (.int .i64 0)), .t (.v (.string ⟨#[]⟩)), .t (.v (.int .i64 0)), .t (.sl .un 1 (b.tabs.map i64T)), .t (.sl .un 5 (b.vars.map vrT)), .t (.v (.slice none 0 0))]
abbrev ncol (s : List Tb) (v : Int) : Nat := (tbAt s v).cols.length
def offM (s : List Tb) (l : List Int) : Nat := (l.map (ncol s)).sum
theorem offM_app (s : List Tb) (a b : List Int) : offM s (a ++ b) = offM s a + offM s b := by simp [offM]
theorem offM_take {s : List Tb} {l : List Int} {i : Nat} (hi : i < l.length) : offM s (l.take (i + 1)) = offM s (l.take i) + ncol s l[i] := by rw [take_put hi, offM_app]; simp [offM]
theorem ncol_le {s : List Tb} (hc : ∀ t ∈ s, t.cols.length ≤ 17592186044000) (v : Int) : ncol s v ≤ 17592186044000 := by
  show (tbAt s v).cols.length ≤ _
  unfold tbAt
  rw [List.getD_eq_getElem?_getD]
  by_cases hv : v.toNat < s.length
  · rw [List.getElem?_eq_getElem hv]; exact hc _ (List.getElem_mem hv)
  · rw [List.getElem?_eq_none (by omega)]; simp
theorem offM_le {s : List Tb} (hc : ∀ t ∈ s, t.cols.length ≤ 17592186044000) : ∀ l : List Int, offM s l ≤ l.length * 17592186044000
  | [] => by simp [offM]
  | v :: l => by
    have h1 := ncol_le hc v
    have h2 := offM_le hc l
    have : offM s (v :: l) = ncol s v + offM s l := by simp [offM]
    rw [this, List.length_cons]; omega
abbrev tabP (s : List Tb) (l : List Int) : Prop := ∀ j (h : j < l.length), 0 ≤ l[j] ∧ l[j] < s.length

abbrev zBd (x : Bd) : List A := [.t (.v (.int .i64 5)), .t (.v (.string ⟨#[]⟩)), .t (.v (.slice none 0 0)), .t (.v (.slice none 0 0)), .t (.v (.slice none 0 0)), .t (.v (.slice none 0 0)), .t (.v (.slice none 0 0)), .t (.v (.slice none 0 0)), .t (.v (.slice none 0 0)), .t (.sl .un 2 (x.frm.map srT)), .t (.v (.int .i64 x.wh.op)), .t (.v (.string x.wh.tb)), .t (.v (.string x.wh.nm)), .t (.v (.int .i64 x.wh.ix)), .t (.v (.int .i64 x.wh.vk)), .t (.v (.int .i64 x.wh.vn)), .t (.v (.string x.wh.vs)), .t (.sl .un 8 (x.wh.args.map exT')), .t (.v (.slice none 0 0)), .t (.v (.slice none 0 0)), .t (.v (.int .i64 0)), .t (.v (.string ⟨#[]⟩)), .t (.v (.int .i64 0)), .t (.sl .un 1 (x.tabs.map i64T)), .t (.sl .un 5 (x.vars.map vrT)), .t (.v (.slice none 0 0))]
set_option maxHeartbeats 4000000 in
set_option maxRecDepth 20000 in
theorem offset_any (d0 : List Tb) (z : Nz) (b : Bd) (k : Nat) (hc : ∀ t ∈ d0, t.cols.length ≤ 17592186044000) (ht : tabP d0 b.tabs) (hn : b.tabs.length ≤ 1000) (hk : k ≤ b.tabs.length) : Pure Tryz.prog 54 [scC z d0, bdC b, iC (k : Int)] (.c (iC ((offM d0 (b.tabs.take k) : Nat) : Int))) := by
 intro H
 refine Spec.enter Tryz.func54 rfl ?_
 refine AW.wk (Wk.keep 27 [(0, .c (scC z d0)), (1, .c (bdC b)), (2, .c (iC (k : Int)))] [] (H) rfl ⟨rfl, rfl, rfl, trivial⟩ trivial (fun _ _ h => h) rfl) ?_
 refine sR (Z16 (r := [_, _, _, _, _, _, _, _, _, _, _, _, _, _, _, _, _, _, _, _, _, _, _, _, _, _]) ?_)
 refine sB ?_
 refine sR (sB ?_)
 refine AW.seq (sR (sB ?_))
 refine AW.block ?_
 refine AW.loop (fun (i : Nat) s => (i ≤ k) ∧ s = ⟨27, sp [(0, .c (scC z d0)), (2, .c (iC (k : Int))), (4, .lp 4 0), (7, iX .i64 ((offM d0 (b.tabs.take i) : Nat) : Int)), (8, iX .i64 ((i : Nat) : Int))], lv [(4, .box (zBd b))], H⟩) (fun i => k - i) 0 ⟨_, by exact Wk.keep 27 _ _ _ rfl ⟨rfl, rfl, rfl, rfl, rfl, trivial⟩ ⟨rfl, trivial⟩ (fun _ _ h => h) rfl, Nat.zero_le _, rfl⟩ (fun i s hs => ?_)
 obtain ⟨hi0, rfl⟩ := hs
 refine AW.seq (sR (sM ?_))
 refine sM ?_
 refine Z10 ?_
 refine Z3 ?_
 refine AW.condD rfl ?_ ?_ <;> intro h11
 ·
  have hik : i < k := by omega
  have hi : i < b.tabs.length := by omega
  obtain ⟨p1, p2⟩ := ht i hi
  have hu : b.tabs[i].toNat < d0.length := by omega
  have eu := tbAt_get hu
  have hidx : (d0.map tbT)[b.tabs[i].toNat]? = some (tbT (tbAt d0 b.tabs[i])) := by rw [List.getElem?_map, List.getElem?_eq_getElem hu, ← eu]; rfl
  have hnc := ncol_le hc b.tabs[i]
  have hnn : ncol d0 b.tabs[i] = (tbAt d0 b.tabs[i]).cols.length := rfl
  have hof : offM d0 (b.tabs.take i) ≤ 1000 * 17592186044000 := Nat.le_trans (offM_le hc (b.tabs.take i)) (Nat.mul_le_mul_right _ (Nat.le_trans (List.length_take_le _ _) (by omega)))
  refine AW.skip (AW.seq (AW.block (AW.reg (sM ?_))))
  refine sM ?_
  refine Z1 Fx.fl51_2 ?_
  refine Z0 Fx.ty24 ?_
  refine sM ?_
  refine Z9 Fx.sl24 (idx_map (f := i64T) hi) ?_
  refine Z11 (.a _) Fx.ty3 ?_
  refine Z9 Fx.sl23 (hidx) ?_
  refine SeqK.q (q_fieldP _ rfl Fx.fl64_1 rfl rfl) rfl rfl rfl ?_
  refine Z11 (.a _) Fx.ty36 ?_
  refine Z14 Fx.un36 ?_
  refine SeqK.q (q_add _ rfl rfl rfl ((by simp only [List.length_map]; rw [w64 (by omega) (by omega), offM_take hi]; rfl : IntKind.i64.wrap _ = ((offM d0 (b.tabs.take (i + 1)) : Nat) : Int)))) rfl rfl rfl ?_
  refine sB ?_
  refine AW.reg (sM ?_)
  refine Z2 ?_
  refine sB ?_
  exact ⟨i + 1, _, by exact Wk.keep 27 _ _ _ rfl ⟨rfl, rfl, rfl, rfl, rfl, trivial⟩ ⟨rfl, trivial⟩ (fun _ _ h => h) rfl, by omega, hik, rfl⟩
 refine AW.exit ?_
 refine eth_e ?_
 refine eth_e ?_
 refine exit_here ?_
 refine AW.seq ?_
 obtain rfl : i = k := by omega
 refine AW.reg (sM ?_)
 refine sB ?_
 refine AW.ret ?_
 exact f1 (q := ⟨rfl, rfl⟩)

def ownL (s : List Tb) (v : Int) : List Int → Nat → Nat → Int
  | [], _, _ => -1
  | t :: r, o, i => if (o : Int) ≤ v ∧ v < (o + ncol s t : Nat) then (i : Int) else ownL s v r (o + ncol s t) (i + 1)
abbrev ownM (s : List Tb) (l : List Int) (v : Int) : Int := ownL s v l 0 0
theorem ownL_drop {s : List Tb} {v : Int} {l : List Int} {i : Nat} (hi : i < l.length) : ownL s v (l.drop i) (offM s (l.take i)) i = if (offM s (l.take i) : Int) ≤ v ∧ v < (offM s (l.take i) + ncol s l[i] : Nat) then (i : Int) else ownL s v (l.drop (i + 1)) (offM s (l.take (i + 1))) (i + 1) := by
  rw [List.drop_eq_getElem_cons hi, ownL, offM_take hi]

set_option maxHeartbeats 4000000 in
set_option maxRecDepth 20000 in
theorem owner_any (d0 : List Tb) (z : Nz) (b : Bd) (v : Int) (hc : ∀ t ∈ d0, t.cols.length ≤ 17592186044000) (ht : tabP d0 b.tabs) (hn : b.tabs.length ≤ 1000) : Pure Tryz.prog 33 [scC z d0, bdC b, iC v] (.c (iC (ownM d0 b.tabs v))) := by
 intro H
 refine Spec.enter Tryz.func33 rfl ?_
 refine AW.wk (Wk.keep 40 [(0, .c (scC z d0)), (1, .c (bdC b)), (2, .c (iC v))] [] (H) rfl ⟨rfl, rfl, rfl, trivial⟩ trivial (fun _ _ h => h) rfl) ?_
 refine sR (Z16 (r := [_, _, _, _, _, _, _, _, _, _, _, _, _, _, _, _, _, _, _, _, _, _, _, _, _, _]) ?_)
 refine sB ?_
 refine AW.seq (sR (sB ?_))
 refine AW.block ?_
 refine AW.loop (fun (i : Nat) s => (i ≤ b.tabs.length ∧ ownL d0 v (b.tabs.drop i) (offM d0 (b.tabs.take i)) i = ownM d0 b.tabs v) ∧ s = ⟨40, sp [(0, .c (scC z d0)), (2, .c (iC v)), (4, .lp 4 0), (6, .c (iC 0)), (7, iX .i64 ((i : Nat) : Int))], lv [(4, .box (zBd b))], H⟩) (fun i => b.tabs.length - i) 0 ⟨_, by exact Wk.keep 40 _ _ _ rfl ⟨rfl, rfl, rfl, rfl, rfl, trivial⟩ ⟨rfl, trivial⟩ (fun _ _ h => h) rfl, ⟨Nat.zero_le _, rfl⟩, rfl⟩ (fun i s hs => ?_)
 obtain ⟨⟨hi0, hI⟩, rfl⟩ := hs
 refine AW.seq (sR (sM ?_))
 refine Z1 Fx.fl51_2 ?_
 refine Z0 Fx.ty24 ?_
 refine Z14 Fx.un24 ?_
 refine Z10 ?_
 refine Z3 ?_
 refine AW.condD rfl ?_ ?_ <;> intro h13
 ·
  have hi : i < b.tabs.length := by rw [List.length_map] at h13; omega
  obtain ⟨p1, p2⟩ := ht i hi
  have hu : b.tabs[i].toNat < d0.length := by omega
  have eu := tbAt_get hu
  have hidx : (d0.map tbT)[b.tabs[i].toNat]? = some (tbT (tbAt d0 b.tabs[i])) := by rw [List.getElem?_map, List.getElem?_eq_getElem hu, ← eu]; rfl
  have hnc := ncol_le hc b.tabs[i]
  have hnn : ncol d0 b.tabs[i] = (tbAt d0 b.tabs[i]).cols.length := rfl
  have hof : offM d0 (b.tabs.take i) ≤ 1000 * 17592186044000 := Nat.le_trans (offM_le hc (b.tabs.take i)) (Nat.mul_le_mul_right _ (Nat.le_trans (List.length_take_le _ _) (by omega)))
  refine AW.skip (AW.seq (AW.block (sR (sM ?_))))
  refine Z12 (r := .g [_, _, _, _, _, _, _, _, _, _, _, _, _, _, _, _, _, _, _, _, _, _, _, _, _, _]) Fx.ty51 ?_
  refine sM ?_
  refine SeqK.q (q_call _ rfl Fx.fn54 rfl (offset_any d0 z b i hc ht hn (by omega)) rfl) rfl rfl rfl ?_
  refine sB ?_
  refine sR (sM ?_)
  refine sM ?_
  refine SeqK.q (q_geq rfl rfl rfl) rfl rfl rfl ?_
  refine Z19 (fun g23 => ?_) (fun g23 => ?_)
  ·
   refine Z13 ?_
   refine Z13 ?_
   refine Z13 ?_
   refine Z6 Fx.fl51_2 ?_
   refine Z5 Fx.ty24 ?_
   refine Z13 ?_
   refine SeqK.on (q_index _ rfl Fx.sl24 rfl rfl (by omega) (idx_map (f := i64T) hi)) rfl rfl rfl rfl rfl ?_
   refine SeqK.on (q_load (.a _) rfl Fx.ty3 rfl rfl rfl) rfl rfl rfl rfl rfl ?_
   refine SeqK.on (q_index _ rfl Fx.sl23 rfl rfl (by omega) (hidx)) rfl rfl rfl rfl rfl ?_
   refine SeqK.on (q_fieldP _ rfl Fx.fl64_1 rfl rfl) rfl rfl rfl rfl rfl ?_
   refine SeqK.on (q_load (.a _) rfl Fx.ty36 rfl rfl rfl) rfl rfl rfl rfl rfl ?_
   refine Z28 Fx.un36 ?_
   refine SeqK.on (q_add _ rfl rfl rfl ((by simp only [List.length_map]; rw [w64 (by omega) (by omega)]; omega : IntKind.i64.wrap _ = ((offM d0 (b.tabs.take i) + ncol d0 b.tabs[i] : Nat) : Int)))) rfl rfl rfl rfl rfl ?_
   refine SeqK.on (q_lss rfl rfl rfl) rfl rfl rfl rfl rfl ?_
   refine Z4 ?_
   refine Z3 ?_
   refine AW.condD rfl ?_ ?_ <;> intro h38
   ·
    refine sR (sM ?_)
    refine sB ?_
    refine AW.ret ?_
    exact f1 (q := ⟨iCe (by rw [← hI, ownL_drop hi, if_pos (by omega)]), rfl⟩)
   refine AW.skip (AW.reg (sM ?_))
   refine Z2 ?_
   refine sB ?_
   exact ⟨i + 1, _, by exact Wk.keep 40 _ _ _ rfl ⟨rfl, rfl, rfl, rfl, rfl, trivial⟩ ⟨rfl, trivial⟩ (fun _ _ h => h) rfl, by omega, ⟨hi, by rw [← hI, ownL_drop hi, if_neg (by omega)]⟩, rfl⟩
  iterate 14 refine SeqK.off rfl rfl rfl rfl rfl rfl ?_
  refine Z7 ?_
  refine Z3 (AW.condF rfl ?_)
  refine AW.skip (AW.reg (sM ?_))
  refine Z2 ?_
  refine sB ?_
  exact ⟨i + 1, _, by exact Wk.keep 40 _ _ _ rfl ⟨rfl, rfl, rfl, rfl, rfl, trivial⟩ ⟨rfl, trivial⟩ (fun _ _ h => h) rfl, by omega, ⟨hi, by rw [← hI, ownL_drop hi, if_neg (by omega)]⟩, rfl⟩
 refine AW.exit ?_
 refine eth_e ?_
 refine eth_e ?_
 refine exit_here ?_
 refine sR (sB ?_)
 refine AW.ret ?_
 exact f1 (q := ⟨iCe (by rw [← hI, List.drop_eq_nil_of_le (by rw [List.length_map] at h13; omega), ownL]), rfl⟩)

mutual
def witB (s : List Tb) (tabs l : List Int) : Ex → Bool
  | .mk op tb nm ix vk vn vs xs => decide (op = 2 → ownM s tabs ix ∈ l) && witBs s tabs l xs
def witBs (s : List Tb) (tabs l : List Int) : List Ex → Bool
  | [] => true
  | e :: r => witB s tabs l e && witBs s tabs l r
end
theorem witBs_all {s : List Tb} {tabs l : List Int} : ∀ {xs : List Ex}, witBs s tabs l xs = xs.all (witB s tabs l)
  | [] => by simp [witBs]
  | e :: r => by rw [witBs, witBs_all, List.all_cons]
theorem witB_eq {s : List Tb} {tabs l : List Int} (e : Ex) : witB s tabs l e = (decide (e.op = 2 → ownM s tabs e.ix ∈ l) && e.args.all (witB s tabs l)) := by
  cases e; rw [witB, witBs_all]

set_option maxHeartbeats 4000000 in
set_option maxRecDepth 20000 in
theorem within_of (d0 : List Tb) (z : Nz) (b : Bd) (l : List Int) (zl : Nz) (e : Ex) (hc : ∀ t ∈ d0, t.cols.length ≤ 17592186044000) (ht : tabP d0 b.tabs) (hn : b.tabs.length ≤ 1000) (hl : l.length ≤ 17592186044000) (ho : okE e) (ih : ∀ a ∈ e.args, Pure Tryz.prog 14 [scC z d0, bdC b, exC a, iL zl l] (.c (bC (witB d0 b.tabs l a)))) : Pure Tryz.prog 14 [scC z d0, bdC b, exC e, iL zl l] (.c (bC (witB d0 b.tabs l e))) := by
 intro H
 refine Spec.enter Tryz.func14 rfl ?_
 refine AW.wk (Wk.keep 40 [(0, .c (scC z d0)), (1, .c (bdC b)), (2, .c (exC e)), (3, .c (iL zl l))] [] (H) rfl ⟨rfl, rfl, rfl, rfl, trivial⟩ trivial (fun _ _ h => h) rfl) ?_
 refine sR (Z16 (r := [_, _, _, _, _, _, _, _, _, _, _, _, _, _, _, _, _, _, _, _, _, _, _, _, _, _]) ?_)
 refine Z16 (r := [_, _, _, _, _, _, _, _]) ?_
 refine sB ?_
 refine AW.seq (AW.seq ?_)
 have k4 := (okE_iff.1 ho).1.2.2.2
 have hp := witB_eq (s := d0) (tabs := b.tabs) (l := l) e
 refine AW.reg (Z1 Fx.fl30_0 ?_)
 refine Z0 Fx.ty3 ?_
 refine Z8 ?_
 refine Z19 (fun g13 => ?_) (fun g13 => ?_)
 ·
  refine Z13 ?_
  refine Z13 ?_
  refine Z37 (r := .g [_, _, _, _, _, _, _, _, _, _, _, _, _, _, _, _, _, _, _, _, _, _, _, _, _, _]) Fx.ty51 ?_
  refine Z6 Fx.fl30_3 ?_
  refine Z5 Fx.ty3 ?_
  refine SeqK.on (q_call _ rfl Fx.fn33 rfl (owner_any d0 z b e.ix hc ht hn) rfl) rfl rfl rfl rfl rfl ?_
  refine SeqK.on (q_call _ rfl Fx.fn23 rfl (has_any l zl _ hl) rfl) rfl rfl rfl rfl rfl ?_
  refine SeqK.on (q_not rfl rfl) rfl rfl rfl rfl rfl ?_
  refine Z4 ?_
  refine Z3 ?_
  refine AW.cond _ rfl (fun h22 => ?_) (fun h22 => ?_)
  ·
   refine sR (sB ?_)
   refine AW.ret ?_
   exact f1 (q := ⟨bCe (by rw [hp, decide_eq_false (fun h => nd_t h22 (h g13))]; rfl), rfl⟩)
  refine AW.skip (AW.seq (AW.seq ?_))
  have hA : e.op = 2 → ownM d0 b.tabs e.ix ∈ l := fun h9 => by first | exact absurd h9 g13 | exact nd_f h22
  refine AW.reg (sB ?_)
  refine AW.block ?_
  refine AW.loop (fun (i : Nat) s => (i ≤ e.args.length ∧ ∀ j (h : j < e.args.length), j < i → witB d0 b.tabs l e.args[j] = true) ∧ s = ⟨40, sp [(0, .c (scC z d0)), (3, .c (iL zl l)), (5, .lp 5 0), (6, .lp 6 0), (8, .c (bC false)), (9, iX .i64 ((i : Nat) : Int))], lv [(5, .box (zBd b)), (6, .box (zEx e))], H⟩) (fun i => e.args.length - i) 0 ⟨_, by exact Wk.keep 40 _ _ _ rfl ⟨rfl, rfl, rfl, rfl, rfl, rfl, trivial⟩ ⟨rfl, rfl, trivial⟩ (fun _ _ h => h) rfl, ⟨Nat.zero_le _, up0⟩, rfl⟩ (fun i s hs => ?_)
  obtain ⟨⟨hi0, hU⟩, rfl⟩ := hs
  refine AW.seq (sR (sM ?_))
  refine Z1 Fx.fl30_5 ?_
  refine Z0 Fx.ty28 ?_
  refine Z14 Fx.un28 ?_
  refine Z10 ?_
  refine Z3 ?_
  refine AW.condD rfl ?_ ?_ <;> intro h27
  ·
   have hi : i < e.args.length := by rw [List.length_map] at h27; omega
   refine AW.skip (AW.seq (AW.block (AW.seq (AW.draw Fx.mo ?_))))
   refine Z18 ?_
   refine Z45 (r := .g [_, _, _, _, _, _, _, _, _, _, _, _, _, _, _, _, _, _, _, _, _, _, _, _, _, _]) Fx.ty51 ?_
   refine Z23 Fx.fl30_5 ?_
   refine Z20 Fx.ty28 ?_
   refine Z18 ?_
   refine Z27 Fx.sl28 (idx_ex hi) ?_
   refine Z26 (.g [_, _, _, _, _, _, _, _]) Fx.ty30 ?_
   refine Z18 ?_
   refine Z52 Fx.fn14 (ih _ (List.getElem_mem hi)) ?_
   refine LexK.q (q_not rfl rfl) rfl rfl rfl ?_
   refine Z30 ?_
   refine AW.cond _ rfl (fun h39 => ?_) (fun h39 => ?_)
   ·
    have hno : witB d0 b.tabs l e.args[i] = false := by simpa using h39
    refine sR (sB ?_)
    refine AW.ret ?_
    exact f1 (q := ⟨bCe (by rw [hp, List.all_eq_false.2 ⟨_, List.getElem_mem hi, by simp [hno]⟩]; simp), rfl⟩)
   have hyes : witB d0 b.tabs l e.args[i] = true := by simpa using h39
   refine AW.skip (AW.reg (sM ?_))
   refine Z2 ?_
   refine sB ?_
   exact ⟨i + 1, _, by exact Wk.keep 40 _ _ _ rfl ⟨rfl, rfl, rfl, rfl, rfl, rfl, trivial⟩ ⟨rfl, rfl, trivial⟩ (fun _ _ h => h) rfl, by omega, ⟨hi, upS hi hU (hyes)⟩, rfl⟩
  refine AW.exit ?_
  refine eth_e ?_
  refine eth_e ?_
  refine exit_here ?_
  refine sR (sB ?_)
  refine AW.ret ?_
  exact f1 (q := ⟨bCe (by rw [hp, decide_eq_true hA, List.all_eq_true.2 fun x hx => by obtain ⟨j, hj, rfl⟩ := List.mem_iff_getElem.1 hx; exact upE hU (by rw [List.length_map] at h27; omega) j hj]; rfl), rfl⟩)
 iterate 8 refine SeqK.off rfl rfl rfl rfl rfl rfl ?_
 refine Z7 ?_
 refine Z3 (AW.condF rfl ?_)
 refine AW.skip (AW.seq (AW.seq ?_))
 have hA : e.op = 2 → ownM d0 b.tabs e.ix ∈ l := fun h9 => by first | exact absurd h9 g13 | exact nd_f h22
 refine AW.reg (sB ?_)
 refine AW.block ?_
 refine AW.loop (fun (i : Nat) s => (i ≤ e.args.length ∧ ∀ j (h : j < e.args.length), j < i → witB d0 b.tabs l e.args[j] = true) ∧ s = ⟨40, sp [(0, .c (scC z d0)), (3, .c (iL zl l)), (5, .lp 5 0), (6, .lp 6 0), (8, .c (bC false)), (9, iX .i64 ((i : Nat) : Int))], lv [(5, .box (zBd b)), (6, .box (zEx e))], H⟩) (fun i => e.args.length - i) 0 ⟨_, by exact Wk.keep 40 _ _ _ rfl ⟨rfl, rfl, rfl, rfl, rfl, rfl, trivial⟩ ⟨rfl, rfl, trivial⟩ (fun _ _ h => h) rfl, ⟨Nat.zero_le _, up0⟩, rfl⟩ (fun i s hs => ?_)
 obtain ⟨⟨hi0, hU⟩, rfl⟩ := hs
 refine AW.seq (sR (sM ?_))
 refine Z1 Fx.fl30_5 ?_
 refine Z0 Fx.ty28 ?_
 refine Z14 Fx.un28 ?_
 refine Z10 ?_
 refine Z3 ?_
 refine AW.condD rfl ?_ ?_ <;> intro h27
 ·
  have hi : i < e.args.length := by rw [List.length_map] at h27; omega
  refine AW.skip (AW.seq (AW.block (AW.seq (AW.draw Fx.mo ?_))))
  refine Z18 ?_
  refine Z45 (r := .g [_, _, _, _, _, _, _, _, _, _, _, _, _, _, _, _, _, _, _, _, _, _, _, _, _, _]) Fx.ty51 ?_
  refine Z23 Fx.fl30_5 ?_
  refine Z20 Fx.ty28 ?_
  refine Z18 ?_
  refine Z27 Fx.sl28 (idx_ex hi) ?_
  refine Z26 (.g [_, _, _, _, _, _, _, _]) Fx.ty30 ?_
  refine Z18 ?_
  refine Z52 Fx.fn14 (ih _ (List.getElem_mem hi)) ?_
  refine LexK.q (q_not rfl rfl) rfl rfl rfl ?_
  refine Z30 ?_
  refine AW.cond _ rfl (fun h39 => ?_) (fun h39 => ?_)
  ·
   have hno : witB d0 b.tabs l e.args[i] = false := by simpa using h39
   refine sR (sB ?_)
   refine AW.ret ?_
   exact f1 (q := ⟨bCe (by rw [hp, List.all_eq_false.2 ⟨_, List.getElem_mem hi, by simp [hno]⟩]; simp), rfl⟩)
  have hyes : witB d0 b.tabs l e.args[i] = true := by simpa using h39
  refine AW.skip (AW.reg (sM ?_))
  refine Z2 ?_
  refine sB ?_
  exact ⟨i + 1, _, by exact Wk.keep 40 _ _ _ rfl ⟨rfl, rfl, rfl, rfl, rfl, rfl, trivial⟩ ⟨rfl, rfl, trivial⟩ (fun _ _ h => h) rfl, by omega, ⟨hi, upS hi hU (hyes)⟩, rfl⟩
 refine AW.exit ?_
 refine eth_e ?_
 refine eth_e ?_
 refine exit_here ?_
 refine sR (sB ?_)
 refine AW.ret ?_
 exact f1 (q := ⟨bCe (by rw [hp, decide_eq_true hA, List.all_eq_true.2 fun x hx => by obtain ⟨j, hj, rfl⟩ := List.mem_iff_getElem.1 hx; exact upE hU (by rw [List.length_map] at h27; omega) j hj]; rfl), rfl⟩)

theorem within_any (d0 : List Tb) (z : Nz) (b : Bd) (l : List Int) (zl : Nz) (hc : ∀ t ∈ d0, t.cols.length ≤ 17592186044000) (ht : tabP d0 b.tabs) (hn : b.tabs.length ≤ 1000) (hl : l.length ≤ 17592186044000) (e : Ex) : okE e → Pure Tryz.prog 14 [scC z d0, bdC b, exC e, iL zl l] (.c (bC (witB d0 b.tabs l e))) := by
  induction e using Ex.rec' with
  | h e ih => exact fun ho => within_of d0 z b l zl e hc ht hn hl ho fun a ha => ih a ha ((okE_iff.1 ho).2 a ha)

end Go.Proofs.YtihlgigaejhilaaGreatDoor.W
namespace Go.Proofs.YtihlgigaejhilaaGreatDoor.W
open Go.RowKit E
/-! plans -/
inductive Pl where
  | mk (k src : Int) (cols : List Int) (keys : List Ex) (flt : Ex) (args : List Pl)
@[reducible] def Pl.k : Pl → Int | .mk a _ _ _ _ _ => a
@[reducible] def Pl.src : Pl → Int | .mk _ a _ _ _ _ => a
@[reducible] def Pl.cols : Pl → List Int | .mk _ _ a _ _ _ => a
@[reducible] def Pl.keys : Pl → List Ex | .mk _ _ _ a _ _ => a
@[reducible] def Pl.flt : Pl → Ex | .mk _ _ _ _ a _ => a
@[reducible] def Pl.args : Pl → List Pl | .mk _ _ _ _ _ a => a
mutual
def plT' : Pl → List E.T
  | .mk k src cols keys flt args => [.v (.int .i64 k), .v (.int .i64 src), .sl .un 1 (cols.map i64T), .sl .un 8 (keys.map exT'), .v (.int .i64 flt.op), .v (.string flt.tb), .v (.string flt.nm), .v (.int .i64 flt.ix), .v (.int .i64 flt.vk), .v (.int .i64 flt.vn), .v (.string flt.vs), .sl .un 8 (flt.args.map exT'), .sl .un 13 (plTs args)]
def plTs : List Pl → List (List E.T)
  | [] => []
  | e :: r => plT' e :: plTs r
end
theorem plTs_map : ∀ l, plTs l = l.map plT'
  | [] => rfl
  | t :: r => by rw [plTs, plTs_map r, List.map_cons]
abbrev plL (p : Pl) : List E.T := [.v (.int .i64 p.k), .v (.int .i64 p.src), .sl .un 1 (p.cols.map i64T), .sl .un 8 (p.keys.map exT'), .v (.int .i64 p.flt.op), .v (.string p.flt.tb), .v (.string p.flt.nm), .v (.int .i64 p.flt.ix), .v (.int .i64 p.flt.vk), .v (.int .i64 p.flt.vn), .v (.string p.flt.vs), .sl .un 8 (p.flt.args.map exT'), .sl .un 13 (p.args.map plT')]
theorem plT_eq (p : Pl) : plT' p = plL p := by cases p; rw [plT', plTs_map]
abbrev plC (p : Pl) : C := .g [.t (.v (.int .i64 p.k)), .t (.v (.int .i64 p.src)), .t (.sl .un 1 (p.cols.map i64T)), .t (.sl .un 8 (p.keys.map exT')), .t (.v (.int .i64 p.flt.op)), .t (.v (.string p.flt.tb)), .t (.v (.string p.flt.nm)), .t (.v (.int .i64 p.flt.ix)), .t (.v (.int .i64 p.flt.vk)), .t (.v (.int .i64 p.flt.vn)), .t (.v (.string p.flt.vs)), .t (.sl .un 8 (p.flt.args.map exT')), .t (.sl .un 13 (p.args.map plT'))]
abbrev plsC (z : Nz) (l : List Pl) : C := .a (.t (.sl z 13 (l.map plT')))
theorem idx_pl {l : List Pl} {i : Nat} (h : i < l.length) : (l.map plT')[i]? = some (plL l[i]) := by rw [List.getElem?_map, List.getElem?_eq_getElem h, Option.map_some, plT_eq]
theorem pargs_lt {p a : Pl} (h : a ∈ p.args) : SizeOf.sizeOf a < SizeOf.sizeOf p := by
  cases p with | mk k src cols keys flt args =>
  have : SizeOf.sizeOf a < SizeOf.sizeOf args := List.sizeOf_lt_of_mem h
  simp only [Pl.mk.sizeOf_spec]; omega
theorem Pl.rec' {motive : Pl → Prop} (h : ∀ p, (∀ a ∈ p.args, motive a) → motive p) (p : Pl) : motive p := by
  have key : ∀ n, ∀ p : Pl, SizeOf.sizeOf p < n → motive p := by
    intro n
    induction n with
    | zero => intro p hp; omega
    | succ n ih => intro p hp; exact h p fun a ha => ih a (by have := pargs_lt ha; omega)
  exact key _ p (Nat.lt_succ_self _)
mutual
def okP : Pl → Prop
  | .mk _ _ cols keys flt args => (cols.length ≤ 17592186044000 ∧ keys.length ≤ 17592186044000 ∧ args.length ≤ 17592186044000 ∧ okE flt ∧ ∀ k ∈ keys, okE k) ∧ okPs args
def okPs : List Pl → Prop
  | [] => True
  | e :: r => okP e ∧ okPs r
end
theorem okPs_iff : ∀ {l : List Pl}, okPs l ↔ ∀ a ∈ l, okP a
  | [] => by simp [okPs]
  | e :: r => by rw [okPs, okPs_iff]; simp
theorem okP_iff {p : Pl} : okP p ↔ (p.cols.length ≤ 17592186044000 ∧ p.keys.length ≤ 17592186044000 ∧ p.args.length ≤ 17592186044000 ∧ okE p.flt ∧ ∀ k ∈ p.keys, okE k) ∧ ∀ a ∈ p.args, okP a := by
  cases p; rw [okP, okPs_iff]
mutual
def prB : Ex → Bool
  | .mk op _ _ _ _ _ _ xs => decide (op = 18 → xs.length = 2) && prBs xs
def prBs : List Ex → Bool
  | [] => true
  | e :: r => prB e && prBs r
end
theorem prBs_all : ∀ {xs : List Ex}, prBs xs = xs.all prB
  | [] => by simp [prBs]
  | e :: r => by rw [prBs, prBs_all, List.all_cons]
theorem prB_eq (e : Ex) : prB e = (decide (andP e) && e.args.all prB) := by
  cases e; rw [prB, prBs_all]

set_option maxHeartbeats 4000000 in
set_option maxRecDepth 20000 in
theorem pairs_of (e : Ex) (ho : okE e) (ih : ∀ a ∈ e.args, Pure Tryz.prog 42 [exC a] (.c (bC (prB a)))) : Pure Tryz.prog 42 [exC e] (.c (bC (prB e))) := by
 intro H
 refine Spec.enter Tryz.func42 rfl ?_
 refine AW.wk (Wk.keep 27 [(0, .c (exC e))] [] (H) rfl ⟨rfl, trivial⟩ trivial (fun _ _ h => h) rfl) ?_
 refine sR (Z16 (r := [_, _, _, _, _, _, _, _]) ?_)
 refine sB ?_
 refine AW.seq (AW.seq ?_)
 have k4 := (okE_iff.1 ho).1.2.2.2
 have hp := prB_eq e
 refine AW.reg (Z1 Fx.fl30_0 ?_)
 refine Z0 Fx.ty3 ?_
 refine Z8 ?_
 refine Z19 (fun g7 => ?_) (fun g7 => ?_)
 ·
  refine Z6 Fx.fl30_5 ?_
  refine Z5 Fx.ty28 ?_
  refine Z28 Fx.un28 ?_
  refine SeqK.on (q_neq rfl rfl rfl) rfl rfl rfl rfl rfl ?_
  refine Z4 ?_
  refine Z3 ?_
  refine AW.condD rfl ?_ ?_ <;> intro h12
  ·
   refine sR (sB ?_)
   refine AW.ret ?_
   exact f1 (q := ⟨bCe (by rw [hp, decide_eq_false (p := andP e) (fun h => by have := h (by assumption); simp only [List.length_map] at *; omega)]; rfl), rfl⟩)
  refine AW.skip (AW.seq (AW.seq ?_))
  have hA : andP e := by intro h9; first | (simp only [List.length_map] at *; omega) | omega
  refine AW.reg (sB ?_)
  refine AW.block ?_
  refine AW.loop (fun (i : Nat) s => (i ≤ e.args.length ∧ ∀ j (h : j < e.args.length), j < i → prB e.args[j] = true) ∧ s = ⟨27, sp [(1, .lp 1 0), (2, .c (bC false)), (3, iX .i64 ((i : Nat) : Int))], lv [(1, .box (zEx e))], H⟩) (fun i => e.args.length - i) 0 ⟨_, by exact Wk.keep 27 _ _ _ rfl ⟨rfl, rfl, rfl, trivial⟩ ⟨rfl, trivial⟩ (fun _ _ h => h) rfl, ⟨Nat.zero_le _, up0⟩, rfl⟩ (fun i s hs => ?_)
  obtain ⟨⟨hi0, hU⟩, rfl⟩ := hs
  refine AW.seq (sR (sM ?_))
  refine Z1 Fx.fl30_5 ?_
  refine Z0 Fx.ty28 ?_
  refine Z14 Fx.un28 ?_
  refine Z10 ?_
  refine Z3 ?_
  refine AW.condD rfl ?_ ?_ <;> intro h17
  ·
   have hi : i < e.args.length := by rw [List.length_map] at h17; omega
   refine AW.skip (AW.seq (AW.block (sR (Z1 Fx.fl30_5 ?_))))
   refine Z0 Fx.ty28 ?_
   refine sM ?_
   refine Z9 Fx.sl28 (idx_ex hi) ?_
   refine Z11 (.g [_, _, _, _, _, _, _, _]) Fx.ty30 ?_
   refine Z22 Fx.fn42 (ih _ (List.getElem_mem hi)) ?_
   refine Z33 ?_
   refine Z3 ?_
   refine AW.cond _ rfl (fun h26 => ?_) (fun h26 => ?_)
   ·
    have hno : prB e.args[i] = false := by simpa using h26
    refine sR (sB ?_)
    refine AW.ret ?_
    exact f1 (q := ⟨bCe (by rw [hp, List.all_eq_false.2 ⟨_, List.getElem_mem hi, by simp [hno]⟩]; simp), rfl⟩)
   have hyes : prB e.args[i] = true := by simpa using h26
   refine AW.skip (AW.reg (sM ?_))
   refine Z2 ?_
   refine sB ?_
   exact ⟨i + 1, _, by exact Wk.keep 27 _ _ _ rfl ⟨rfl, rfl, rfl, trivial⟩ ⟨rfl, trivial⟩ (fun _ _ h => h) rfl, by omega, ⟨hi, upS hi hU (hyes)⟩, rfl⟩
  refine AW.exit ?_
  refine eth_e ?_
  refine eth_e ?_
  refine exit_here ?_
  refine sR (sB ?_)
  refine AW.ret ?_
  exact f1 (q := ⟨bCe (by rw [hp, decide_eq_true hA, List.all_eq_true.2 fun x hx => by obtain ⟨j, hj, rfl⟩ := List.mem_iff_getElem.1 hx; exact upE hU (by rw [List.length_map] at h17; omega) j hj]; rfl), rfl⟩)
 iterate 4 refine SeqK.off rfl rfl rfl rfl rfl rfl ?_
 refine Z7 ?_
 refine Z3 (AW.condF rfl ?_)
 refine AW.skip (AW.seq (AW.seq ?_))
 have hA : andP e := by intro h9; first | (simp only [List.length_map] at *; omega) | omega
 refine AW.reg (sB ?_)
 refine AW.block ?_
 refine AW.loop (fun (i : Nat) s => (i ≤ e.args.length ∧ ∀ j (h : j < e.args.length), j < i → prB e.args[j] = true) ∧ s = ⟨27, sp [(1, .lp 1 0), (2, .c (bC false)), (3, iX .i64 ((i : Nat) : Int))], lv [(1, .box (zEx e))], H⟩) (fun i => e.args.length - i) 0 ⟨_, by exact Wk.keep 27 _ _ _ rfl ⟨rfl, rfl, rfl, trivial⟩ ⟨rfl, trivial⟩ (fun _ _ h => h) rfl, ⟨Nat.zero_le _, up0⟩, rfl⟩ (fun i s hs => ?_)
 obtain ⟨⟨hi0, hU⟩, rfl⟩ := hs
 refine AW.seq (sR (sM ?_))
 refine Z1 Fx.fl30_5 ?_
 refine Z0 Fx.ty28 ?_
 refine Z14 Fx.un28 ?_
 refine Z10 ?_
 refine Z3 ?_
 refine AW.condD rfl ?_ ?_ <;> intro h17
 ·
  have hi : i < e.args.length := by rw [List.length_map] at h17; omega
  refine AW.skip (AW.seq (AW.block (sR (Z1 Fx.fl30_5 ?_))))
  refine Z0 Fx.ty28 ?_
  refine sM ?_
  refine Z9 Fx.sl28 (idx_ex hi) ?_
  refine Z11 (.g [_, _, _, _, _, _, _, _]) Fx.ty30 ?_
  refine Z22 Fx.fn42 (ih _ (List.getElem_mem hi)) ?_
  refine Z33 ?_
  refine Z3 ?_
  refine AW.cond _ rfl (fun h26 => ?_) (fun h26 => ?_)
  ·
   have hno : prB e.args[i] = false := by simpa using h26
   refine sR (sB ?_)
   refine AW.ret ?_
   exact f1 (q := ⟨bCe (by rw [hp, List.all_eq_false.2 ⟨_, List.getElem_mem hi, by simp [hno]⟩]; simp), rfl⟩)
  have hyes : prB e.args[i] = true := by simpa using h26
  refine AW.skip (AW.reg (sM ?_))
  refine Z2 ?_
  refine sB ?_
  exact ⟨i + 1, _, by exact Wk.keep 27 _ _ _ rfl ⟨rfl, rfl, rfl, trivial⟩ ⟨rfl, trivial⟩ (fun _ _ h => h) rfl, by omega, ⟨hi, upS hi hU (hyes)⟩, rfl⟩
 refine AW.exit ?_
 refine eth_e ?_
 refine eth_e ?_
 refine exit_here ?_
 refine sR (sB ?_)
 refine AW.ret ?_
 exact f1 (q := ⟨bCe (by rw [hp, decide_eq_true hA, List.all_eq_true.2 fun x hx => by obtain ⟨j, hj, rfl⟩ := List.mem_iff_getElem.1 hx; exact upE hU (by rw [List.length_map] at h17; omega) j hj]; rfl), rfl⟩)

theorem pairs_any (e : Ex) : okE e → Pure Tryz.prog 42 [exC e] (.c (bC (prB e))) := by
  induction e using Ex.rec' with
  | h e ih => exact fun ho => pairs_of e ho fun a ha => ih a ha ((okE_iff.1 ho).2 a ha)
abbrev txt (e : Ex) : Nat := e.nm.size + e.tb.size + e.vs.size
mutual
/-- the number of nodes, as far as a limit -/
def nod : Ex → Nat → Nat
  | .mk _ tb nm _ _ _ vs xs, m => if 100 < nm.size + tb.size + vs.size then m + 1 else nods xs m 1
def nods : List Ex → Nat → Nat → Nat
  | [], _, n => n
  | e :: r, m, n => if n ≤ m then nods r m (n + nod e (m - n)) else n
end
theorem nod_big {e : Ex} {m : Nat} (h : 100 < txt e) : nod e m = m + 1 := by cases e; rw [nod, if_pos h]
theorem nod_sm {e : Ex} {m : Nat} (h : ¬ 100 < txt e) : nod e m = nods e.args m 1 := by cases e; rw [nod, if_neg h]
theorem nods_go {l : List Ex} {m n i : Nat} (hi : i < l.length) (h : n ≤ m) : nods (l.drop i) m n = nods (l.drop (i + 1)) m (n + nod l[i] (m - n)) := by
  rw [List.drop_eq_getElem_cons hi, nods, if_pos h]
theorem nods_out {l : List Ex} {m n : Nat} (h : ¬ n ≤ m) : nods l m n = n := by
  cases l with
  | nil => rw [nods]
  | cons a l => rw [nods, if_neg h]
mutual
theorem nod_le : ∀ (e : Ex) (m : Nat), nod e m ≤ m + 1
  | .mk _ tb nm _ _ _ vs xs, m => by
    rw [nod]; split
    · omega
    · exact nods_le xs m 1 (by omega)
theorem nods_le : ∀ (l : List Ex) (m n : Nat), n ≤ m + 1 → nods l m n ≤ m + 1
  | [], m, n, h => by rw [nods]; exact h
  | e :: r, m, n, h => by
    rw [nods]; split
    · exact nods_le r m _ (by have := nod_le e (m - n); omega)
    · exact h
end

set_option maxHeartbeats 4000000 in
set_option maxRecDepth 20000 in
theorem nodes_of (e : Ex) (m : Nat) (hm : m ≤ 1000000) (ho : okE e) (ih : ∀ a ∈ e.args, ∀ k : Nat, k ≤ 1000000 → Pure Tryz.prog 41 [exC a, iC (k : Int)] (.c (iC ((nod a k : Nat) : Int)))) : Pure Tryz.prog 41 [exC e, iC (m : Int)] (.c (iC ((nod e m : Nat) : Int))) := by
 intro H
 refine Spec.enter Tryz.func41 rfl ?_
 refine AW.wk (Wk.keep 46 [(0, .c (exC e)), (1, .c (iC (m : Int)))] [] (H) rfl ⟨rfl, rfl, trivial⟩ trivial (fun _ _ h => h) rfl) ?_
 refine sR (Z16 (r := [_, _, _, _, _, _, _, _]) ?_)
 refine sB ?_
 refine AW.seq (AW.seq ?_)
 obtain ⟨k1, k2, k3, k4⟩ := (okE_iff.1 ho).1
 refine AW.reg (Z1 Fx.fl30_2 ?_)
 refine Z0 Fx.ty9 ?_
 refine SeqK.q (q_lenS rfl Fx.un9 rfl) rfl rfl rfl ?_
 refine Z1 Fx.fl30_1 ?_
 refine Z0 Fx.ty9 ?_
 refine SeqK.q (q_lenS rfl Fx.un9 rfl) rfl rfl rfl ?_
 refine Z2 ?_
 refine Z1 Fx.fl30_4 ?_
 refine Z1 Fx.fl27_2 ?_
 refine Z0 Fx.ty9 ?_
 refine SeqK.q (q_lenS rfl Fx.un9 rfl) rfl rfl rfl ?_
 refine Z2 ?_
 refine SeqK.q (q_gtr rfl rfl rfl) rfl rfl rfl ?_
 refine Z3 ?_
 refine AW.condD rfl ?_ ?_ <;> intro h19
 ·
  refine sR (sM ?_)
  refine Z2 ?_
  refine sB ?_
  refine AW.ret ?_
  exact f1 (q := ⟨iCe (by rw [nod_big (e := e) (by show 100 < e.nm.size + e.tb.size + e.vs.size; omega)]; omega), rfl⟩)
 have hs := nod_sm (e := e) (m := m) (by show ¬ 100 < e.nm.size + e.tb.size + e.vs.size; omega)
 refine AW.skip (sR (sB ?_))
 refine AW.seq (sR (sB ?_))
 refine AW.block ?_
 refine AW.loop (fun (i : Nat) s => ∃ (n : Nat), (i ≤ e.args.length ∧ n ≤ m + 1 ∧ nods (e.args.drop i) m n = nods e.args m 1) ∧ s = ⟨46, sp [(1, .c (iC (m : Int))), (2, .lp 2 0), (4, .c (iC 0)), (5, iX .i64 ((n : Nat) : Int)), (6, iX .i64 ((i : Nat) : Int))], lv [(2, .box (zEx e))], H⟩) (fun i => e.args.length - i) 0 ⟨_, by exact Wk.keep 46 _ _ _ rfl ⟨rfl, rfl, rfl, rfl, rfl, trivial⟩ ⟨rfl, trivial⟩ (fun _ _ h => h) rfl, 1, ⟨Nat.zero_le _, by omega, rfl⟩, rfl⟩ (fun i s hs => ?_)
 obtain ⟨n, ⟨hi0, hn, hI⟩, rfl⟩ := hs
 refine AW.seq (sR (sM ?_))
 refine Z1 Fx.fl30_5 ?_
 refine Z0 Fx.ty28 ?_
 refine Z14 Fx.un28 ?_
 refine Z10 ?_
 refine Z19 (fun g27 => ?_) (fun g27 => ?_)
 ·
  refine Z13 ?_
  refine Z13 ?_
  refine SeqK.on (q_leq rfl rfl rfl) rfl rfl rfl rfl rfl ?_
  refine Z4 ?_
  refine Z3 ?_
  refine AW.condD rfl ?_ ?_ <;> intro h31
  ·
   have hi : i < e.args.length := by rw [List.length_map] at g27; omega
   have hle := nod_le e.args[i] (m - n)
   refine AW.skip (AW.seq (AW.block (AW.reg (sM ?_))))
   refine Z1 Fx.fl30_5 ?_
   refine Z0 Fx.ty28 ?_
   refine sM ?_
   refine Z9 Fx.sl28 (idx_ex hi) ?_
   refine Z11 (.g [_, _, _, _, _, _, _, _]) Fx.ty30 ?_
   refine sM ?_
   refine sM ?_
   refine SeqK.q (q_sub _ rfl rfl rfl ((by rw [w64 (by omega) (by omega)]; omega : IntKind.i64.wrap _ = ((m - n : Nat) : Int)))) rfl rfl rfl ?_
   refine SeqK.q (q_call _ rfl Fx.fn41 rfl (ih _ (List.getElem_mem hi) (m - n) (by omega)) rfl) rfl rfl rfl ?_
   refine SeqK.q (q_add _ rfl rfl rfl ((by rw [w64 (by omega) (by omega)]; omega : IntKind.i64.wrap _ = ((n + nod e.args[i] (m - n) : Nat) : Int)))) rfl rfl rfl ?_
   refine sB ?_
   refine AW.reg (sM ?_)
   refine Z2 ?_
   refine sB ?_
   exact ⟨i + 1, _, by exact Wk.keep 46 _ _ _ rfl ⟨rfl, rfl, rfl, rfl, rfl, trivial⟩ ⟨rfl, trivial⟩ (fun _ _ h => h) rfl, by omega, n + nod e.args[i] (m - n), ⟨hi, by omega, by rw [← hI, nods_go hi (by omega)]⟩, rfl⟩
  refine AW.exit ?_
  refine eth_e ?_
  refine eth_e ?_
  refine exit_here ?_
  refine sR (sM ?_)
  refine sB ?_
  refine AW.ret ?_
  exact f1 (q := ⟨iCe (by rw [hs, ← hI]; first | rw [nods_out (by omega)] | rw [List.drop_eq_nil_of_le (by simp only [List.length_map] at *; omega), nods]), rfl⟩)
 iterate 3 refine SeqK.off rfl rfl rfl rfl rfl rfl ?_
 refine Z7 ?_
 refine Z3 (AW.condF rfl ?_)
 refine AW.exit ?_
 refine eth_e ?_
 refine eth_e ?_
 refine exit_here ?_
 refine sR (sM ?_)
 refine sB ?_
 refine AW.ret ?_
 exact f1 (q := ⟨iCe (by rw [hs, ← hI]; first | rw [nods_out (by omega)] | rw [List.drop_eq_nil_of_le (by simp only [List.length_map] at *; omega), nods]), rfl⟩)

theorem nodes_any (e : Ex) : ∀ m : Nat, m ≤ 1000000 → okE e → Pure Tryz.prog 41 [exC e, iC (m : Int)] (.c (iC ((nod e m : Nat) : Int))) := by
  induction e using Ex.rec' with
  | h e ih => exact fun m hm ho => nodes_of e m hm ho fun a ha k hk => ih a ha k hk ((okE_iff.1 ho).2 a ha)
abbrev fewQ (p : Pl) : Prop := p.cols.length ≤ 10 ∧ p.keys.length ≤ 10 ∧ p.args.length ≤ 3 ∧ nod p.flt 400 ≤ 400
def fewB : Nat → Pl → Bool
  | 0, _ => false
  | d + 1, p => decide (fewQ p) && ((p.keys.all fun k => decide (nod k 400 ≤ 400)) && p.args.all (fewB d))
theorem fewB_pos {d : Nat} {p : Pl} (h : 0 < d) : fewB d p = (decide (fewQ p) && ((p.keys.all fun k => decide (nod k 400 ≤ 400)) && p.args.all (fewB (d - 1)))) := by
  cases d with
  | zero => omega
  | succ d => rw [fewB]; rfl
theorem few0 {d : Nat} {p : Pl} (h : d = 0) : false = fewB d p := by subst h; rw [fewB]
theorem few_no {d : Nat} {p : Pl} (h : d = 0 ∨ ¬ fewQ p) : false = fewB d p := by
  rcases Nat.eq_zero_or_pos d with e | e
  · exact few0 e
  · rw [fewB_pos e, decide_eq_false (by rcases h with h | h <;> first | omega | exact h)]; rfl
mutual
def filB : Pl → Bool
  | .mk _ _ _ _ flt xs => prB flt && filBs xs
def filBs : List Pl → Bool
  | [] => true
  | e :: r => filB e && filBs r
end
theorem filBs_all : ∀ {xs : List Pl}, filBs xs = xs.all filB
  | [] => by simp [filBs]
  | e :: r => by rw [filBs, filBs_all, List.all_cons]
theorem filB_eq (p : Pl) : filB p = (prB p.flt && p.args.all filB) := by
  cases p; rw [filB, filBs_all]

abbrev zPl (x : Pl) : List A := [.t (.v (.int .i64 x.k)), .t (.v (.int .i64 x.src)), .t (.sl .un 1 (x.cols.map i64T)), .t (.sl .un 8 (x.keys.map exT')), .t (.v (.int .i64 x.flt.op)), .t (.v (.string x.flt.tb)), .t (.v (.string x.flt.nm)), .t (.v (.int .i64 x.flt.ix)), .t (.v (.int .i64 x.flt.vk)), .t (.v (.int .i64 x.flt.vn)), .t (.v (.string x.flt.vs)), .t (.sl .un 8 (x.flt.args.map exT')), .t (.sl .un 13 (x.args.map plT'))]
set_option maxHeartbeats 4000000 in
set_option maxRecDepth 20000 in
theorem few_of (p : Pl) (d : Nat) (hd : d ≤ 1000) (ho : okP p) (ih : 0 < d → ∀ a ∈ p.args, Pure Tryz.prog 19 [plC a, iC ((d - 1 : Nat) : Int)] (.c (bC (fewB (d - 1) a)))) : Pure Tryz.prog 19 [plC p, iC (d : Int)] (.c (bC (fewB d p))) := by
 intro H
 refine Spec.enter Tryz.func19 rfl ?_
 refine AW.wk (Wk.keep 63 [(0, .c (plC p)), (1, .c (iC (d : Int)))] [] (H) rfl ⟨rfl, rfl, trivial⟩ trivial (fun _ _ h => h) rfl) ?_
 refine sR (Z16 (r := [_, _, _, _, _, _, _, _, _, _, _, _, _]) ?_)
 refine sB ?_
 refine AW.seq (AW.seq ?_)
 obtain ⟨⟨k1, k2, k3, kf, kk⟩, k5⟩ := okP_iff.1 ho
 refine AW.reg (sM ?_)
 refine Z8 ?_
 refine Z19 (fun g9 => ?_) (fun g9 => ?_)
 ·
  iterate 4 refine SeqK.off rfl rfl rfl rfl rfl rfl ?_
  refine Z4 ?_
  refine sM ?_
  iterate 4 refine SeqK.off rfl rfl rfl rfl rfl rfl ?_
  refine Z4 ?_
  refine sM ?_
  iterate 4 refine SeqK.off rfl rfl rfl rfl rfl rfl ?_
  refine Z4 ?_
  refine sM ?_
  iterate 4 refine SeqK.off rfl rfl rfl rfl rfl rfl ?_
  refine Z4 ?_
  refine Z3 (AW.condT rfl ?_)
  refine sR (sB ?_)
  refine AW.ret ?_
  exact f1 (q := ⟨bCe (few_no (by first | (left; omega) | (right; intro h; simp only [List.length_map] at *; have := h.1; have := h.2.1; have := h.2.2.1; have := h.2.2.2; omega))), rfl⟩)
 refine Z6 Fx.fl35_2 ?_
 refine Z5 Fx.ty24 ?_
 refine Z28 Fx.un24 ?_
 refine Z35 ?_
 refine Z7 ?_
 refine Z19 (fun g15 => ?_) (fun g15 => ?_)
 ·
  iterate 4 refine SeqK.off rfl rfl rfl rfl rfl rfl ?_
  refine Z4 ?_
  refine sM ?_
  iterate 4 refine SeqK.off rfl rfl rfl rfl rfl rfl ?_
  refine Z4 ?_
  refine sM ?_
  iterate 4 refine SeqK.off rfl rfl rfl rfl rfl rfl ?_
  refine Z4 ?_
  refine Z3 (AW.condT rfl ?_)
  refine sR (sB ?_)
  refine AW.ret ?_
  exact f1 (q := ⟨bCe (few_no (by first | (left; omega) | (right; intro h; simp only [List.length_map] at *; have := h.1; have := h.2.1; have := h.2.2.1; have := h.2.2.2; omega))), rfl⟩)
 refine Z6 Fx.fl35_3 ?_
 refine Z5 Fx.ty28 ?_
 refine Z28 Fx.un28 ?_
 refine Z35 ?_
 refine Z7 ?_
 refine Z19 (fun g21 => ?_) (fun g21 => ?_)
 ·
  iterate 4 refine SeqK.off rfl rfl rfl rfl rfl rfl ?_
  refine Z4 ?_
  refine sM ?_
  iterate 4 refine SeqK.off rfl rfl rfl rfl rfl rfl ?_
  refine Z4 ?_
  refine Z3 (AW.condT rfl ?_)
  refine sR (sB ?_)
  refine AW.ret ?_
  exact f1 (q := ⟨bCe (few_no (by first | (left; omega) | (right; intro h; simp only [List.length_map] at *; have := h.1; have := h.2.1; have := h.2.2.1; have := h.2.2.2; omega))), rfl⟩)
 refine Z6 Fx.fl35_5 ?_
 refine Z5 Fx.ty33 ?_
 refine Z28 Fx.un33 ?_
 refine Z35 ?_
 refine Z7 ?_
 refine Z19 (fun g27 => ?_) (fun g27 => ?_)
 ·
  iterate 4 refine SeqK.off rfl rfl rfl rfl rfl rfl ?_
  refine Z4 ?_
  refine Z3 (AW.condT rfl ?_)
  refine sR (sB ?_)
  refine AW.ret ?_
  exact f1 (q := ⟨bCe (few_no (by first | (left; omega) | (right; intro h; simp only [List.length_map] at *; have := h.1; have := h.2.1; have := h.2.2.1; have := h.2.2.2; omega))), rfl⟩)
 refine Z6 Fx.fl35_4 ?_
 refine Z37 (r := .g [_, _, _, _, _, _, _, _]) Fx.ty30 ?_
 refine SeqK.on (q_call _ rfl Fx.fn41 rfl (nodes_any p.flt 400 (by omega) kf) rfl) rfl rfl rfl rfl rfl ?_
 refine Z35 ?_
 refine Z7 ?_
 refine Z3 ?_
 refine AW.condD rfl ?_ ?_ <;> intro h32
 ·
  refine sR (sB ?_)
  refine AW.ret ?_
  exact f1 (q := ⟨bCe (few_no (by first | (left; omega) | (right; intro h; simp only [List.length_map] at *; have := h.1; have := h.2.1; have := h.2.2.1; have := h.2.2.2; omega))), rfl⟩)
 refine AW.skip (AW.seq (AW.seq ?_))
 have hd0 : 0 < d := by omega
 have hp := fewB_pos (p := p) hd0
 have hA : fewQ p := by simp only [List.length_map] at *; refine ⟨?_, ?_, ?_, ?_⟩ <;> omega
 refine AW.reg (sB ?_)
 refine AW.block ?_
 refine AW.loop (fun (i : Nat) s => (i ≤ p.keys.length ∧ ∀ j (h : j < p.keys.length), j < i → nod p.keys[j] 400 ≤ 400) ∧ s = ⟨63, sp [(1, .c (iC (d : Int))), (2, .lp 2 0), (4, .c (bC false)), (5, iX .i64 ((i : Nat) : Int))], lv [(2, .box (zPl p))], H⟩) (fun i => p.keys.length - i) 0 ⟨_, by exact Wk.keep 63 _ _ _ rfl ⟨rfl, rfl, rfl, rfl, trivial⟩ ⟨rfl, trivial⟩ (fun _ _ h => h) rfl, ⟨Nat.zero_le _, up0⟩, rfl⟩ (fun i s hs => ?_)
 obtain ⟨⟨hi0, hU⟩, rfl⟩ := hs
 refine AW.seq (sR (sM ?_))
 refine Z1 Fx.fl35_3 ?_
 refine Z0 Fx.ty28 ?_
 refine Z14 Fx.un28 ?_
 refine Z10 ?_
 refine Z3 ?_
 refine AW.condD rfl ?_ ?_ <;> intro h37
 ·
  have hi : i < p.keys.length := by rw [List.length_map] at h37; omega
  refine AW.skip (AW.seq (AW.block (sR (Z1 Fx.fl35_3 ?_))))
  refine Z0 Fx.ty28 ?_
  refine sM ?_
  refine Z9 Fx.sl28 (idx_ex hi) ?_
  refine Z11 (.g [_, _, _, _, _, _, _, _]) Fx.ty30 ?_
  refine SeqK.q (q_call _ rfl Fx.fn41 rfl (nodes_any p.keys[i] 400 (by omega) (kk _ (List.getElem_mem hi))) rfl) rfl rfl rfl ?_
  refine SeqK.q (q_gtr rfl rfl rfl) rfl rfl rfl ?_
  refine Z3 ?_
  refine AW.condD rfl ?_ ?_ <;> intro h46
  ·
   refine sR (sB ?_)
   refine AW.ret ?_
   exact f1 (q := ⟨bCe (by rw [hp, List.all_eq_false (l := p.keys) |>.2 ⟨_, List.getElem_mem hi, by simp; omega⟩]; simp), rfl⟩)
  refine AW.skip (AW.reg (sM ?_))
  refine Z2 ?_
  refine sB ?_
  exact ⟨i + 1, _, by exact Wk.keep 63 _ _ _ rfl ⟨rfl, rfl, rfl, rfl, trivial⟩ ⟨rfl, trivial⟩ (fun _ _ h => h) rfl, by omega, ⟨hi, upS hi hU (by omega)⟩, rfl⟩
 refine AW.exit ?_
 refine eth_e ?_
 refine eth_e ?_
 refine exit_here ?_
 refine AW.seq (AW.seq ?_)
 have hB := upE hU (by rw [List.length_map] at h37; omega)
 refine AW.reg (sB ?_)
 refine AW.block ?_
 refine AW.loop (fun (i : Nat) s => (i ≤ p.args.length ∧ ∀ j (h : j < p.args.length), j < i → fewB (d - 1) p.args[j] = true) ∧ s = ⟨63, sp [(1, .c (iC (d : Int))), (2, .lp 2 0), (4, .c (bC false)), (6, iX .i64 ((i : Nat) : Int))], lv [(2, .box (zPl p))], H⟩) (fun i => p.args.length - i) 0 ⟨_, by exact Wk.keep 63 _ _ _ rfl ⟨rfl, rfl, rfl, rfl, trivial⟩ ⟨rfl, trivial⟩ (fun _ _ h => h) rfl, ⟨Nat.zero_le _, up0⟩, rfl⟩ (fun i s hs => ?_)
 obtain ⟨⟨hi0, hU⟩, rfl⟩ := hs
 refine AW.seq (sR (sM ?_))
 refine Z1 Fx.fl35_5 ?_
 refine Z0 Fx.ty33 ?_
 refine Z14 Fx.un33 ?_
 refine Z10 ?_
 refine Z3 ?_
 refine AW.condD rfl ?_ ?_ <;> intro h51
 ·
  have hi : i < p.args.length := by rw [List.length_map] at h51; omega
  refine AW.skip (AW.seq (AW.block (sR (Z1 Fx.fl35_5 ?_))))
  refine Z0 Fx.ty33 ?_
  refine sM ?_
  refine Z9 Fx.sl33 (idx_pl hi) ?_
  refine Z11 (.g [_, _, _, _, _, _, _, _, _, _, _, _, _]) Fx.ty35 ?_
  refine sM ?_
  refine SeqK.q (q_sub _ rfl rfl rfl ((by rw [w64 (by omega) (by omega)]; omega : IntKind.i64.wrap _ = ((d - 1 : Nat) : Int)))) rfl rfl rfl ?_
  refine Z22 Fx.fn19 (ih hd0 _ (List.getElem_mem hi)) ?_
  refine Z33 ?_
  refine Z3 ?_
  refine AW.cond _ rfl (fun h62 => ?_) (fun h62 => ?_)
  ·
   have hno : fewB (d - 1) p.args[i] = false := by simpa using h62
   refine sR (sB ?_)
   refine AW.ret ?_
   exact f1 (q := ⟨bCe (by rw [hp, List.all_eq_false (l := p.args) |>.2 ⟨_, List.getElem_mem hi, by simp [hno]⟩]; simp), rfl⟩)
  have hyes : fewB (d - 1) p.args[i] = true := by simpa using h62
  refine AW.skip (AW.reg (sM ?_))
  refine Z2 ?_
  refine sB ?_
  exact ⟨i + 1, _, by exact Wk.keep 63 _ _ _ rfl ⟨rfl, rfl, rfl, rfl, trivial⟩ ⟨rfl, trivial⟩ (fun _ _ h => h) rfl, by omega, ⟨hi, upS hi hU (hyes)⟩, rfl⟩
 refine AW.exit ?_
 refine eth_e ?_
 refine eth_e ?_
 refine exit_here ?_
 refine sR (sB ?_)
 refine AW.ret ?_
 exact f1 (q := ⟨bCe (by rw [hp, decide_eq_true hA, List.all_eq_true (l := p.keys) |>.2 (fun x hx => by obtain ⟨j, hj, rfl⟩ := List.mem_iff_getElem.1 hx; exact decide_eq_true (hB j hj)), List.all_eq_true (l := p.args) |>.2 fun x hx => by obtain ⟨j, hj, rfl⟩ := List.mem_iff_getElem.1 hx; exact upE hU (by rw [List.length_map] at h51; omega) j hj]; rfl), rfl⟩)

theorem few_pl : ∀ (d : Nat) (p : Pl), d ≤ 1000 → okP p → Pure Tryz.prog 19 [plC p, iC (d : Int)] (.c (bC (fewB d p)))
  | 0, p, hd, ho => few_of p 0 hd ho fun h => absurd h (by omega)
  | d + 1, p, hd, ho => few_of p (d + 1) hd ho fun _ a ha => few_pl d a (by omega) ((okP_iff.1 ho).2 a ha)

set_option maxHeartbeats 4000000 in
set_option maxRecDepth 20000 in
theorem filters_of (p : Pl) (ho : okP p) (ih : ∀ a ∈ p.args, Pure Tryz.prog 20 [plC a] (.c (bC (filB a)))) : Pure Tryz.prog 20 [plC p] (.c (bC (filB p))) := by
 intro H
 refine Spec.enter Tryz.func20 rfl ?_
 refine AW.wk (Wk.keep 22 [(0, .c (plC p))] [] (H) rfl ⟨rfl, trivial⟩ trivial (fun _ _ h => h) rfl) ?_
 refine sR (Z16 (r := [_, _, _, _, _, _, _, _, _, _, _, _, _]) ?_)
 refine sB ?_
 refine AW.seq (AW.seq ?_)
 obtain ⟨⟨k1, k2, k3, kf, kk⟩, k5⟩ := okP_iff.1 ho
 have hp := filB_eq p
 refine AW.reg (Z1 Fx.fl35_4 ?_)
 refine Z12 (r := .g [_, _, _, _, _, _, _, _]) Fx.ty30 ?_
 refine Z22 Fx.fn42 (pairs_any p.flt kf) ?_
 refine Z33 ?_
 refine Z3 ?_
 refine AW.cond _ rfl (fun h7 => ?_) (fun h7 => ?_)
 ·
  have hno : prB p.flt = false := by simpa using h7
  refine sR (sB ?_)
  refine AW.ret ?_
  exact f1 (q := ⟨bCe (by rw [hp, hno]; rfl), rfl⟩)
 have hpr : prB p.flt = true := by simpa using h7
 refine AW.skip (AW.seq (sR (sB ?_)))
 refine AW.block ?_
 refine AW.loop (fun (i : Nat) s => (i ≤ p.args.length ∧ ∀ j (h : j < p.args.length), j < i → filB p.args[j] = true) ∧ s = ⟨22, sp [(1, .lp 1 0), (2, .c (bC false)), (3, iX .i64 ((i : Nat) : Int))], lv [(1, .box (zPl p))], H⟩) (fun i => p.args.length - i) 0 ⟨_, by exact Wk.keep 22 _ _ _ rfl ⟨rfl, rfl, rfl, trivial⟩ ⟨rfl, trivial⟩ (fun _ _ h => h) rfl, ⟨Nat.zero_le _, up0⟩, rfl⟩ (fun i s hs => ?_)
 obtain ⟨⟨hi0, hU⟩, rfl⟩ := hs
 refine AW.seq (sR (sM ?_))
 refine Z1 Fx.fl35_5 ?_
 refine Z0 Fx.ty33 ?_
 refine Z14 Fx.un33 ?_
 refine Z10 ?_
 refine Z3 ?_
 refine AW.condD rfl ?_ ?_ <;> intro h12
 ·
  have hi : i < p.args.length := by rw [List.length_map] at h12; omega
  refine AW.skip (AW.seq (AW.block (sR (Z1 Fx.fl35_5 ?_))))
  refine Z0 Fx.ty33 ?_
  refine sM ?_
  refine Z9 Fx.sl33 (idx_pl hi) ?_
  refine Z11 (.g [_, _, _, _, _, _, _, _, _, _, _, _, _]) Fx.ty35 ?_
  refine Z22 Fx.fn20 (ih _ (List.getElem_mem hi)) ?_
  refine Z33 ?_
  refine Z3 ?_
  refine AW.cond _ rfl (fun h21 => ?_) (fun h21 => ?_)
  ·
   have hno : filB p.args[i] = false := by simpa using h21
   refine sR (sB ?_)
   refine AW.ret ?_
   exact f1 (q := ⟨bCe (by rw [hp, List.all_eq_false.2 ⟨_, List.getElem_mem hi, by simp [hno]⟩]; simp), rfl⟩)
  have hyes : filB p.args[i] = true := by simpa using h21
  refine AW.skip (AW.reg (sM ?_))
  refine Z2 ?_
  refine sB ?_
  exact ⟨i + 1, _, by exact Wk.keep 22 _ _ _ rfl ⟨rfl, rfl, rfl, trivial⟩ ⟨rfl, trivial⟩ (fun _ _ h => h) rfl, by omega, ⟨hi, upS hi hU (hyes)⟩, rfl⟩
 refine AW.exit ?_
 refine eth_e ?_
 refine eth_e ?_
 refine exit_here ?_
 refine sR (sB ?_)
 refine AW.ret ?_
 exact f1 (q := ⟨bCe (by rw [hp, hpr, List.all_eq_true.2 fun x hx => by obtain ⟨j, hj, rfl⟩ := List.mem_iff_getElem.1 hx; exact upE hU (by rw [List.length_map] at h12; omega) j hj]; rfl), rfl⟩)

theorem filters_any (p : Pl) : okP p → Pure Tryz.prog 20 [plC p] (.c (bC (filB p))) := by
  induction p using Pl.rec' with
  | h p ih => exact fun ho => filters_of p ho fun a ha => ih a ha ((okP_iff.1 ho).2 a ha)
abbrev fewL (p : Pl) : Bool := fewB 7 p && filB p

set_option maxHeartbeats 4000000 in
set_option maxRecDepth 20000 in
theorem few44_any (p : Pl) (ho : okP p) : Pure Tryz.prog 6 [plC p] (.c (bC (fewL p))) := by
 intro H
 refine Spec.enter Tryz.func6 rfl ?_
 refine AW.wk (Wk.keep 9 [(0, .c (plC p))] [] (H) rfl ⟨rfl, trivial⟩ trivial (fun _ _ h => h) rfl) ?_
 refine sR (Z16 (r := [_, _, _, _, _, _, _, _, _, _, _, _, _]) ?_)
 refine sB ?_
 refine sR (Z12 (r := .g [_, _, _, _, _, _, _, _, _, _, _, _, _]) Fx.ty35 ?_)
 refine SeqK.q (q_call _ rfl Fx.fn19 rfl (few_pl 7 p (by omega) ho) rfl) rfl rfl rfl ?_
 refine SeqK.qB (q_mvC rfl rfl) rfl rfl rfl (fun g5 => ?_) (fun g5 => ?_)
 ·
  refine Z37 (r := .g [_, _, _, _, _, _, _, _, _, _, _, _, _]) Fx.ty35 ?_
  refine SeqK.on (q_call _ rfl Fx.fn20 rfl (filters_any p ho) rfl) rfl rfl rfl rfl rfl ?_
  refine Z4 ?_
  refine sB ?_
  refine AW.ret ?_
  exact f1 (q := ⟨bCe (by simp [*]), rfl⟩)
 iterate 2 refine SeqK.off rfl rfl rfl rfl rfl rfl ?_
 refine Z7 ?_
 refine sB ?_
 refine AW.ret ?_
 exact f1 (q := ⟨bCe (by simp [*]), rfl⟩)

end Go.Proofs.YtihlgigaejhilaaGreatDoor.W
namespace Go.Proofs.YtihlgigaejhilaaGreatDoor.W
open Go.RowKit E
theorem flat_take {α β : Type} {f : α → List β} {l : List α} {i : Nat} (hi : i < l.length) : (l.take (i + 1)).flatMap f = (l.take i).flatMap f ++ f l[i] := by
  rw [take_put hi, List.flatMap_append]; simp
theorem flat_le {α β : Type} {f : α → List β} {l : List α} {i : Nat} (hi : i < l.length) : ((l.take i).flatMap f).length + (f l[i]).length ≤ (l.flatMap f).length := by
  have h : (l.take (i + 1)).flatMap f ++ (l.drop (i + 1)).flatMap f = l.flatMap f := by rw [← List.flatMap_append, List.take_append_drop]
  rw [← h, flat_take hi]; simp only [List.length_append]; omega
mutual
def srM : Pl → List Int
  | .mk k src _ _ _ xs => if k = 1 ∨ k = 2 ∨ k = 3 then [src] else srMs xs
def srMs : List Pl → List Int
  | [] => []
  | e :: r => srM e ++ srMs r
end
theorem srMs_flat : ∀ {l : List Pl}, srMs l = l.flatMap srM
  | [] => by rw [srMs]; rfl
  | e :: r => by rw [srMs, srMs_flat, List.flatMap_cons]
theorem srM_leaf {p : Pl} (h : p.k = 1 ∨ p.k = 2 ∨ p.k = 3) : srM p = [p.src] := by cases p; rw [srM, if_pos h]
theorem srM_in {p : Pl} (h : ¬ (p.k = 1 ∨ p.k = 2 ∨ p.k = 3)) : srM p = p.args.flatMap srM := by cases p; rw [srM, if_neg h, srMs_flat]
theorem srM_arg {p a : Pl} (h : ¬ (p.k = 1 ∨ p.k = 2 ∨ p.k = 3)) (ha : a ∈ p.args) : (srM a).length ≤ (srM p).length := by
  obtain ⟨i, hi, rfl⟩ := List.mem_iff_getElem.1 ha
  rw [srM_in h]; have := flat_le (f := srM) hi; omega

set_option maxHeartbeats 4000000 in
set_option maxRecDepth 20000 in
theorem srcs_of (p : Pl) (ho : okP p) (hb : (srM p).length ≤ 1000000) (ih : ¬ (p.k = 1 ∨ p.k = 2 ∨ p.k = 3) → ∀ a ∈ p.args, Pure Tryz.prog 39 [plC a] (.c (iL .un (srM a)))) : Pure Tryz.prog 39 [plC p] (.c (iL .un (srM p))) := by
 intro H
 refine Spec.enter Tryz.func39 rfl ?_
 refine AW.wk (Wk.keep 28 [(0, .c (plC p))] [] (H) rfl ⟨rfl, trivial⟩ trivial (fun _ _ h => h) rfl) ?_
 refine sR (Z16 (r := [_, _, _, _, _, _, _, _, _, _, _, _, _]) ?_)
 refine sB ?_
 refine AW.seq (AW.seq ?_)
 obtain ⟨⟨k1, k2, k3, kf, kk⟩, k5⟩ := okP_iff.1 ho
 refine AW.reg (Z1 Fx.fl35_0 ?_)
 refine Z0 Fx.ty3 ?_
 refine Z3 (AW.block (AW.seq (sR (Z8 ?_))))
 refine sB ?_
 refine AW.condD rfl ?_ ?_ <;> intro h8
 ·
  refine AW.skip ?_
  refine AW.condD rfl ?_ ?_ <;> intro h8
  ·
   refine sR (Z1 Fx.fl35_1 ?_)
   refine Z0 Fx.ty3 ?_
   refine Z38 Fx.el24 ?_
   refine SeqK.xw 14 rfl XW.un ?_
   refine sB ?_
   refine AW.ret ?_
   exact f1 (q := ⟨by rw [srM_leaf (by omega)]; rfl, rfl⟩)
  refine AW.skip (AW.seq ?_)
  have hn : ¬ (p.k = 1 ∨ p.k = 2 ∨ p.k = 3) := by omega
  have hs := srM_in hn
  refine AW.reg (sB ?_)
  refine AW.seq (sR (Z1 Fx.fl35_5 ?_))
  refine Z0 Fx.ty33 ?_
  refine Z14 Fx.un33 ?_
  refine sM ?_
  refine Z3 (AW.block ?_)
  refine AW.tip 3 3 1 rfl (fun k0 hk0 => ?_)
  refine AW.loop (fun (i : Nat) s => ∃ (kt : Nat) (zs : List (List E.T)), (i ≤ p.args.length ∧ H kt = none ∧ zs = ((p.args.take i).flatMap srM).map i64T) ∧ s = ⟨28, sp [(1, .lp 1 0), (3, .c (.a (.ts kt .ne 1 zs))), (16, .c (plsC .un p.args)), (17, iX .i64 (((p.args.map plT').length : Nat) : Int)), (18, iX .i64 ((i : Nat) : Int))], lv [(1, .box (zPl p))], upd H kt (some (.tip 3 1 zs.length))⟩) (fun i => p.args.length - i) 0 ⟨_, by exact Wk.keep 28 _ _ _ rfl ⟨rfl, rfl, rfl, rfl, rfl, trivial⟩ ⟨rfl, trivial⟩ (fun _ _ h => h) rfl, k0, [], ⟨Nat.zero_le _, hk0, rfl⟩, rfl⟩ (fun i s hs => ?_)
  obtain ⟨kt, zs, ⟨hi0, hkt, hzs⟩, rfl⟩ := hs
  refine sR (Z10 ?_)
  refine Z3 (AW.seq ?_)
  refine AW.condD rfl ?_ ?_ <;> intro h19
  ·
   have hi : i < p.args.length := by rw [List.length_map] at h19; omega
   have hfl := flat_le (f := srM) hi
   rw [← hs] at hfl
   refine AW.skip (AW.seq (AW.block (sR (Z9 Fx.sl33 (idx_pl hi) ?_))))
   refine Z11 (.g [_, _, _, _, _, _, _, _, _, _, _, _, _]) Fx.ty35 ?_
   refine Z25 (r := [_, _, _, _, _, _, _, _, _, _, _, _, _]) Fx.ze35 ?_
   refine Z15 (r := [_, _, _, _, _, _, _, _, _, _, _, _, _]) Fx.ty35 ?_
   refine Z3 (AW.reg (sM ?_))
   refine Z12 (r := .g [_, _, _, _, _, _, _, _, _, _, _, _, _]) Fx.ty35 ?_
   refine Z22 Fx.fn39 (ih hn _ (List.getElem_mem hi)) ?_
   refine SeqK.app1 rfl (hkt) rfl Fx.el24 rfl rfl (by simp only [hzs, List.length_map, List.length_append] at *; omega) rfl rfl (fun k25 hk25 => ?_)
   refine sB ?_
   refine AW.reg (Z2 ?_)
   refine sM ?_
   refine Z3 ?_
   exact ⟨i + 1, _, by exact Wk.keep 28 _ _ _ rfl ⟨rfl, rfl, rfl, rfl, rfl, trivial⟩ ⟨rfl, trivial⟩ (fun _ _ h => h) rfl, by omega, k25, zs ++ (srM p.args[i]).map i64T, ⟨hi, hk25, by rw [hzs, flat_take hi, List.map_append]⟩, rfl⟩
  refine AW.exit ?_
  refine eth_e ?_
  refine eth_e ?_
  refine exit_here ?_
  refine AW.seq ?_
  obtain rfl : i = p.args.length := by rw [List.length_map] at h19; omega
  rw [List.take_length, ← hs] at hzs
  refine AW.xw 3 rfl (XW.ts.trans (XW.es hzs)) ?_
  refine AW.reg (sM ?_)
  refine sB ?_
  refine AW.ret ?_
  exact fin_x (x := .c _) (H) (.tmp rfl .nil) rfl ((fun j o h => upd_sub hkt j o h)) (⟨rfl, rfl⟩)
 refine sR (Z8 ?_)
 refine sB ?_
 refine AW.condD rfl ?_ ?_ <;> intro h8
 ·
  refine AW.skip ?_
  refine AW.condD rfl ?_ ?_ <;> intro h8
  ·
   refine sR (Z1 Fx.fl35_1 ?_)
   refine Z0 Fx.ty3 ?_
   refine Z38 Fx.el24 ?_
   refine SeqK.xw 14 rfl XW.un ?_
   refine sB ?_
   refine AW.ret ?_
   exact f1 (q := ⟨by rw [srM_leaf (by omega)]; rfl, rfl⟩)
  refine AW.skip (AW.seq ?_)
  have hn : ¬ (p.k = 1 ∨ p.k = 2 ∨ p.k = 3) := by omega
  have hs := srM_in hn
  refine AW.reg (sB ?_)
  refine AW.seq (sR (Z1 Fx.fl35_5 ?_))
  refine Z0 Fx.ty33 ?_
  refine Z14 Fx.un33 ?_
  refine sM ?_
  refine Z3 (AW.block ?_)
  refine AW.tip 3 3 1 rfl (fun k0 hk0 => ?_)
  refine AW.loop (fun (i : Nat) s => ∃ (kt : Nat) (zs : List (List E.T)), (i ≤ p.args.length ∧ H kt = none ∧ zs = ((p.args.take i).flatMap srM).map i64T) ∧ s = ⟨28, sp [(1, .lp 1 0), (3, .c (.a (.ts kt .ne 1 zs))), (16, .c (plsC .un p.args)), (17, iX .i64 (((p.args.map plT').length : Nat) : Int)), (18, iX .i64 ((i : Nat) : Int))], lv [(1, .box (zPl p))], upd H kt (some (.tip 3 1 zs.length))⟩) (fun i => p.args.length - i) 0 ⟨_, by exact Wk.keep 28 _ _ _ rfl ⟨rfl, rfl, rfl, rfl, rfl, trivial⟩ ⟨rfl, trivial⟩ (fun _ _ h => h) rfl, k0, [], ⟨Nat.zero_le _, hk0, rfl⟩, rfl⟩ (fun i s hs => ?_)
  obtain ⟨kt, zs, ⟨hi0, hkt, hzs⟩, rfl⟩ := hs
  refine sR (Z10 ?_)
  refine Z3 (AW.seq ?_)
  refine AW.condD rfl ?_ ?_ <;> intro h19
  ·
   have hi : i < p.args.length := by rw [List.length_map] at h19; omega
   have hfl := flat_le (f := srM) hi
   rw [← hs] at hfl
   refine AW.skip (AW.seq (AW.block (sR (Z9 Fx.sl33 (idx_pl hi) ?_))))
   refine Z11 (.g [_, _, _, _, _, _, _, _, _, _, _, _, _]) Fx.ty35 ?_
   refine Z25 (r := [_, _, _, _, _, _, _, _, _, _, _, _, _]) Fx.ze35 ?_
   refine Z15 (r := [_, _, _, _, _, _, _, _, _, _, _, _, _]) Fx.ty35 ?_
   refine Z3 (AW.reg (sM ?_))
   refine Z12 (r := .g [_, _, _, _, _, _, _, _, _, _, _, _, _]) Fx.ty35 ?_
   refine Z22 Fx.fn39 (ih hn _ (List.getElem_mem hi)) ?_
   refine SeqK.app1 rfl (hkt) rfl Fx.el24 rfl rfl (by simp only [hzs, List.length_map, List.length_append] at *; omega) rfl rfl (fun k25 hk25 => ?_)
   refine sB ?_
   refine AW.reg (Z2 ?_)
   refine sM ?_
   refine Z3 ?_
   exact ⟨i + 1, _, by exact Wk.keep 28 _ _ _ rfl ⟨rfl, rfl, rfl, rfl, rfl, trivial⟩ ⟨rfl, trivial⟩ (fun _ _ h => h) rfl, by omega, k25, zs ++ (srM p.args[i]).map i64T, ⟨hi, hk25, by rw [hzs, flat_take hi, List.map_append]⟩, rfl⟩
  refine AW.exit ?_
  refine eth_e ?_
  refine eth_e ?_
  refine exit_here ?_
  refine AW.seq ?_
  obtain rfl : i = p.args.length := by rw [List.length_map] at h19; omega
  rw [List.take_length, ← hs] at hzs
  refine AW.xw 3 rfl (XW.ts.trans (XW.es hzs)) ?_
  refine AW.reg (sM ?_)
  refine sB ?_
  refine AW.ret ?_
  exact fin_x (x := .c _) (H) (.tmp rfl .nil) rfl ((fun j o h => upd_sub hkt j o h)) (⟨rfl, rfl⟩)
 refine AW.reg (Z8 ?_)
 refine sB ?_
 refine AW.condD rfl ?_ ?_ <;> intro h8
 ·
  refine sR (Z1 Fx.fl35_1 ?_)
  refine Z0 Fx.ty3 ?_
  refine Z38 Fx.el24 ?_
  refine SeqK.xw 14 rfl XW.un ?_
  refine sB ?_
  refine AW.ret ?_
  exact f1 (q := ⟨by rw [srM_leaf (by omega)]; rfl, rfl⟩)
 refine AW.skip (AW.seq ?_)
 have hn : ¬ (p.k = 1 ∨ p.k = 2 ∨ p.k = 3) := by omega
 have hs := srM_in hn
 refine AW.reg (sB ?_)
 refine AW.seq (sR (Z1 Fx.fl35_5 ?_))
 refine Z0 Fx.ty33 ?_
 refine Z14 Fx.un33 ?_
 refine sM ?_
 refine Z3 (AW.block ?_)
 refine AW.tip 3 3 1 rfl (fun k0 hk0 => ?_)
 refine AW.loop (fun (i : Nat) s => ∃ (kt : Nat) (zs : List (List E.T)), (i ≤ p.args.length ∧ H kt = none ∧ zs = ((p.args.take i).flatMap srM).map i64T) ∧ s = ⟨28, sp [(1, .lp 1 0), (3, .c (.a (.ts kt .ne 1 zs))), (16, .c (plsC .un p.args)), (17, iX .i64 (((p.args.map plT').length : Nat) : Int)), (18, iX .i64 ((i : Nat) : Int))], lv [(1, .box (zPl p))], upd H kt (some (.tip 3 1 zs.length))⟩) (fun i => p.args.length - i) 0 ⟨_, by exact Wk.keep 28 _ _ _ rfl ⟨rfl, rfl, rfl, rfl, rfl, trivial⟩ ⟨rfl, trivial⟩ (fun _ _ h => h) rfl, k0, [], ⟨Nat.zero_le _, hk0, rfl⟩, rfl⟩ (fun i s hs => ?_)
 obtain ⟨kt, zs, ⟨hi0, hkt, hzs⟩, rfl⟩ := hs
 refine sR (Z10 ?_)
 refine Z3 (AW.seq ?_)
 refine AW.condD rfl ?_ ?_ <;> intro h19
 ·
  have hi : i < p.args.length := by rw [List.length_map] at h19; omega
  have hfl := flat_le (f := srM) hi
  rw [← hs] at hfl
  refine AW.skip (AW.seq (AW.block (sR (Z9 Fx.sl33 (idx_pl hi) ?_))))
  refine Z11 (.g [_, _, _, _, _, _, _, _, _, _, _, _, _]) Fx.ty35 ?_
  refine Z25 (r := [_, _, _, _, _, _, _, _, _, _, _, _, _]) Fx.ze35 ?_
  refine Z15 (r := [_, _, _, _, _, _, _, _, _, _, _, _, _]) Fx.ty35 ?_
  refine Z3 (AW.reg (sM ?_))
  refine Z12 (r := .g [_, _, _, _, _, _, _, _, _, _, _, _, _]) Fx.ty35 ?_
  refine Z22 Fx.fn39 (ih hn _ (List.getElem_mem hi)) ?_
  refine SeqK.app1 rfl (hkt) rfl Fx.el24 rfl rfl (by simp only [hzs, List.length_map, List.length_append] at *; omega) rfl rfl (fun k25 hk25 => ?_)
  refine sB ?_
  refine AW.reg (Z2 ?_)
  refine sM ?_
  refine Z3 ?_
  exact ⟨i + 1, _, by exact Wk.keep 28 _ _ _ rfl ⟨rfl, rfl, rfl, rfl, rfl, trivial⟩ ⟨rfl, trivial⟩ (fun _ _ h => h) rfl, by omega, k25, zs ++ (srM p.args[i]).map i64T, ⟨hi, hk25, by rw [hzs, flat_take hi, List.map_append]⟩, rfl⟩
 refine AW.exit ?_
 refine eth_e ?_
 refine eth_e ?_
 refine exit_here ?_
 refine AW.seq ?_
 obtain rfl : i = p.args.length := by rw [List.length_map] at h19; omega
 rw [List.take_length, ← hs] at hzs
 refine AW.xw 3 rfl (XW.ts.trans (XW.es hzs)) ?_
 refine AW.reg (sM ?_)
 refine sB ?_
 refine AW.ret ?_
 exact fin_x (x := .c _) (H) (.tmp rfl .nil) rfl ((fun j o h => upd_sub hkt j o h)) (⟨rfl, rfl⟩)

set_option maxHeartbeats 4000000 in
set_option maxRecDepth 20000 in
theorem rsrcs_of (p : Pl) (ho : okP p) (hb : (srM p).length ≤ 1000000) (ih : ¬ (p.k = 1 ∨ p.k = 2 ∨ p.k = 3) → ∀ a ∈ p.args, Pure Tryz.prog 21 [plC a] (.c (iL .un (srM a)))) : Pure Tryz.prog 21 [plC p] (.c (iL .un (srM p))) := by
 intro H
 refine Spec.enter Tryz.func21 rfl ?_
 refine AW.wk (Wk.keep 30 [(0, .c (plC p))] [] (H) rfl ⟨rfl, trivial⟩ trivial (fun _ _ h => h) rfl) ?_
 refine sR (Z16 (r := [_, _, _, _, _, _, _, _, _, _, _, _, _]) ?_)
 refine sB ?_
 refine AW.seq (AW.seq ?_)
 obtain ⟨⟨k1, k2, k3, kf, kk⟩, k5⟩ := okP_iff.1 ho
 refine AW.reg (Z1 Fx.fl35_0 ?_)
 refine Z0 Fx.ty3 ?_
 refine Z3 (AW.block (AW.seq (sR (Z8 ?_))))
 refine sB ?_
 refine AW.condD rfl ?_ ?_ <;> intro h7
 ·
  refine AW.skip ?_
  refine AW.condD rfl ?_ ?_ <;> intro h7
  ·
   refine sR (Z1 Fx.fl35_1 ?_)
   refine Z0 Fx.ty3 ?_
   refine Z38 Fx.el24 ?_
   refine SeqK.xw 13 rfl XW.un ?_
   refine sB ?_
   refine AW.ret ?_
   exact f1 (q := ⟨by rw [srM_leaf (by omega)]; rfl, rfl⟩)
  refine AW.skip (AW.seq ?_)
  have hn : ¬ (p.k = 1 ∨ p.k = 2 ∨ p.k = 3) := by omega
  have hs := srM_in hn
  refine AW.reg (sB ?_)
  refine AW.seq (sR (sB ?_))
  refine AW.block ?_
  refine AW.tip 3 3 1 rfl (fun k0 hk0 => ?_)
  refine AW.loop (fun (i : Nat) s => ∃ (kt : Nat) (zs : List (List E.T)), (i ≤ p.args.length ∧ H kt = none ∧ zs = ((p.args.take i).flatMap srM).map i64T) ∧ s = ⟨30, sp [(1, .lp 1 0), (3, .c (.a (.ts kt .ne 1 zs))), (4, iX .i64 ((i : Nat) : Int))], lv [(1, .box (zPl p))], upd H kt (some (.tip 3 1 zs.length))⟩) (fun i => p.args.length - i) 0 ⟨_, by exact Wk.keep 30 _ _ _ rfl ⟨rfl, rfl, rfl, trivial⟩ ⟨rfl, trivial⟩ (fun _ _ h => h) rfl, k0, [], ⟨Nat.zero_le _, hk0, rfl⟩, rfl⟩ (fun i s hs => ?_)
  obtain ⟨kt, zs, ⟨hi0, hkt, hzs⟩, rfl⟩ := hs
  refine AW.seq (sR (sM ?_))
  refine Z1 Fx.fl35_5 ?_
  refine Z0 Fx.ty33 ?_
  refine Z14 Fx.un33 ?_
  refine Z10 ?_
  refine Z3 ?_
  refine AW.condD rfl ?_ ?_ <;> intro h18
  ·
   have hi : i < p.args.length := by rw [List.length_map] at h18; omega
   have hfl := flat_le (f := srM) hi
   rw [← hs] at hfl
   refine AW.skip (AW.seq (AW.block (AW.reg (sM ?_))))
   refine Z1 Fx.fl35_5 ?_
   refine Z0 Fx.ty33 ?_
   refine sM ?_
   refine Z9 Fx.sl33 (idx_pl hi) ?_
   refine Z11 (.g [_, _, _, _, _, _, _, _, _, _, _, _, _]) Fx.ty35 ?_
   refine Z22 Fx.fn21 (ih hn _ (List.getElem_mem hi)) ?_
   refine SeqK.app1 rfl (hkt) rfl Fx.el24 rfl rfl (by simp only [hzs, List.length_map, List.length_append] at *; omega) rfl rfl (fun k28 hk28 => ?_)
   refine sB ?_
   refine AW.reg (sM ?_)
   refine Z2 ?_
   refine sB ?_
   exact ⟨i + 1, _, by exact Wk.keep 30 _ _ _ rfl ⟨rfl, rfl, rfl, trivial⟩ ⟨rfl, trivial⟩ (fun _ _ h => h) rfl, by omega, k28, zs ++ (srM p.args[i]).map i64T, ⟨hi, hk28, by rw [hzs, flat_take hi, List.map_append]⟩, rfl⟩
  refine AW.exit ?_
  refine eth_e ?_
  refine eth_e ?_
  refine exit_here ?_
  refine AW.seq ?_
  obtain rfl : i = p.args.length := by rw [List.length_map] at h18; omega
  rw [List.take_length, ← hs] at hzs
  refine AW.xw 3 rfl (XW.ts.trans (XW.es hzs)) ?_
  refine AW.reg (sM ?_)
  refine sB ?_
  refine AW.ret ?_
  exact fin_x (x := .c _) (H) (.tmp rfl .nil) rfl ((fun j o h => upd_sub hkt j o h)) (⟨rfl, rfl⟩)
 refine sR (Z8 ?_)
 refine sB ?_
 refine AW.condD rfl ?_ ?_ <;> intro h7
 ·
  refine AW.skip ?_
  refine AW.condD rfl ?_ ?_ <;> intro h7
  ·
   refine sR (Z1 Fx.fl35_1 ?_)
   refine Z0 Fx.ty3 ?_
   refine Z38 Fx.el24 ?_
   refine SeqK.xw 13 rfl XW.un ?_
   refine sB ?_
   refine AW.ret ?_
   exact f1 (q := ⟨by rw [srM_leaf (by omega)]; rfl, rfl⟩)
  refine AW.skip (AW.seq ?_)
  have hn : ¬ (p.k = 1 ∨ p.k = 2 ∨ p.k = 3) := by omega
  have hs := srM_in hn
  refine AW.reg (sB ?_)
  refine AW.seq (sR (sB ?_))
  refine AW.block ?_
  refine AW.tip 3 3 1 rfl (fun k0 hk0 => ?_)
  refine AW.loop (fun (i : Nat) s => ∃ (kt : Nat) (zs : List (List E.T)), (i ≤ p.args.length ∧ H kt = none ∧ zs = ((p.args.take i).flatMap srM).map i64T) ∧ s = ⟨30, sp [(1, .lp 1 0), (3, .c (.a (.ts kt .ne 1 zs))), (4, iX .i64 ((i : Nat) : Int))], lv [(1, .box (zPl p))], upd H kt (some (.tip 3 1 zs.length))⟩) (fun i => p.args.length - i) 0 ⟨_, by exact Wk.keep 30 _ _ _ rfl ⟨rfl, rfl, rfl, trivial⟩ ⟨rfl, trivial⟩ (fun _ _ h => h) rfl, k0, [], ⟨Nat.zero_le _, hk0, rfl⟩, rfl⟩ (fun i s hs => ?_)
  obtain ⟨kt, zs, ⟨hi0, hkt, hzs⟩, rfl⟩ := hs
  refine AW.seq (sR (sM ?_))
  refine Z1 Fx.fl35_5 ?_
  refine Z0 Fx.ty33 ?_
  refine Z14 Fx.un33 ?_
  refine Z10 ?_
  refine Z3 ?_
  refine AW.condD rfl ?_ ?_ <;> intro h18
  ·
   have hi : i < p.args.length := by rw [List.length_map] at h18; omega
   have hfl := flat_le (f := srM) hi
   rw [← hs] at hfl
   refine AW.skip (AW.seq (AW.block (AW.reg (sM ?_))))
   refine Z1 Fx.fl35_5 ?_
   refine Z0 Fx.ty33 ?_
   refine sM ?_
   refine Z9 Fx.sl33 (idx_pl hi) ?_
   refine Z11 (.g [_, _, _, _, _, _, _, _, _, _, _, _, _]) Fx.ty35 ?_
   refine Z22 Fx.fn21 (ih hn _ (List.getElem_mem hi)) ?_
   refine SeqK.app1 rfl (hkt) rfl Fx.el24 rfl rfl (by simp only [hzs, List.length_map, List.length_append] at *; omega) rfl rfl (fun k28 hk28 => ?_)
   refine sB ?_
   refine AW.reg (sM ?_)
   refine Z2 ?_
   refine sB ?_
   exact ⟨i + 1, _, by exact Wk.keep 30 _ _ _ rfl ⟨rfl, rfl, rfl, trivial⟩ ⟨rfl, trivial⟩ (fun _ _ h => h) rfl, by omega, k28, zs ++ (srM p.args[i]).map i64T, ⟨hi, hk28, by rw [hzs, flat_take hi, List.map_append]⟩, rfl⟩
  refine AW.exit ?_
  refine eth_e ?_
  refine eth_e ?_
  refine exit_here ?_
  refine AW.seq ?_
  obtain rfl : i = p.args.length := by rw [List.length_map] at h18; omega
  rw [List.take_length, ← hs] at hzs
  refine AW.xw 3 rfl (XW.ts.trans (XW.es hzs)) ?_
  refine AW.reg (sM ?_)
  refine sB ?_
  refine AW.ret ?_
  exact fin_x (x := .c _) (H) (.tmp rfl .nil) rfl ((fun j o h => upd_sub hkt j o h)) (⟨rfl, rfl⟩)
 refine AW.reg (Z8 ?_)
 refine sB ?_
 refine AW.condD rfl ?_ ?_ <;> intro h7
 ·
  refine sR (Z1 Fx.fl35_1 ?_)
  refine Z0 Fx.ty3 ?_
  refine Z38 Fx.el24 ?_
  refine SeqK.xw 13 rfl XW.un ?_
  refine sB ?_
  refine AW.ret ?_
  exact f1 (q := ⟨by rw [srM_leaf (by omega)]; rfl, rfl⟩)
 refine AW.skip (AW.seq ?_)
 have hn : ¬ (p.k = 1 ∨ p.k = 2 ∨ p.k = 3) := by omega
 have hs := srM_in hn
 refine AW.reg (sB ?_)
 refine AW.seq (sR (sB ?_))
 refine AW.block ?_
 refine AW.tip 3 3 1 rfl (fun k0 hk0 => ?_)
 refine AW.loop (fun (i : Nat) s => ∃ (kt : Nat) (zs : List (List E.T)), (i ≤ p.args.length ∧ H kt = none ∧ zs = ((p.args.take i).flatMap srM).map i64T) ∧ s = ⟨30, sp [(1, .lp 1 0), (3, .c (.a (.ts kt .ne 1 zs))), (4, iX .i64 ((i : Nat) : Int))], lv [(1, .box (zPl p))], upd H kt (some (.tip 3 1 zs.length))⟩) (fun i => p.args.length - i) 0 ⟨_, by exact Wk.keep 30 _ _ _ rfl ⟨rfl, rfl, rfl, trivial⟩ ⟨rfl, trivial⟩ (fun _ _ h => h) rfl, k0, [], ⟨Nat.zero_le _, hk0, rfl⟩, rfl⟩ (fun i s hs => ?_)
 obtain ⟨kt, zs, ⟨hi0, hkt, hzs⟩, rfl⟩ := hs
 refine AW.seq (sR (sM ?_))
 refine Z1 Fx.fl35_5 ?_
 refine Z0 Fx.ty33 ?_
 refine Z14 Fx.un33 ?_
 refine Z10 ?_
 refine Z3 ?_
 refine AW.condD rfl ?_ ?_ <;> intro h18
 ·
  have hi : i < p.args.length := by rw [List.length_map] at h18; omega
  have hfl := flat_le (f := srM) hi
  rw [← hs] at hfl
  refine AW.skip (AW.seq (AW.block (AW.reg (sM ?_))))
  refine Z1 Fx.fl35_5 ?_
  refine Z0 Fx.ty33 ?_
  refine sM ?_
  refine Z9 Fx.sl33 (idx_pl hi) ?_
  refine Z11 (.g [_, _, _, _, _, _, _, _, _, _, _, _, _]) Fx.ty35 ?_
  refine Z22 Fx.fn21 (ih hn _ (List.getElem_mem hi)) ?_
  refine SeqK.app1 rfl (hkt) rfl Fx.el24 rfl rfl (by simp only [hzs, List.length_map, List.length_append] at *; omega) rfl rfl (fun k28 hk28 => ?_)
  refine sB ?_
  refine AW.reg (sM ?_)
  refine Z2 ?_
  refine sB ?_
  exact ⟨i + 1, _, by exact Wk.keep 30 _ _ _ rfl ⟨rfl, rfl, rfl, trivial⟩ ⟨rfl, trivial⟩ (fun _ _ h => h) rfl, by omega, k28, zs ++ (srM p.args[i]).map i64T, ⟨hi, hk28, by rw [hzs, flat_take hi, List.map_append]⟩, rfl⟩
 refine AW.exit ?_
 refine eth_e ?_
 refine eth_e ?_
 refine exit_here ?_
 refine AW.seq ?_
 obtain rfl : i = p.args.length := by rw [List.length_map] at h18; omega
 rw [List.take_length, ← hs] at hzs
 refine AW.xw 3 rfl (XW.ts.trans (XW.es hzs)) ?_
 refine AW.reg (sM ?_)
 refine sB ?_
 refine AW.ret ?_
 exact fin_x (x := .c _) (H) (.tmp rfl .nil) rfl ((fun j o h => upd_sub hkt j o h)) (⟨rfl, rfl⟩)

theorem srcs_any (p : Pl) : okP p → (srM p).length ≤ 1000000 → Pure Tryz.prog 39 [plC p] (.c (iL .un (srM p))) := by
  induction p using Pl.rec' with
  | h p ih => exact fun ho hb => srcs_of p ho hb fun hn a ha => ih a ha ((okP_iff.1 ho).2 a ha) (Nat.le_trans (srM_arg hn ha) hb)

theorem rsrcs_any (p : Pl) : okP p → (srM p).length ≤ 1000000 → Pure Tryz.prog 21 [plC p] (.c (iL .un (srM p))) := by
  induction p using Pl.rec' with
  | h p ih => exact fun ho hb => rsrcs_of p ho hb fun hn a ha => ih a ha ((okP_iff.1 ho).2 a ha) (Nat.le_trans (srM_arg hn ha) hb)

mutual
def cnj : Ex → List Ex
  | .mk op tb nm ix vk vn vs xs => if op = 0 then [] else if op = 18 then cnjs xs else [.mk op tb nm ix vk vn vs xs]
def cnjs : List Ex → List Ex
  | [] => []
  | e :: r => cnj e ++ cnjs r
end
theorem cnjs_flat : ∀ {l : List Ex}, cnjs l = l.flatMap cnj
  | [] => by rw [cnjs]; rfl
  | e :: r => by rw [cnjs, cnjs_flat, List.flatMap_cons]
theorem cnj_0 {e : Ex} (h : e.op = 0) : cnj e = [] := by cases e; rw [cnj, if_pos h]
theorem cnj_and {e : Ex} (h : e.op = 18) : cnj e = e.args.flatMap cnj := by
  cases e with | mk op tb nm ix vk vn vs xs =>
  have h9 : op = 18 := h
  rw [cnj, if_neg (by omega), if_pos h9, cnjs_flat]
theorem cnj_one {e : Ex} (h : e.op ≠ 0) (h2 : e.op ≠ 18) : cnj e = [e] := by cases e; rw [cnj, if_neg h, if_neg h2]
theorem cnj_arg {e a : Ex} (h : e.op = 18) (ha : a ∈ e.args) : (cnj a).length ≤ (cnj e).length := by
  obtain ⟨i, hi, rfl⟩ := List.mem_iff_getElem.1 ha
  rw [cnj_and h]; have := flat_le (f := cnj) hi; omega

set_option maxHeartbeats 4000000 in
set_option maxRecDepth 20000 in
theorem conj_of (e : Ex) (ho : okE e) (hb : (cnj e).length ≤ 1000000) (ih : e.op = 18 → ∀ a ∈ e.args, Pure Tryz.prog 18 [exC a] (.c (exsC .un (cnj a)))) : Pure Tryz.prog 18 [exC e] (.c (exsC .un (cnj e))) := by
 intro H
 refine Spec.enter Tryz.func18 rfl ?_
 refine AW.wk (Wk.keep 27 [(0, .c (exC e))] [] (H) rfl ⟨rfl, trivial⟩ trivial (fun _ _ h => h) rfl) ?_
 refine sR (Z16 (r := [_, _, _, _, _, _, _, _]) ?_)
 refine sB ?_
 refine AW.seq (AW.seq ?_)
 have k4 := (okE_iff.1 ho).1.2.2.2
 refine AW.reg (Z1 Fx.fl30_0 ?_)
 refine Z0 Fx.ty3 ?_
 refine Z3 (AW.block (sR (Z8 ?_)))
 refine sB ?_
 refine AW.condD rfl ?_ ?_ <;> intro h8
 ·
  refine sR (sB ?_)
  refine AW.xw 2 rfl (XW.nilU (sz := 8)) ?_
  refine AW.ret ?_
  exact f1 (q := ⟨by rw [cnj_0 (by assumption)]; rfl, rfl⟩)
 refine sR (Z8 ?_)
 refine sB ?_
 refine AW.condD rfl ?_ ?_ <;> intro h10
 ·
  refine AW.seq ?_
  have he : e.op = 18 := by assumption
  have hs := cnj_and he
  refine AW.reg (sB ?_)
  refine AW.seq (sR (Z1 Fx.fl30_5 ?_))
  refine Z0 Fx.ty28 ?_
  refine Z14 Fx.un28 ?_
  refine sM ?_
  refine Z3 (AW.block ?_)
  refine AW.tip 3 30 8 rfl (fun k0 hk0 => ?_)
  refine AW.loop (fun (i : Nat) s => ∃ (kt : Nat) (zs : List (List E.T)), (i ≤ e.args.length ∧ H kt = none ∧ zs = ((e.args.take i).flatMap cnj).map exT') ∧ s = ⟨27, sp [(1, .lp 1 0), (3, .c (.a (.ts kt .ne 8 zs))), (13, .c (exsC .un e.args)), (14, iX .i64 (((e.args.map exT').length : Nat) : Int)), (15, iX .i64 ((i : Nat) : Int))], lv [(1, .box (zEx e))], upd H kt (some (.tip 30 8 zs.length))⟩) (fun i => e.args.length - i) 0 ⟨_, by exact Wk.keep 27 _ _ _ rfl ⟨rfl, rfl, rfl, rfl, rfl, trivial⟩ ⟨rfl, trivial⟩ (fun _ _ h => h) rfl, k0, [], ⟨Nat.zero_le _, hk0, rfl⟩, rfl⟩ (fun i s hs => ?_)
  obtain ⟨kt, zs, ⟨hi0, hkt, hzs⟩, rfl⟩ := hs
  refine sR (Z10 ?_)
  refine Z3 (AW.seq ?_)
  refine AW.condD rfl ?_ ?_ <;> intro h16
  ·
   have hi : i < e.args.length := by rw [List.length_map] at h16; omega
   have hfl := flat_le (f := cnj) hi
   rw [← hs] at hfl
   refine AW.skip (AW.seq (AW.block (sR (Z9 Fx.sl28 (idx_ex hi) ?_))))
   refine Z11 (.g [_, _, _, _, _, _, _, _]) Fx.ty30 ?_
   refine Z25 (r := [_, _, _, _, _, _, _, _]) Fx.ze30 ?_
   refine Z15 (r := [_, _, _, _, _, _, _, _]) Fx.ty30 ?_
   refine Z3 (AW.reg (sM ?_))
   refine Z12 (r := .g [_, _, _, _, _, _, _, _]) Fx.ty30 ?_
   refine Z22 Fx.fn18 (ih he _ (List.getElem_mem hi)) ?_
   refine SeqK.app1 rfl (hkt) rfl Fx.el28 rfl rfl (by simp only [hzs, List.length_map, List.length_append] at *; omega) rfl rfl (fun k22 hk22 => ?_)
   refine sB ?_
   refine AW.reg (Z2 ?_)
   refine sM ?_
   refine Z3 ?_
   exact ⟨i + 1, _, by exact Wk.keep 27 _ _ _ rfl ⟨rfl, rfl, rfl, rfl, rfl, trivial⟩ ⟨rfl, trivial⟩ (fun _ _ h => h) rfl, by omega, k22, zs ++ (cnj e.args[i]).map exT', ⟨hi, hk22, by rw [hzs, flat_take hi, List.map_append]⟩, rfl⟩
  refine AW.exit ?_
  refine eth_e ?_
  refine eth_e ?_
  refine exit_here ?_
  refine AW.seq ?_
  obtain rfl : i = e.args.length := by rw [List.length_map] at h16; omega
  rw [List.take_length, ← hs] at hzs
  refine AW.xw 3 rfl (XW.ts.trans (XW.es hzs)) ?_
  refine AW.reg (sM ?_)
  refine sB ?_
  refine AW.ret ?_
  exact fin_x (x := .c _) (H) (.tmp rfl .nil) rfl ((fun j o h => upd_sub hkt j o h)) (⟨rfl, rfl⟩)
 refine AW.skip (sR (Z12 (r := .g [_, _, _, _, _, _, _, _]) Fx.ty30 ?_))
 refine Z38 Fx.el28 ?_
 refine SeqK.xw 26 rfl (XW.es (show _ = [e].map exT' by rw [List.map_singleton, exT_eq])) ?_
 refine sB ?_
 refine AW.ret ?_
 exact f1 (q := ⟨by rw [cnj_one (by assumption) (by assumption)], rfl⟩)

theorem conj_any (e : Ex) : okE e → (cnj e).length ≤ 1000000 → Pure Tryz.prog 18 [exC e] (.c (exsC .un (cnj e))) := by
  induction e using Ex.rec' with
  | h e ih => exact fun ho hb => conj_of e ho hb fun hn a ha => ih a ha ((okE_iff.1 ho).2 a ha) (Nat.le_trans (cnj_arg hn ha) hb)

end Go.Proofs.YtihlgigaejhilaaGreatDoor.W
namespace Go.Proofs.YtihlgigaejhilaaGreatDoor.W
open Go.RowKit E
/-! a case: a bound statement -/
structure Cs where (sch : List Tb) (frm : List Int) (al : List ByteArray) (wh : Ex)

end Go.Proofs.YtihlgigaejhilaaGreatDoor.W
