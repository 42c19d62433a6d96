import Derived.Test.YtkpacejikoengaaW8
import Derived.Test.YtkpacejikoengaaW6
namespace Go.Proofs.Ytkpacejikoengaa.W
open Go.RowKit E M
set_option linter.unusedVariables false
set_option linter.unusedSimpArgs false
theorem q_remC {P : Program} {o : Oper} {s : S} {t u : TypeId} {x y : Operand} {k : IntKind} {a b c : Int} (ho : o.op = .binOp .rem t x y u) (hx : s.eval x = iX k a) (hy : s.eval y = iX k b) (h0 : b ≠ 0) (hc : a.tmod b = c) : QV P o s (iX k c) := hc ▸ q_rem ho hx hy h0
theorem neg_ne {l : List Bd} {cs : List Nat} (hN : NegCyc l cs) {i k : Nat} (hi : i < cs.length) (hk : k < i) (h1 : cs[i] < l.length) (h2 : cs[k] < l.length) : l[cs[k]].i ≠ l[cs[i]].i := fun e => by
  have h := List.pairwise_iff_getElem.1 (List.pairwise_map.1 hN.nodup) k i (by omega) hi hk
  rw [getD_get h1, getD_get h2] at h
  exact h e
abbrev inZ (z : Nz) (l : List Nat) : C := .a (.t (.sl z 1 (l.map fun k => i64T (k : Nat))))

set_option maxRecDepth 20000 in
theorem holds_any (n : Nat) (z z2 : Nz) (l : List Bd) (xs : List Int) (hn : n ≤ 64) (hr : MRes l n xs) (hl : l.length ≤ 1000) (hok : ∀ b ∈ l, OkB n b) : Pure Try.prog 19 [iC n, bdL z l, .a (.t (.sl z2 1 (xs.map i64T)))] (bX true) := by
  obtain ⟨hxl, x, hsol, hxs, hbd⟩ := hr
  intro H
  refine Spec.enter Try.func19 rfl ?_
  refine AW.wk (Wk.keep 75 [(0, .c (iC n)), (1, .c (bdL z l)), (2, .c (.a (.t (.sl z2 1 (xs.map i64T)))))] [] (H) rfl ⟨rfl, rfl, rfl, trivial⟩ trivial (fun _ _ h => h) rfl) ?_
  refine AW.seq ?_
  refine AW.reg ?_
  refine SeqK.q (q_asC rfl rfl) rfl rfl rfl ?_
  refine SeqK.nil ?_
  refine AW.seq ?_
  refine AW.seq ?_
  refine AW.reg ?_
  refine SeqK.q (q_mvC rfl rfl) rfl rfl rfl ?_
  refine SeqK.q (q_len rfl Fx.un28 rfl) rfl rfl rfl ?_
  refine SeqK.q (q_mvC rfl rfl) rfl rfl rfl ?_
  refine SeqK.q (q_neq rfl rfl rfl) rfl rfl rfl ?_
  refine SeqK.nil ?_
  refine AW.condD rfl (fun h13 => ?_) (fun h13 => ?_)
  ·
    exfalso; simp at h13; omega
  ·
    refine AW.skip ?_
    refine AW.seq ?_
    refine AW.seq ?_
    refine AW.reg ?_
    refine SeqK.q (q_asC rfl rfl) rfl rfl rfl ?_
    refine SeqK.nil ?_
    refine AW.block ?_
    refine AW.loop (fun (i : Nat) s => (i ≤ l.length) ∧ s = ⟨75, sp [(0, .c (iC n)), (1, .c (bdL z l)), (2, .c (.a (.t (.sl z2 1 (xs.map i64T))))), (7, iX .i64 ((i : Nat) : Int))], lv [], H⟩) (fun i => l.length - i) 0 ⟨_, Wk.keep 75 [(0, .c (iC n)), (1, .c (bdL z l)), (2, .c (.a (.t (.sl z2 1 (xs.map i64T))))), (7, iX .i64 ((((0 : Nat)) : Nat) : Int))] [] (H) rfl ⟨rfl, rfl, rfl, rfl, trivial⟩ trivial (fun _ _ h => h) rfl, Nat.zero_le _, rfl⟩ (fun i s hs => ?_)
    obtain ⟨hi, rfl⟩ := hs
    refine AW.seq ?_
    refine AW.seq ?_
    refine AW.reg ?_
    refine SeqK.q (q_mvC rfl rfl) rfl rfl rfl ?_
    refine SeqK.q (q_mvC rfl rfl) rfl rfl rfl ?_
    refine SeqK.q (q_len rfl Fx.un22 rfl) rfl rfl rfl ?_
    refine SeqK.q (q_lss rfl rfl rfl) rfl rfl rfl ?_
    refine SeqK.nil ?_
    refine AW.condD rfl (fun h17 => ?_) (fun h17 => ?_)
    ·
      have hka : i < l.length := by simp at h17; omega
      obtain ⟨ho1, ho2, ho3, ho4, ho5, ho6⟩ := hok _ (List.getElem_mem hka)
      have hs9 := hsol _ (List.getElem_mem hka)
      obtain ⟨b1, b2⟩ := hbd _ ho1 ho2
      obtain ⟨b3, b4⟩ := hbd _ ho3 ho4
      obtain ⟨b5, b6⟩ := hbd (n : Nat) (by omega) (by omega)
      refine AW.skip ?_
      refine AW.seq ?_
      refine AW.block ?_
      refine AW.seq ?_
      refine AW.reg ?_
      refine SeqK.q (q_asC rfl rfl) rfl rfl rfl ?_
      refine SeqK.q (q_asC rfl rfl) rfl rfl rfl ?_
      refine SeqK.nil ?_
      refine AW.seq ?_
      refine AW.seq ?_
      refine AW.reg ?_
      refine SeqK.q (q_mvC rfl rfl) rfl rfl rfl ?_
      refine SeqK.q (q_mvC rfl rfl) rfl rfl rfl ?_
      refine SeqK.q (q_index _ rfl Fx.sl22 rfl rfl (by omega) (idx_bd hka)) rfl rfl rfl ?_
      refine SeqK.q (q_fieldP _ rfl Fx.fl41_0 rfl rfl) rfl rfl rfl ?_
      refine SeqK.q (q_load (.a _) rfl Fx.ty3 rfl rfl rfl) rfl rfl rfl ?_
      refine SeqK.q (q_mvC rfl rfl) rfl rfl rfl ?_
      refine SeqK.q (q_lss rfl rfl rfl) rfl rfl rfl ?_
      refine SeqK.nil ?_
      refine AW.condD rfl (fun h26 => ?_) (fun h26 => ?_)
      ·
        have hi9 : l[i].i.toNat < xs.length := by omega
        have hx1 := hxs _ hi9
        rw [show ((l[i].i.toNat : Nat) : Int) = l[i].i by omega] at hx1
        refine AW.reg ?_
        refine SeqK.q (q_mvC rfl rfl) rfl rfl rfl ?_
        refine SeqK.q (q_mvC rfl rfl) rfl rfl rfl ?_
        refine SeqK.q (q_mvC rfl rfl) rfl rfl rfl ?_
        refine SeqK.q (q_index _ rfl Fx.sl22 rfl rfl (by omega) (idx_bd hka)) rfl rfl rfl ?_
        refine SeqK.q (q_fieldP _ rfl Fx.fl41_0 rfl rfl) rfl rfl rfl ?_
        refine SeqK.q (q_load (.a _) rfl Fx.ty3 rfl rfl rfl) rfl rfl rfl ?_
        refine SeqK.q (q_index _ rfl Fx.sl28 rfl rfl (by omega) (idx_mapI hi9)) rfl rfl rfl ?_
        refine SeqK.q (q_load (.a _) rfl Fx.ty2 rfl rfl rfl) rfl rfl rfl ?_
        refine SeqK.q (q_asC rfl rfl) rfl rfl rfl ?_
        refine SeqK.nil ?_
        refine AW.seq ?_
        refine AW.seq ?_
        refine AW.reg ?_
        refine SeqK.q (q_mvC rfl rfl) rfl rfl rfl ?_
        refine SeqK.q (q_mvC rfl rfl) rfl rfl rfl ?_
        refine SeqK.q (q_index _ rfl Fx.sl22 rfl rfl (by omega) (idx_bd hka)) rfl rfl rfl ?_
        refine SeqK.q (q_fieldP _ rfl Fx.fl41_1 rfl rfl) rfl rfl rfl ?_
        refine SeqK.q (q_load (.a _) rfl Fx.ty3 rfl rfl rfl) rfl rfl rfl ?_
        refine SeqK.q (q_mvC rfl rfl) rfl rfl rfl ?_
        refine SeqK.q (q_lss rfl rfl rfl) rfl rfl rfl ?_
        refine SeqK.nil ?_
        refine AW.condD rfl (fun h41 => ?_) (fun h41 => ?_)
        ·
          have hj9 : l[i].j.toNat < xs.length := by omega
          have hx2 := hxs _ hj9
          rw [show ((l[i].j.toNat : Nat) : Int) = l[i].j by omega] at hx2
          refine AW.reg ?_
          refine SeqK.q (q_mvC rfl rfl) rfl rfl rfl ?_
          refine SeqK.q (q_mvC rfl rfl) rfl rfl rfl ?_
          refine SeqK.q (q_mvC rfl rfl) rfl rfl rfl ?_
          refine SeqK.q (q_index _ rfl Fx.sl22 rfl rfl (by omega) (idx_bd hka)) rfl rfl rfl ?_
          refine SeqK.q (q_fieldP _ rfl Fx.fl41_1 rfl rfl) rfl rfl rfl ?_
          refine SeqK.q (q_load (.a _) rfl Fx.ty3 rfl rfl rfl) rfl rfl rfl ?_
          refine SeqK.q (q_index _ rfl Fx.sl28 rfl rfl (by omega) (idx_mapI hj9)) rfl rfl rfl ?_
          refine SeqK.q (q_load (.a _) rfl Fx.ty2 rfl rfl rfl) rfl rfl rfl ?_
          refine SeqK.q (q_asC rfl rfl) rfl rfl rfl ?_
          refine SeqK.nil ?_
          refine AW.seq ?_
          refine AW.reg ?_
          refine SeqK.q (q_mvC rfl rfl) rfl rfl rfl ?_
          refine SeqK.q (q_lss rfl rfl rfl) rfl rfl rfl ?_
          refine SeqK.qD (q_mvC rfl rfl) rfl rfl rfl (fun g52 => ?_) (fun g52 => ?_)
          ·
            exfalso; omega
          ·
            refine SeqK.on (q_mvC rfl rfl) rfl rfl rfl rfl rfl ?_
            refine SeqK.on (q_gtr rfl rfl rfl) rfl rfl rfl rfl rfl ?_
            refine SeqK.q (q_pkF rfl rfl rfl) rfl rfl rfl ?_
            refine SeqK.qD (q_mvC rfl rfl) rfl rfl rfl (fun g56 => ?_) (fun g56 => ?_)
            ·
              exfalso; omega
            ·
              refine SeqK.on (q_mvC rfl rfl) rfl rfl rfl rfl rfl ?_
              refine SeqK.on (q_lss rfl rfl rfl) rfl rfl rfl rfl rfl ?_
              refine SeqK.q (q_pkF rfl rfl rfl) rfl rfl rfl ?_
              refine SeqK.qD (q_mvC rfl rfl) rfl rfl rfl (fun g60 => ?_) (fun g60 => ?_)
              ·
                exfalso; omega
              ·
                refine SeqK.on (q_mvC rfl rfl) rfl rfl rfl rfl rfl ?_
                refine SeqK.on (q_gtr rfl rfl rfl) rfl rfl rfl rfl rfl ?_
                refine SeqK.q (q_pkF rfl rfl rfl) rfl rfl rfl ?_
                refine SeqK.qD (q_mvC rfl rfl) rfl rfl rfl (fun g64 => ?_) (fun g64 => ?_)
                ·
                  exfalso; omega
                ·
                  refine SeqK.on (q_mvC rfl rfl) rfl rfl rfl rfl rfl ?_
                  refine SeqK.on (q_mvC rfl rfl) rfl rfl rfl rfl rfl ?_
                  refine SeqK.on (q_sub _ rfl rfl rfl (w64 (by omega) (by omega))) rfl rfl rfl rfl rfl ?_
                  refine SeqK.on (q_mvC rfl rfl) rfl rfl rfl rfl rfl ?_
                  refine SeqK.on (q_mvC rfl rfl) rfl rfl rfl rfl rfl ?_
                  refine SeqK.on (q_index _ rfl Fx.sl22 rfl rfl (by omega) (idx_bd hka)) rfl rfl rfl rfl rfl ?_
                  refine SeqK.on (q_fieldP _ rfl Fx.fl41_2 rfl rfl) rfl rfl rfl rfl rfl ?_
                  refine SeqK.on (q_load (.a _) rfl Fx.ty2 rfl rfl rfl) rfl rfl rfl rfl rfl ?_
                  refine SeqK.on (q_gtr rfl rfl rfl) rfl rfl rfl rfl rfl ?_
                  refine SeqK.q (q_pkF rfl rfl rfl) rfl rfl rfl ?_
                  refine SeqK.nil ?_
                  refine AW.condD rfl (fun h74 => ?_) (fun h74 => ?_)
                  ·
                    exfalso; omega
                  ·
                    refine AW.skip ?_
                    refine AW.reg ?_
                    refine SeqK.q (q_mvC rfl rfl) rfl rfl rfl ?_
                    refine SeqK.q (q_add _ rfl rfl rfl (w64 (by omega) (by omega))) rfl rfl rfl ?_
                    refine SeqK.q (q_asC rfl rfl) rfl rfl rfl ?_
                    refine SeqK.nil ?_
                    exact ⟨i + 1, _, Wk.keep 75 [(0, .c (iC n)), (1, .c (bdL z l)), (2, .c (.a (.t (.sl z2 1 (xs.map i64T))))), (7, iX .i64 (((i + 1) : Nat) : Int))] [] (H) rfl ⟨rfl, rfl, rfl, rfl, trivial⟩ trivial (fun _ _ h => h) rfl, by omega, by omega, rfl⟩
        ·
          have hJ : l[i].j = n := by omega
          have hx2 : x l[i].j - x n = 0 := by rw [hJ]; omega
          refine AW.skip ?_
          refine AW.seq ?_
          refine AW.reg ?_
          refine SeqK.q (q_mvC rfl rfl) rfl rfl rfl ?_
          refine SeqK.q (q_lss rfl rfl rfl) rfl rfl rfl ?_
          refine SeqK.qD (q_mvC rfl rfl) rfl rfl rfl (fun g52 => ?_) (fun g52 => ?_)
          ·
            exfalso; omega
          ·
            refine SeqK.on (q_mvC rfl rfl) rfl rfl rfl rfl rfl ?_
            refine SeqK.on (q_gtr rfl rfl rfl) rfl rfl rfl rfl rfl ?_
            refine SeqK.q (q_pkF rfl rfl rfl) rfl rfl rfl ?_
            refine SeqK.qD (q_mvC rfl rfl) rfl rfl rfl (fun g56 => ?_) (fun g56 => ?_)
            ·
              exfalso; omega
            ·
              refine SeqK.on (q_mvC rfl rfl) rfl rfl rfl rfl rfl ?_
              refine SeqK.on (q_lss rfl rfl rfl) rfl rfl rfl rfl rfl ?_
              refine SeqK.q (q_pkF rfl rfl rfl) rfl rfl rfl ?_
              refine SeqK.qD (q_mvC rfl rfl) rfl rfl rfl (fun g60 => ?_) (fun g60 => ?_)
              ·
                exfalso; omega
              ·
                refine SeqK.on (q_mvC rfl rfl) rfl rfl rfl rfl rfl ?_
                refine SeqK.on (q_gtr rfl rfl rfl) rfl rfl rfl rfl rfl ?_
                refine SeqK.q (q_pkF rfl rfl rfl) rfl rfl rfl ?_
                refine SeqK.qD (q_mvC rfl rfl) rfl rfl rfl (fun g64 => ?_) (fun g64 => ?_)
                ·
                  exfalso; omega
                ·
                  refine SeqK.on (q_mvC rfl rfl) rfl rfl rfl rfl rfl ?_
                  refine SeqK.on (q_mvC rfl rfl) rfl rfl rfl rfl rfl ?_
                  refine SeqK.on (q_sub _ rfl rfl rfl (w64 (by omega) (by omega))) rfl rfl rfl rfl rfl ?_
                  refine SeqK.on (q_mvC rfl rfl) rfl rfl rfl rfl rfl ?_
                  refine SeqK.on (q_mvC rfl rfl) rfl rfl rfl rfl rfl ?_
                  refine SeqK.on (q_index _ rfl Fx.sl22 rfl rfl (by omega) (idx_bd hka)) rfl rfl rfl rfl rfl ?_
                  refine SeqK.on (q_fieldP _ rfl Fx.fl41_2 rfl rfl) rfl rfl rfl rfl rfl ?_
                  refine SeqK.on (q_load (.a _) rfl Fx.ty2 rfl rfl rfl) rfl rfl rfl rfl rfl ?_
                  refine SeqK.on (q_gtr rfl rfl rfl) rfl rfl rfl rfl rfl ?_
                  refine SeqK.q (q_pkF rfl rfl rfl) rfl rfl rfl ?_
                  refine SeqK.nil ?_
                  refine AW.condD rfl (fun h74 => ?_) (fun h74 => ?_)
                  ·
                    exfalso; omega
                  ·
                    refine AW.skip ?_
                    refine AW.reg ?_
                    refine SeqK.q (q_mvC rfl rfl) rfl rfl rfl ?_
                    refine SeqK.q (q_add _ rfl rfl rfl (w64 (by omega) (by omega))) rfl rfl rfl ?_
                    refine SeqK.q (q_asC rfl rfl) rfl rfl rfl ?_
                    refine SeqK.nil ?_
                    exact ⟨i + 1, _, Wk.keep 75 [(0, .c (iC n)), (1, .c (bdL z l)), (2, .c (.a (.t (.sl z2 1 (xs.map i64T))))), (7, iX .i64 (((i + 1) : Nat) : Int))] [] (H) rfl ⟨rfl, rfl, rfl, rfl, trivial⟩ trivial (fun _ _ h => h) rfl, by omega, by omega, rfl⟩
      ·
        have hI : l[i].i = n := by omega
        have hx1 : x l[i].i - x n = 0 := by rw [hI]; omega
        refine AW.skip ?_
        refine AW.seq ?_
        refine AW.seq ?_
        refine AW.reg ?_
        refine SeqK.q (q_mvC rfl rfl) rfl rfl rfl ?_
        refine SeqK.q (q_mvC rfl rfl) rfl rfl rfl ?_
        refine SeqK.q (q_index _ rfl Fx.sl22 rfl rfl (by omega) (idx_bd hka)) rfl rfl rfl ?_
        refine SeqK.q (q_fieldP _ rfl Fx.fl41_1 rfl rfl) rfl rfl rfl ?_
        refine SeqK.q (q_load (.a _) rfl Fx.ty3 rfl rfl rfl) rfl rfl rfl ?_
        refine SeqK.q (q_mvC rfl rfl) rfl rfl rfl ?_
        refine SeqK.q (q_lss rfl rfl rfl) rfl rfl rfl ?_
        refine SeqK.nil ?_
        refine AW.condD rfl (fun h41 => ?_) (fun h41 => ?_)
        ·
          have hj9 : l[i].j.toNat < xs.length := by omega
          have hx2 := hxs _ hj9
          rw [show ((l[i].j.toNat : Nat) : Int) = l[i].j by omega] at hx2
          refine AW.reg ?_
          refine SeqK.q (q_mvC rfl rfl) rfl rfl rfl ?_
          refine SeqK.q (q_mvC rfl rfl) rfl rfl rfl ?_
          refine SeqK.q (q_mvC rfl rfl) rfl rfl rfl ?_
          refine SeqK.q (q_index _ rfl Fx.sl22 rfl rfl (by omega) (idx_bd hka)) rfl rfl rfl ?_
          refine SeqK.q (q_fieldP _ rfl Fx.fl41_1 rfl rfl) rfl rfl rfl ?_
          refine SeqK.q (q_load (.a _) rfl Fx.ty3 rfl rfl rfl) rfl rfl rfl ?_
          refine SeqK.q (q_index _ rfl Fx.sl28 rfl rfl (by omega) (idx_mapI hj9)) rfl rfl rfl ?_
          refine SeqK.q (q_load (.a _) rfl Fx.ty2 rfl rfl rfl) rfl rfl rfl ?_
          refine SeqK.q (q_asC rfl rfl) rfl rfl rfl ?_
          refine SeqK.nil ?_
          refine AW.seq ?_
          refine AW.reg ?_
          refine SeqK.q (q_mvC rfl rfl) rfl rfl rfl ?_
          refine SeqK.q (q_lss rfl rfl rfl) rfl rfl rfl ?_
          refine SeqK.qD (q_mvC rfl rfl) rfl rfl rfl (fun g52 => ?_) (fun g52 => ?_)
          ·
            exfalso; omega
          ·
            refine SeqK.on (q_mvC rfl rfl) rfl rfl rfl rfl rfl ?_
            refine SeqK.on (q_gtr rfl rfl rfl) rfl rfl rfl rfl rfl ?_
            refine SeqK.q (q_pkF rfl rfl rfl) rfl rfl rfl ?_
            refine SeqK.qD (q_mvC rfl rfl) rfl rfl rfl (fun g56 => ?_) (fun g56 => ?_)
            ·
              exfalso; omega
            ·
              refine SeqK.on (q_mvC rfl rfl) rfl rfl rfl rfl rfl ?_
              refine SeqK.on (q_lss rfl rfl rfl) rfl rfl rfl rfl rfl ?_
              refine SeqK.q (q_pkF rfl rfl rfl) rfl rfl rfl ?_
              refine SeqK.qD (q_mvC rfl rfl) rfl rfl rfl (fun g60 => ?_) (fun g60 => ?_)
              ·
                exfalso; omega
              ·
                refine SeqK.on (q_mvC rfl rfl) rfl rfl rfl rfl rfl ?_
                refine SeqK.on (q_gtr rfl rfl rfl) rfl rfl rfl rfl rfl ?_
                refine SeqK.q (q_pkF rfl rfl rfl) rfl rfl rfl ?_
                refine SeqK.qD (q_mvC rfl rfl) rfl rfl rfl (fun g64 => ?_) (fun g64 => ?_)
                ·
                  exfalso; omega
                ·
                  refine SeqK.on (q_mvC rfl rfl) rfl rfl rfl rfl rfl ?_
                  refine SeqK.on (q_mvC rfl rfl) rfl rfl rfl rfl rfl ?_
                  refine SeqK.on (q_sub _ rfl rfl rfl (w64 (by omega) (by omega))) rfl rfl rfl rfl rfl ?_
                  refine SeqK.on (q_mvC rfl rfl) rfl rfl rfl rfl rfl ?_
                  refine SeqK.on (q_mvC rfl rfl) rfl rfl rfl rfl rfl ?_
                  refine SeqK.on (q_index _ rfl Fx.sl22 rfl rfl (by omega) (idx_bd hka)) rfl rfl rfl rfl rfl ?_
                  refine SeqK.on (q_fieldP _ rfl Fx.fl41_2 rfl rfl) rfl rfl rfl rfl rfl ?_
                  refine SeqK.on (q_load (.a _) rfl Fx.ty2 rfl rfl rfl) rfl rfl rfl rfl rfl ?_
                  refine SeqK.on (q_gtr rfl rfl rfl) rfl rfl rfl rfl rfl ?_
                  refine SeqK.q (q_pkF rfl rfl rfl) rfl rfl rfl ?_
                  refine SeqK.nil ?_
                  refine AW.condD rfl (fun h74 => ?_) (fun h74 => ?_)
                  ·
                    exfalso; omega
                  ·
                    refine AW.skip ?_
                    refine AW.reg ?_
                    refine SeqK.q (q_mvC rfl rfl) rfl rfl rfl ?_
                    refine SeqK.q (q_add _ rfl rfl rfl (w64 (by omega) (by omega))) rfl rfl rfl ?_
                    refine SeqK.q (q_asC rfl rfl) rfl rfl rfl ?_
                    refine SeqK.nil ?_
                    exact ⟨i + 1, _, Wk.keep 75 [(0, .c (iC n)), (1, .c (bdL z l)), (2, .c (.a (.t (.sl z2 1 (xs.map i64T))))), (7, iX .i64 (((i + 1) : Nat) : Int))] [] (H) rfl ⟨rfl, rfl, rfl, rfl, trivial⟩ trivial (fun _ _ h => h) rfl, by omega, by omega, rfl⟩
        ·
          have hJ : l[i].j = n := by omega
          have hx2 : x l[i].j - x n = 0 := by rw [hJ]; omega
          refine AW.skip ?_
          refine AW.seq ?_
          refine AW.reg ?_
          refine SeqK.q (q_mvC rfl rfl) rfl rfl rfl ?_
          refine SeqK.q (q_lss rfl rfl rfl) rfl rfl rfl ?_
          refine SeqK.qD (q_mvC rfl rfl) rfl rfl rfl (fun g52 => ?_) (fun g52 => ?_)
          ·
            exfalso; omega
          ·
            refine SeqK.on (q_mvC rfl rfl) rfl rfl rfl rfl rfl ?_
            refine SeqK.on (q_gtr rfl rfl rfl) rfl rfl rfl rfl rfl ?_
            refine SeqK.q (q_pkF rfl rfl rfl) rfl rfl rfl ?_
            refine SeqK.qD (q_mvC rfl rfl) rfl rfl rfl (fun g56 => ?_) (fun g56 => ?_)
            ·
              exfalso; omega
            ·
              refine SeqK.on (q_mvC rfl rfl) rfl rfl rfl rfl rfl ?_
              refine SeqK.on (q_lss rfl rfl rfl) rfl rfl rfl rfl rfl ?_
              refine SeqK.q (q_pkF rfl rfl rfl) rfl rfl rfl ?_
              refine SeqK.qD (q_mvC rfl rfl) rfl rfl rfl (fun g60 => ?_) (fun g60 => ?_)
              ·
                exfalso; omega
              ·
                refine SeqK.on (q_mvC rfl rfl) rfl rfl rfl rfl rfl ?_
                refine SeqK.on (q_gtr rfl rfl rfl) rfl rfl rfl rfl rfl ?_
                refine SeqK.q (q_pkF rfl rfl rfl) rfl rfl rfl ?_
                refine SeqK.qD (q_mvC rfl rfl) rfl rfl rfl (fun g64 => ?_) (fun g64 => ?_)
                ·
                  exfalso; omega
                ·
                  refine SeqK.on (q_mvC rfl rfl) rfl rfl rfl rfl rfl ?_
                  refine SeqK.on (q_mvC rfl rfl) rfl rfl rfl rfl rfl ?_
                  refine SeqK.on (q_sub _ rfl rfl rfl (w64 (by omega) (by omega))) rfl rfl rfl rfl rfl ?_
                  refine SeqK.on (q_mvC rfl rfl) rfl rfl rfl rfl rfl ?_
                  refine SeqK.on (q_mvC rfl rfl) rfl rfl rfl rfl rfl ?_
                  refine SeqK.on (q_index _ rfl Fx.sl22 rfl rfl (by omega) (idx_bd hka)) rfl rfl rfl rfl rfl ?_
                  refine SeqK.on (q_fieldP _ rfl Fx.fl41_2 rfl rfl) rfl rfl rfl rfl rfl ?_
                  refine SeqK.on (q_load (.a _) rfl Fx.ty2 rfl rfl rfl) rfl rfl rfl rfl rfl ?_
                  refine SeqK.on (q_gtr rfl rfl rfl) rfl rfl rfl rfl rfl ?_
                  refine SeqK.q (q_pkF rfl rfl rfl) rfl rfl rfl ?_
                  refine SeqK.nil ?_
                  refine AW.condD rfl (fun h74 => ?_) (fun h74 => ?_)
                  ·
                    exfalso; omega
                  ·
                    refine AW.skip ?_
                    refine AW.reg ?_
                    refine SeqK.q (q_mvC rfl rfl) rfl rfl rfl ?_
                    refine SeqK.q (q_add _ rfl rfl rfl (w64 (by omega) (by omega))) rfl rfl rfl ?_
                    refine SeqK.q (q_asC rfl rfl) rfl rfl rfl ?_
                    refine SeqK.nil ?_
                    exact ⟨i + 1, _, Wk.keep 75 [(0, .c (iC n)), (1, .c (bdL z l)), (2, .c (.a (.t (.sl z2 1 (xs.map i64T))))), (7, iX .i64 (((i + 1) : Nat) : Int))] [] (H) rfl ⟨rfl, rfl, rfl, rfl, trivial⟩ trivial (fun _ _ h => h) rfl, by omega, by omega, rfl⟩
    ·
      refine AW.exit ?_
      refine eth_e ?_
      refine eth_e ?_
      refine exit_here ?_
      refine AW.seq ?_
      refine AW.reg ?_
      refine SeqK.q (q_asC rfl rfl) rfl rfl rfl ?_
      refine SeqK.nil ?_
      refine AW.ret ?_
      exact fin_x (x := .c _) H (.tmp rfl .nil) rfl (fun _ _ h => h) ⟨rfl, rfl⟩

set_option maxRecDepth 20000 in
theorem negative_any (n : Nat) (z z2 : Nz) (l : List Bd) (cs : List Nat) (hN : NegCyc l cs) (hl : l.length ≤ 1000) (hok : ∀ b ∈ l, OkB n b) : Pure Try.prog 21 [bdL z l, inZ z2 cs] (bX true) := by
  have hlt := hN.lt
  have hpos : 0 < cs.length := by have := hN.ne; cases cs with | nil => exact absurd rfl this | cons => simp
  have hnd : cs.Nodup := (List.pairwise_map.1 hN.nodup).imp fun hne e => hne (by rw [e])
  have hcl : cs.length ≤ 1000 := by
    have := len_sub cs (List.range l.length) hnd fun k hk => List.mem_range.2 (hlt k hk)
    simp at this; omega
  intro H
  refine Spec.enter Try.func21 rfl ?_
  refine AW.wk (Wk.keep 85 [(0, .c (bdL z l)), (1, .c (inZ z2 cs))] [] (H) rfl ⟨rfl, rfl, trivial⟩ trivial (fun _ _ h => h) rfl) ?_
  refine AW.seq ?_
  refine AW.reg ?_
  refine SeqK.q (q_asC rfl rfl) rfl rfl rfl ?_
  refine SeqK.nil ?_
  refine AW.seq ?_
  refine AW.seq ?_
  refine AW.reg ?_
  refine SeqK.q (q_mvC rfl rfl) rfl rfl rfl ?_
  refine SeqK.q (q_len rfl Fx.un36 rfl) rfl rfl rfl ?_
  refine SeqK.q (q_eql rfl rfl rfl) rfl rfl rfl ?_
  refine SeqK.nil ?_
  refine AW.condD rfl (fun h13 => ?_) (fun h13 => ?_)
  ·
    exfalso; simp at h13; exact hN.ne h13
  ·
    refine AW.skip ?_
    refine AW.seq ?_
    refine AW.reg ?_
    refine SeqK.q (q_asC rfl rfl) rfl rfl rfl ?_
    refine SeqK.nil ?_
    refine AW.seq ?_
    refine AW.seq ?_
    refine AW.reg ?_
    refine SeqK.q (q_asC rfl rfl) rfl rfl rfl ?_
    refine SeqK.nil ?_
    refine AW.block ?_
    refine AW.loop (fun (i : Nat) s => (i ≤ cs.length) ∧ s = ⟨85, sp [(0, .c (bdL z l)), (1, .c (inZ z2 cs)), (5, iX .i64 0), (6, iX .i64 ((i : Nat) : Int))], lv [], H⟩) (fun i => cs.length - i) 0 ⟨_, Wk.keep 85 [(0, .c (bdL z l)), (1, .c (inZ z2 cs)), (5, iX .i64 0), (6, iX .i64 ((((0 : Nat)) : Nat) : Int))] [] (H) rfl ⟨rfl, rfl, rfl, rfl, trivial⟩ trivial (fun _ _ h => h) rfl, Nat.zero_le _, rfl⟩ (fun i s hs => ?_)
    obtain ⟨hi, rfl⟩ := hs
    refine AW.seq ?_
    refine AW.seq ?_
    refine AW.reg ?_
    refine SeqK.q (q_mvC rfl rfl) rfl rfl rfl ?_
    refine SeqK.q (q_mvC rfl rfl) rfl rfl rfl ?_
    refine SeqK.q (q_len rfl Fx.un36 rfl) rfl rfl rfl ?_
    refine SeqK.q (q_lss rfl rfl rfl) rfl rfl rfl ?_
    refine SeqK.nil ?_
    refine AW.condD rfl (fun h17 => ?_) (fun h17 => ?_)
    ·
      have hka : i < cs.length := by simp at h17; omega
      have hci : cs[i] < l.length := hlt _ (List.getElem_mem hka)
      refine AW.skip ?_
      refine AW.seq ?_
      refine AW.block ?_
      refine AW.seq ?_
      refine AW.reg ?_
      refine SeqK.q (q_mvC rfl rfl) rfl rfl rfl ?_
      refine SeqK.q (q_mvC rfl rfl) rfl rfl rfl ?_
      refine SeqK.q (q_index _ rfl Fx.sl36 rfl rfl (by omega) (idx_map hka)) rfl rfl rfl ?_
      refine SeqK.q (q_load (.a _) rfl Fx.ty3 rfl rfl rfl) rfl rfl rfl ?_
      refine SeqK.q (q_lss rfl rfl rfl) rfl rfl rfl ?_
      refine SeqK.qD (q_mvC rfl rfl) rfl rfl rfl (fun g25 => ?_) (fun g25 => ?_)
      ·
        exfalso; omega
      ·
        refine SeqK.on (q_mvC rfl rfl) rfl rfl rfl rfl rfl ?_
        refine SeqK.on (q_mvC rfl rfl) rfl rfl rfl rfl rfl ?_
        refine SeqK.on (q_index _ rfl Fx.sl36 rfl rfl (by omega) (idx_map hka)) rfl rfl rfl rfl rfl ?_
        refine SeqK.on (q_load (.a _) rfl Fx.ty3 rfl rfl rfl) rfl rfl rfl rfl rfl ?_
        refine SeqK.on (q_mvC rfl rfl) rfl rfl rfl rfl rfl ?_
        refine SeqK.on (q_len rfl Fx.un22 rfl) rfl rfl rfl rfl rfl ?_
        refine SeqK.on (q_geq rfl rfl rfl) rfl rfl rfl rfl rfl ?_
        refine SeqK.q (q_pkF rfl rfl rfl) rfl rfl rfl ?_
        refine SeqK.nil ?_
        refine AW.condD rfl (fun h33 => ?_) (fun h33 => ?_)
        ·
          exfalso; simp at h33; omega
        ·
          refine AW.skip ?_
          refine AW.reg ?_
          refine SeqK.q (q_mvC rfl rfl) rfl rfl rfl ?_
          refine SeqK.q (q_add _ rfl rfl rfl (w64 (by omega) (by omega))) rfl rfl rfl ?_
          refine SeqK.q (q_asC rfl rfl) rfl rfl rfl ?_
          refine SeqK.nil ?_
          exact ⟨i + 1, _, Wk.keep 85 [(0, .c (bdL z l)), (1, .c (inZ z2 cs)), (5, iX .i64 0), (6, iX .i64 (((i + 1) : Nat) : Int))] [] (H) rfl ⟨rfl, rfl, rfl, rfl, trivial⟩ trivial (fun _ _ h => h) rfl, by omega, by omega, rfl⟩
    ·
      refine AW.exit ?_
      refine eth_e ?_
      refine eth_e ?_
      refine exit_here ?_
      refine AW.seq ?_
      refine AW.seq ?_
      refine AW.reg ?_
      refine SeqK.q (q_asC rfl rfl) rfl rfl rfl ?_
      refine SeqK.nil ?_
      refine AW.block ?_
      refine AW.loop (fun (i : Nat) s => ∃ (sum : Int), (i ≤ cs.length ∧ sum = ((cs.take i).map fun k => (l.getD k ⟨0, 0, 0⟩).c).sum ∧ -(1125899906842624 * (i : Int)) ≤ sum ∧ sum ≤ 1125899906842624 * (i : Int)) ∧ s = ⟨85, sp [(0, .c (bdL z l)), (1, .c (inZ z2 cs)), (5, iX .i64 sum), (7, iX .i64 ((i : Nat) : Int))], lv [], H⟩) (fun i => cs.length - i) 0 ⟨_, Wk.keep 85 [(0, .c (bdL z l)), (1, .c (inZ z2 cs)), (5, iX .i64 (0)), (7, iX .i64 ((((0 : Nat)) : Nat) : Int))] [] (H) rfl ⟨rfl, rfl, rfl, rfl, trivial⟩ trivial (fun _ _ h => h) rfl, 0, ⟨Nat.zero_le _, rfl, by omega, by omega⟩, rfl⟩ (fun i s hs => ?_)
      obtain ⟨sum, ⟨hi, hsum, hs1, hs2⟩, rfl⟩ := hs
      refine AW.seq ?_
      refine AW.seq ?_
      refine AW.reg ?_
      refine SeqK.q (q_mvC rfl rfl) rfl rfl rfl ?_
      refine SeqK.q (q_mvC rfl rfl) rfl rfl rfl ?_
      refine SeqK.q (q_len rfl Fx.un36 rfl) rfl rfl rfl ?_
      refine SeqK.q (q_lss rfl rfl rfl) rfl rfl rfl ?_
      refine SeqK.nil ?_
      refine AW.condD rfl (fun h37 => ?_) (fun h37 => ?_)
      ·
        have hka : i < cs.length := by simp at h37; omega
        have hci : cs[i] < l.length := hlt _ (List.getElem_mem hka)
        have hkm : (i + 1) % cs.length < cs.length := Nat.mod_lt _ hpos
        have hcm : cs[(i + 1) % cs.length] < l.length := hlt _ (List.getElem_mem hkm)
        have hnx := hN.next i hka
        rw [getD_get hci, getD_get hcm] at hnx
        obtain ⟨ho1, ho2, ho3, ho4, ho5, ho6⟩ := hok _ (List.getElem_mem hci)
        refine AW.skip ?_
        refine AW.seq ?_
        refine AW.block ?_
        refine AW.seq ?_
        refine AW.reg ?_
        refine SeqK.q (q_mvC rfl rfl) rfl rfl rfl ?_
        refine SeqK.q (q_mvC rfl rfl) rfl rfl rfl ?_
        refine SeqK.q (q_mvC rfl rfl) rfl rfl rfl ?_
        refine SeqK.q (q_index _ rfl Fx.sl36 rfl rfl (by omega) (idx_map hka)) rfl rfl rfl ?_
        refine SeqK.q (q_load (.a _) rfl Fx.ty3 rfl rfl rfl) rfl rfl rfl ?_
        refine SeqK.q (q_index _ rfl Fx.sl22 rfl rfl (by omega) (idx_bd hci)) rfl rfl rfl ?_
        refine SeqK.q (q_load (.g [_, _, _]) rfl Fx.ty41 rfl rfl rfl) rfl rfl rfl ?_
        refine SeqK.r (b_alloc (r := [_, _, _]) rfl rfl Fx.ze41 rfl rfl rfl rfl) rfl ?_
        refine SeqK.r (b_store (r := [_, _, _]) rfl rfl Fx.ty41 rfl rfl rfl rfl rfl rfl) rfl ?_
        refine SeqK.nil ?_
        refine AW.seq ?_
        refine AW.reg ?_
        refine SeqK.q (q_mvC rfl rfl) rfl rfl rfl ?_
        refine SeqK.q (q_mvC rfl rfl) rfl rfl rfl ?_
        refine SeqK.q (q_mvC rfl rfl) rfl rfl rfl ?_
        refine SeqK.q (q_add _ rfl rfl rfl (w64 (by omega) (by omega))) rfl rfl rfl ?_
        refine SeqK.q (q_mvC rfl rfl) rfl rfl rfl ?_
        refine SeqK.q (q_len rfl Fx.un36 rfl) rfl rfl rfl ?_
        refine SeqK.q (q_remC (c := (((i + 1) % cs.length : Nat) : Int)) rfl rfl rfl (by rw [List.length_map]; omega) (by rw [List.length_map]; exact (Int.ofNat_tmod (i + 1) cs.length).symm)) rfl rfl rfl ?_
        refine SeqK.q (q_index _ rfl Fx.sl36 rfl rfl (by omega) (idx_map hkm)) rfl rfl rfl ?_
        refine SeqK.q (q_load (.a _) rfl Fx.ty3 rfl rfl rfl) rfl rfl rfl ?_
        refine SeqK.q (q_index _ rfl Fx.sl22 rfl rfl (by omega) (idx_bd hcm)) rfl rfl rfl ?_
        refine SeqK.q (q_load (.g [_, _, _]) rfl Fx.ty41 rfl rfl rfl) rfl rfl rfl ?_
        refine SeqK.r (b_alloc (r := [_, _, _]) rfl rfl Fx.ze41 rfl rfl rfl rfl) rfl ?_
        refine SeqK.r (b_store (r := [_, _, _]) rfl rfl Fx.ty41 rfl rfl rfl rfl rfl rfl) rfl ?_
        refine SeqK.nil ?_
        refine AW.seq ?_
        refine AW.seq ?_
        refine AW.reg ?_
        refine SeqK.q (q_fieldL _ rfl Fx.fl41_1 rfl rfl) rfl rfl rfl ?_
        refine SeqK.r (b_load (r := .a _) rfl Fx.ty3 rfl rfl rfl rfl rfl rfl) rfl ?_
        refine SeqK.q (q_fieldL _ rfl Fx.fl41_0 rfl rfl) rfl rfl rfl ?_
        refine SeqK.r (b_load (r := .a _) rfl Fx.ty3 rfl rfl rfl rfl rfl rfl) rfl ?_
        refine SeqK.q (q_neq rfl rfl rfl) rfl rfl rfl ?_
        refine SeqK.nil ?_
        refine AW.condD rfl (fun h62 => ?_) (fun h62 => ?_)
        ·
          exact absurd hnx h62
        ·
          refine AW.skip ?_
          refine AW.seq ?_
          refine AW.seq ?_
          refine AW.reg ?_
          refine SeqK.q (q_asC rfl rfl) rfl rfl rfl ?_
          refine SeqK.nil ?_
          refine AW.block ?_
          refine AW.loop (fun (k : Nat) s => (k ≤ i) ∧ s = ⟨85, sp [(0, .c (bdL z l)), (1, .c (inZ z2 cs)), (5, iX .i64 sum), (7, iX .i64 ((i : Nat) : Int)), (8, .lp 8 0), (10, iX .i64 ((k : Nat) : Int))], lv [(8, .box [.t (.v (.int .i64 l[cs[i]].i)), .t (.v (.int .i64 l[cs[i]].j)), .t (.v (.int .i64 l[cs[i]].c))])], H⟩) (fun k => i - k) 0 ⟨_, Wk.keep 85 [(0, .c (bdL z l)), (1, .c (inZ z2 cs)), (5, iX .i64 sum), (7, iX .i64 ((i : Nat) : Int)), (8, .lp 8 0), (10, iX .i64 ((((0 : Nat)) : Nat) : Int))] [(8, .box [.t (.v (.int .i64 l[cs[i]].i)), .t (.v (.int .i64 l[cs[i]].j)), .t (.v (.int .i64 l[cs[i]].c))])] (H) rfl ⟨rfl, rfl, rfl, rfl, rfl, rfl, trivial⟩ ⟨rfl, trivial⟩ (fun _ _ h => h) rfl, Nat.zero_le _, rfl⟩ (fun k s hs => ?_)
          obtain ⟨hk, rfl⟩ := hs
          refine AW.seq ?_
          refine AW.seq ?_
          refine AW.reg ?_
          refine SeqK.q (q_mvC rfl rfl) rfl rfl rfl ?_
          refine SeqK.q (q_mvC rfl rfl) rfl rfl rfl ?_
          refine SeqK.q (q_lss rfl rfl rfl) rfl rfl rfl ?_
          refine SeqK.nil ?_
          refine AW.condD rfl (fun h65 => ?_) (fun h65 => ?_)
          ·
            have hkk : k < i := by omega
            have hck : cs[k] < l.length := hlt _ (List.getElem_mem (by omega : k < cs.length))
            refine AW.skip ?_
            refine AW.seq ?_
            refine AW.block ?_
            refine AW.seq ?_
            refine AW.draw Fx.mo ?_
            refine LexK.q (q_mvC rfl rfl) rfl rfl rfl ?_
            refine LexK.q (q_mvC rfl rfl) rfl rfl rfl ?_
            refine LexK.q (q_mvC rfl rfl) rfl rfl rfl ?_
            refine LexK.q (q_index _ rfl Fx.sl36 rfl rfl (by omega) (idx_map (by omega))) rfl rfl rfl ?_
            refine LexK.q (q_load (.a _) rfl Fx.ty3 rfl rfl rfl) rfl rfl rfl ?_
            refine LexK.q (q_index _ rfl Fx.sl22 rfl rfl (by omega) (idx_bd hck)) rfl rfl rfl ?_
            refine LexK.q (q_fieldP _ rfl Fx.fl41_0 rfl rfl) rfl rfl rfl ?_
            refine LexK.q (q_load (.a _) rfl Fx.ty3 rfl rfl rfl) rfl rfl rfl ?_
            refine LexK.q (q_fieldL _ rfl Fx.fl41_0 rfl rfl) rfl rfl rfl ?_
            refine LexK.r (b_load (r := .a _) rfl Fx.ty3 rfl rfl rfl rfl rfl rfl) rfl ?_
            refine LexK.q (q_eql rfl rfl rfl) rfl rfl rfl ?_
            refine LexK.nil (by kernel_rfl) ?_
            refine AW.condD rfl (fun h78 => ?_) (fun h78 => ?_)
            ·
              exact absurd h78 (neg_ne hN hka hkk hci hck)
            ·
              refine AW.skip ?_
              refine AW.reg ?_
              refine SeqK.q (q_mvC rfl rfl) rfl rfl rfl ?_
              refine SeqK.q (q_add _ rfl rfl rfl (w64 (by omega) (by omega))) rfl rfl rfl ?_
              refine SeqK.q (q_asC rfl rfl) rfl rfl rfl ?_
              refine SeqK.nil ?_
              exact ⟨k + 1, _, Wk.keep 85 [(0, .c (bdL z l)), (1, .c (inZ z2 cs)), (5, iX .i64 sum), (7, iX .i64 ((i : Nat) : Int)), (8, .lp 8 0), (10, iX .i64 (((k + 1) : Nat) : Int))] [(8, .box [.t (.v (.int .i64 l[cs[i]].i)), .t (.v (.int .i64 l[cs[i]].j)), .t (.v (.int .i64 l[cs[i]].c))])] (H) rfl ⟨rfl, rfl, rfl, rfl, rfl, rfl, trivial⟩ ⟨rfl, trivial⟩ (fun _ _ h => h) rfl, by omega, by omega, rfl⟩
          ·
            refine AW.exit ?_
            refine eth_e ?_
            refine eth_e ?_
            refine exit_here ?_
            refine AW.reg ?_
            refine SeqK.q (q_mvC rfl rfl) rfl rfl rfl ?_
            refine SeqK.q (q_fieldL _ rfl Fx.fl41_2 rfl rfl) rfl rfl rfl ?_
            refine SeqK.r (b_load (r := .a _) rfl Fx.ty2 rfl rfl rfl rfl rfl rfl) rfl ?_
            refine SeqK.q (q_add _ rfl rfl rfl (w64 (by omega) (by omega))) rfl rfl rfl ?_
            refine SeqK.q (q_asC rfl rfl) rfl rfl rfl ?_
            refine SeqK.nil ?_
            refine AW.reg ?_
            refine SeqK.q (q_mvC rfl rfl) rfl rfl rfl ?_
            refine SeqK.q (q_add _ rfl rfl rfl (w64 (by omega) (by omega))) rfl rfl rfl ?_
            refine SeqK.q (q_asC rfl rfl) rfl rfl rfl ?_
            refine SeqK.nil ?_
            exact ⟨i + 1, _, Wk.keep 85 [(0, .c (bdL z l)), (1, .c (inZ z2 cs)), (5, iX .i64 (sum + l[cs[i]].c)), (7, iX .i64 (((i + 1) : Nat) : Int))] [] (H) rfl ⟨rfl, rfl, rfl, rfl, trivial⟩ trivial (fun _ _ h => h) rfl, by omega, sum + l[cs[i]].c, ⟨by omega, by rw [List.take_add_one, List.getElem?_eq_getElem hka, List.map_append, M.sum_append, ← hsum]; simp [hci], by omega, by omega⟩, rfl⟩
      ·
        refine AW.exit ?_
        refine eth_e ?_
        refine eth_e ?_
        refine exit_here ?_
        refine AW.seq ?_
        refine AW.reg ?_
        refine SeqK.q (q_mvC rfl rfl) rfl rfl rfl ?_
        refine SeqK.q (q_lss rfl rfl rfl) rfl rfl rfl ?_
        refine SeqK.q (q_asC rfl rfl) rfl rfl rfl ?_
        refine SeqK.nil ?_
        refine AW.ret ?_
        exact fin_x (x := .c _) H (.tmp rfl .nil) rfl (fun _ _ h => h) ⟨by
          obtain rfl : i = cs.length := by simp at h37; omega
          have := hN.neg
          rw [List.take_length] at hsum
          rw [decide_eq_true (by omega)], rfl⟩

end Go.Proofs.Ytkpacejikoengaa.W
