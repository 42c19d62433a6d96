import Derived.Test.YtkpacejikoengaaW7
import Derived.Test.YtkpacejikoengaaP1
namespace Go.Proofs.Ytkpacejikoengaa.W
open Go.RowKit E M
set_option linter.unusedVariables false
set_option linter.unusedSimpArgs false
theorem i64l : ∀ x : Int, (i64T x).length = 1 := fun _ => rfl
theorem rl (l : List Bd) {n r : Nat} (hr : r ≤ n + 1) (hn : n ≤ 10) (hl : l.length ≤ 41) : r * l.length ≤ 451 := Nat.le_trans (Nat.mul_le_mul (show r ≤ 11 by omega) hl) (by decide)

set_option maxRecDepth 20000 in
theorem solution_any (H : Heap) (n : Nat) (z : Nz) (l : List Bd) (hn : n ≤ 10) (hl : l.length ≤ 41) (hok : ∀ b ∈ l, OkB n b) : E.Spec Try.prog 14 [iC n, bdL z l] H fun x H' => (∃ y, x = .tup [y, .a (.t (.v (.bool (satB l))))]) ∧ H' = H := by
  obtain ⟨ls, hL⟩ := lev_ex hok (-1)
  have hL : Levels l n (fun _ => true) ls := hL
  refine Spec.enter Try.func14 rfl ?_
  refine AW.wk (Wk.keep 94 [(0, .c (iC n)), (1, .c (bdL z l))] [] (H) rfl ⟨rfl, rfl, trivial⟩ trivial (fun _ _ h => h) rfl) ?_
  refine AW.seq ?_
  refine AW.reg ?_
  refine SeqK.q (q_asC rfl rfl) rfl rfl rfl ?_
  refine SeqK.q (q_asC rfl rfl) rfl rfl rfl ?_
  refine SeqK.nil ?_
  refine AW.seq ?_
  refine AW.reg ?_
  refine SeqK.q (q_mvC rfl rfl) rfl rfl rfl ?_
  refine SeqK.q (q_add _ rfl rfl rfl ((by rw [w64 (by omega) (by omega)]; omega : IntKind.i64.wrap _ = ((n + 1 : Nat) : Int)))) rfl rfl rfl ?_
  refine SeqK.make (zc := (i64T 0).map .t) (m := n + 1) rfl rfl Fx.el28 Fx.ze2 rfl rfl rfl rfl (by omega) rfl rfl (fun k14 hk14 => ?_)
  rw [rowE_rep]
  refine SeqK.q (q_asC rfl rfl) rfl rfl rfl ?_
  refine SeqK.nil ?_
  refine AW.seq ?_
  refine AW.seq ?_
  refine AW.reg ?_
  refine SeqK.q (q_asC rfl rfl) rfl rfl rfl ?_
  refine SeqK.nil ?_
  refine AW.block ?_
  refine AW.loop (fun (r : Nat) s => ∃ (xs : List Int), (r ≤ n + 2 ∧ xs.length = n + 1 ∧ (r ≤ n + 1 → OR l n (W ls r) xs (r * l.length)) ∧ (r = n + 2 → ¬ Sat l)) ∧ s = ⟨94, sp [(0, .c (iC n)), (1, .c (bdL z l)), (6, .c (.a (.os k14 0 (n + 1) 1))), (7, iX .i64 ((r : Nat) : Int))], lv [], upd H k14 (some (.row 2 1 (rowE i64T xs)))⟩) (fun r => n + 2 - r) 0 ⟨_, Wk.keep 94 [(0, .c (iC n)), (1, .c (bdL z l)), (6, .c (.a (.os k14 0 (n + 1) 1))), (7, iX .i64 ((((0 : Nat)) : Nat) : Int))] [] (upd H k14 (some (.row 2 1 (rowE i64T (List.replicate (n + 1) 0))))) rfl ⟨rfl, rfl, rfl, rfl, trivial⟩ trivial (fun _ _ h => h) rfl, List.replicate (n + 1) 0, ⟨by omega, by simp, fun _ => by rw [Nat.zero_mul]; exact OR.start hL, fun h => by omega⟩, rfl⟩ (fun r s hs => ?_)
  obtain ⟨xs, ⟨hr, hxl, hor, hno⟩, rfl⟩ := hs
  refine AW.seq ?_
  refine AW.seq ?_
  refine AW.reg ?_
  refine SeqK.q (q_mvC rfl rfl) rfl rfl rfl ?_
  refine SeqK.q (q_mvC rfl rfl) rfl rfl rfl ?_
  refine SeqK.q (q_add _ rfl rfl rfl (w64 (by omega) (by omega))) rfl rfl rfl ?_
  refine SeqK.q (q_leq rfl rfl rfl) rfl rfl rfl ?_
  refine SeqK.nil ?_
  refine AW.condD rfl (fun h18 => ?_) (fun h18 => ?_)
  ·
    replace hor := hor (by omega)
    have hrl := rl l (r := r) (n := n) (by omega) hn hl
    refine AW.skip ?_
    refine AW.seq ?_
    refine AW.block ?_
    refine AW.seq ?_
    refine AW.reg ?_
    refine SeqK.q (q_asC rfl rfl) rfl rfl rfl ?_
    refine SeqK.nil ?_
    refine AW.seq ?_
    refine AW.seq ?_
    refine AW.reg ?_
    refine SeqK.q (q_asC rfl rfl) rfl rfl rfl ?_
    refine SeqK.nil ?_
    refine AW.block ?_
    refine AW.loop (fun (p : Nat) s => ∃ (xs2 : List Int) (ch : Bool), (p ≤ l.length ∧ SR l n (W ls r) xs xs2 ch p (r * l.length + p)) ∧ s = ⟨94, sp [(0, .c (iC n)), (1, .c (bdL z l)), (6, .c (.a (.os k14 0 (n + 1) 1))), (7, iX .i64 ((r : Nat) : Int)), (8, bX ch), (9, iX .i64 ((p : Nat) : Int))], lv [], upd H k14 (some (.row 2 1 (rowE i64T xs2)))⟩) (fun p => l.length - p) 0 ⟨_, Wk.keep 94 [(0, .c (iC n)), (1, .c (bdL z l)), (6, .c (.a (.os k14 0 (n + 1) 1))), (7, iX .i64 ((r : Nat) : Int)), (8, bX (false)), (9, iX .i64 ((((0 : Nat)) : Nat) : Int))] [] (upd H k14 (some (.row 2 1 (rowE i64T (xs))))) rfl ⟨rfl, rfl, rfl, rfl, rfl, rfl, trivial⟩ trivial (fun _ _ h => h) rfl, xs, false, ⟨by omega, SR.start hor⟩, rfl⟩ (fun p s hs => ?_)
    obtain ⟨xs2, ch, ⟨hp, hsr⟩, rfl⟩ := hs
    refine AW.seq ?_
    refine AW.seq ?_
    refine AW.reg ?_
    refine SeqK.q (q_mvC rfl rfl) rfl rfl rfl ?_
    refine SeqK.q (q_mvC rfl rfl) rfl rfl rfl ?_
    refine SeqK.q (q_len rfl Fx.un22 rfl) rfl rfl rfl ?_
    refine SeqK.q (q_lss rfl rfl rfl) rfl rfl rfl ?_
    refine SeqK.nil ?_
    refine AW.condD rfl (fun h24 => ?_) (fun h24 => ?_)
    ·
      have hka : p < l.length := by simp at h24; omega
      obtain ⟨ho1, ho2, ho3, ho4, ho5, ho6⟩ := hok _ (List.getElem_mem hka)
      have hlen := hsr.len
      have hi9 : l[p].i.toNat < xs2.length := by omega
      have hj9 : l[p].j.toNat < xs2.length := by omega
      have xi : xf xs2 l[p].i = xs2[l[p].i.toNat] := xf_get hi9
      have xj : xf xs2 l[p].j = xs2[l[p].j.toNat] := xf_get hj9
      have hsm := hsr.sm l[p].j
      rw [xj] at hsm
      refine AW.skip ?_
      refine AW.seq ?_
      refine AW.block ?_
      refine AW.seq ?_
      refine AW.draw Fx.mo ?_
      refine LexK.q (q_mvC rfl rfl) rfl rfl rfl ?_
      refine LexK.q (q_mvC rfl rfl) rfl rfl rfl ?_
      refine LexK.q (q_mvC rfl rfl) rfl rfl rfl ?_
      refine LexK.q (q_index _ rfl Fx.sl22 rfl rfl (by omega) (idx_bd hka)) rfl rfl rfl ?_
      refine LexK.q (q_fieldP _ rfl Fx.fl41_0 rfl rfl) rfl rfl rfl ?_
      refine LexK.q (q_load (.a _) rfl Fx.ty3 rfl rfl rfl) rfl rfl rfl ?_
      refine LexK.q (q_indexOs _ rfl Fx.sl28 rfl rfl (by omega) (by omega) rfl) rfl rfl rfl ?_
      refine LexK.r (g_loadR rfl Fx.ty2 rfl (by (repeat rw [upd_ne _ _ (by first | assumption | exact Ne.symm (by assumption))]); first | assumption | exact upd_same _ _ _) (congrArg (mkC _) (row_load i64l hi9)) (row_in0 i64l hi9) (by decide) rfl rfl) rfl ?_
      refine LexK.q (q_mvC rfl rfl) rfl rfl rfl ?_
      refine LexK.q (q_mvC rfl rfl) rfl rfl rfl ?_
      refine LexK.q (q_mvC rfl rfl) rfl rfl rfl ?_
      refine LexK.q (q_index _ rfl Fx.sl22 rfl rfl (by omega) (idx_bd hka)) rfl rfl rfl ?_
      refine LexK.q (q_fieldP _ rfl Fx.fl41_1 rfl rfl) rfl rfl rfl ?_
      refine LexK.q (q_load (.a _) rfl Fx.ty3 rfl rfl rfl) rfl rfl rfl ?_
      refine LexK.q (q_indexOs _ rfl Fx.sl28 rfl rfl (by omega) (by omega) rfl) rfl rfl rfl ?_
      refine LexK.r (g_loadR rfl Fx.ty2 rfl (by (repeat rw [upd_ne _ _ (by first | assumption | exact Ne.symm (by assumption))]); first | assumption | exact upd_same _ _ _) (congrArg (mkC _) (row_load i64l hj9)) (row_in0 i64l hj9) (by decide) rfl rfl) rfl ?_
      refine LexK.q (q_mvC rfl rfl) rfl rfl rfl ?_
      refine LexK.q (q_mvC rfl rfl) rfl rfl rfl ?_
      refine LexK.q (q_index _ rfl Fx.sl22 rfl rfl (by omega) (idx_bd hka)) rfl rfl rfl ?_
      refine LexK.q (q_fieldP _ rfl Fx.fl41_2 rfl rfl) rfl rfl rfl ?_
      refine LexK.q (q_load (.a _) rfl Fx.ty2 rfl rfl rfl) rfl rfl rfl ?_
      refine LexK.q (q_add _ rfl rfl rfl (w64 (by omega) (by omega))) rfl rfl rfl ?_
      refine LexK.q (q_gtr rfl rfl rfl) rfl rfl rfl ?_
      refine LexK.nil (by kernel_rfl) ?_
      refine AW.condD rfl (fun h49 => ?_) (fun h49 => ?_)
      ·
        refine AW.seq ?_
        refine AW.draw Fx.mo ?_
        refine LexK.q (q_mvC rfl rfl) rfl rfl rfl ?_
        refine LexK.q (q_mvC rfl rfl) rfl rfl rfl ?_
        refine LexK.q (q_mvC rfl rfl) rfl rfl rfl ?_
        refine LexK.q (q_index _ rfl Fx.sl22 rfl rfl (by omega) (idx_bd hka)) rfl rfl rfl ?_
        refine LexK.q (q_fieldP _ rfl Fx.fl41_0 rfl rfl) rfl rfl rfl ?_
        refine LexK.q (q_load (.a _) rfl Fx.ty3 rfl rfl rfl) rfl rfl rfl ?_
        refine LexK.q (q_mvC rfl rfl) rfl rfl rfl ?_
        refine LexK.q (q_mvC rfl rfl) rfl rfl rfl ?_
        refine LexK.q (q_mvC rfl rfl) rfl rfl rfl ?_
        refine LexK.q (q_index _ rfl Fx.sl22 rfl rfl (by omega) (idx_bd hka)) rfl rfl rfl ?_
        refine LexK.q (q_fieldP _ rfl Fx.fl41_1 rfl rfl) rfl rfl rfl ?_
        refine LexK.q (q_load (.a _) rfl Fx.ty3 rfl rfl rfl) rfl rfl rfl ?_
        refine LexK.q (q_indexOs _ rfl Fx.sl28 rfl rfl (by omega) (by omega) rfl) rfl rfl rfl ?_
        refine LexK.r (g_loadR rfl Fx.ty2 rfl (by (repeat rw [upd_ne _ _ (by first | assumption | exact Ne.symm (by assumption))]); first | assumption | exact upd_same _ _ _) (congrArg (mkC _) (row_load i64l hj9)) (row_in0 i64l hj9) (by decide) rfl rfl) rfl ?_
        refine LexK.q (q_mvC rfl rfl) rfl rfl rfl ?_
        refine LexK.q (q_mvC rfl rfl) rfl rfl rfl ?_
        refine LexK.q (q_index _ rfl Fx.sl22 rfl rfl (by omega) (idx_bd hka)) rfl rfl rfl ?_
        refine LexK.q (q_fieldP _ rfl Fx.fl41_2 rfl rfl) rfl rfl rfl ?_
        refine LexK.q (q_load (.a _) rfl Fx.ty2 rfl rfl rfl) rfl rfl rfl ?_
        refine LexK.q (q_add _ rfl rfl rfl (w64 (by omega) (by omega))) rfl rfl rfl ?_
        refine LexK.q (q_indexOs _ rfl Fx.sl28 rfl rfl (by omega) (by omega) rfl) rfl rfl rfl ?_
        refine LexK.r (g_storeR rfl rfl Fx.ty2 rfl rfl (by (repeat rw [upd_ne _ _ (by first | assumption | exact Ne.symm (by assumption))]); first | assumption | exact upd_same _ _ _) (row_st i64l hi9 _) rfl (row_in0 i64l hi9) (by decide)) rfl ?_
        refine LexK.nil (by kernel_rfl) ?_
        refine AW.reg ?_
        refine SeqK.q (q_asC rfl rfl) rfl rfl rfl ?_
        refine SeqK.nil ?_
        refine AW.reg ?_
        refine SeqK.q (q_mvC rfl rfl) rfl rfl rfl ?_
        refine SeqK.q (q_add _ rfl rfl rfl (w64 (by omega) (by omega))) rfl rfl rfl ?_
        refine SeqK.q (q_asC rfl rfl) rfl rfl rfl ?_
        refine SeqK.nil ?_
        exact ⟨p + 1, _, Wk.keep 94 [(0, .c (iC n)), (1, .c (bdL z l)), (6, .c (.a (.os k14 0 (n + 1) 1))), (7, iX .i64 ((r : Nat) : Int)), (8, bX (true)), (9, iX .i64 (((p + 1) : Nat) : Int))] [] (upd H k14 (some (.row 2 1 (rowE i64T (xs2.set l[p].i.toNat (xs2[l[p].j.toNat] + l[p].c)))))) rfl ⟨rfl, rfl, rfl, rfl, rfl, rfl, trivial⟩ trivial (fun j o h => by show upd (upd _ k14 _) k14 _ j = _; rw [upd_upd]; exact h) rfl, by omega, xs2.set l[p].i.toNat (xs2[l[p].j.toNat] + l[p].c), true, ⟨by omega, by have := hsr.relax hok hka (by rw [xj, xi]; exact h49); rw [xj] at this; exact this⟩, rfl⟩
      ·
        refine AW.skip ?_
        refine AW.reg ?_
        refine SeqK.q (q_mvC rfl rfl) rfl rfl rfl ?_
        refine SeqK.q (q_add _ rfl rfl rfl (w64 (by omega) (by omega))) rfl rfl rfl ?_
        refine SeqK.q (q_asC rfl rfl) rfl rfl rfl ?_
        refine SeqK.nil ?_
        exact ⟨p + 1, _, Wk.keep 94 [(0, .c (iC n)), (1, .c (bdL z l)), (6, .c (.a (.os k14 0 (n + 1) 1))), (7, iX .i64 ((r : Nat) : Int)), (8, bX (ch)), (9, iX .i64 (((p + 1) : Nat) : Int))] [] (upd H k14 (some (.row 2 1 (rowE i64T (xs2))))) rfl ⟨rfl, rfl, rfl, rfl, rfl, rfl, trivial⟩ trivial (fun _ _ h => h) rfl, by omega, xs2, ch, ⟨by omega, hsr.skip hok hka (by rw [xj, xi]; exact h49)⟩, rfl⟩
    ·
      refine AW.exit ?_
      refine eth_e ?_
      refine eth_e ?_
      refine exit_here ?_
      refine AW.seq ?_
      obtain rfl : p = l.length := by simp at h24; omega
      refine AW.reg ?_
      refine SeqK.q (q_mvC rfl rfl) rfl rfl rfl ?_
      refine SeqK.q (q_not rfl rfl) rfl rfl rfl ?_
      refine SeqK.nil ?_
      refine AW.cond _ rfl (fun h72 => ?_) (fun h72 => ?_)
      ·
        obtain rfl : ch = false := by simpa using h72
        have hyes := hsr.yes
        have hlen := hsr.len
        have hnx : n < xs2.length := by omega
        have hx2 : ∀ (v : Nat) (h : v < xs2.length), -576460752303423488 ≤ xs2[v] ∧ xs2[v] ≤ 0 := fun v h => by
          have h1 := hsr.sm (v : Nat)
          rw [xf_get (by simpa using h)] at h1
          simp only [Int.toNat_natCast] at h1
          exact ⟨by have := h1.1; omega, h1.2⟩
        refine AW.seq ?_
        refine AW.reg ?_
        refine SeqK.q (q_mvC rfl rfl) rfl rfl rfl ?_
        refine SeqK.q (q_mvC rfl rfl) rfl rfl rfl ?_
        refine SeqK.q (q_indexOs _ rfl Fx.sl28 rfl rfl (by omega) (by omega) rfl) rfl rfl rfl ?_
        refine SeqK.r (g_loadR rfl Fx.ty2 rfl (by (repeat rw [upd_ne _ _ (by first | assumption | exact Ne.symm (by assumption))]); first | assumption | exact upd_same _ _ _) (congrArg (mkC _) (row_load i64l hnx)) (row_in0 i64l hnx) (by decide) rfl rfl) rfl ?_
        refine SeqK.q (q_asC rfl rfl) rfl rfl rfl ?_
        refine SeqK.nil ?_
        refine AW.seq ?_
        refine AW.seq ?_
        refine AW.reg ?_
        refine SeqK.q (q_asC rfl rfl) rfl rfl rfl ?_
        refine SeqK.nil ?_
        refine AW.block ?_
        refine AW.loop (fun (i : Nat) s => ∃ (xs3 : List Int), (i ≤ n + 1 ∧ xs3.length = n + 1 ∧ ∀ (v : Nat) (h : v < xs3.length), i ≤ v → -576460752303423488 ≤ xs3[v] ∧ xs3[v] ≤ 0) ∧ s = ⟨94, sp [(0, .c (iC n)), (1, .c (bdL z l)), (6, .c (.a (.os k14 0 (n + 1) 1))), (10, iX .i64 (xs2[n]'(by have := hsr.len; omega))), (11, iX .i64 ((i : Nat) : Int))], lv [], upd H k14 (some (.row 2 1 (rowE i64T xs3)))⟩) (fun i => n + 1 - i) 0 ⟨_, Wk.keep 94 [(0, .c (iC n)), (1, .c (bdL z l)), (6, .c (.a (.os k14 0 (n + 1) 1))), (10, iX .i64 (xs2[n]'(by have := hsr.len; omega))), (11, iX .i64 ((((0 : Nat)) : Nat) : Int))] [] (upd H k14 (some (.row 2 1 (rowE i64T (xs2))))) rfl ⟨rfl, rfl, rfl, rfl, rfl, trivial⟩ trivial (fun _ _ h => h) rfl, xs2, ⟨by omega, hsr.len, fun v h _ => hx2 v h⟩, rfl⟩ (fun i s hs => ?_)
        obtain ⟨xs3, ⟨hi, hl3, hf⟩, rfl⟩ := hs
        refine AW.seq ?_
        refine AW.seq ?_
        refine AW.reg ?_
        refine SeqK.q (q_mvC rfl rfl) rfl rfl rfl ?_
        refine SeqK.q (q_mvC rfl rfl) rfl rfl rfl ?_
        refine SeqK.q (q_leq rfl rfl rfl) rfl rfl rfl ?_
        refine SeqK.nil ?_
        refine AW.condD rfl (fun h79 => ?_) (fun h79 => ?_)
        ·
          have hka : i < xs3.length := by omega
          have hb1 := hf i hka (Nat.le_refl _)
          have hb2 := hx2 n hnx
          refine AW.skip ?_
          refine AW.seq ?_
          refine AW.block ?_
          refine AW.reg ?_
          refine SeqK.q (q_mvC rfl rfl) rfl rfl rfl ?_
          refine SeqK.q (q_mvC rfl rfl) rfl rfl rfl ?_
          refine SeqK.q (q_mvC rfl rfl) rfl rfl rfl ?_
          refine SeqK.q (q_mvC rfl rfl) rfl rfl rfl ?_
          refine SeqK.q (q_indexOs _ rfl Fx.sl28 rfl rfl (by omega) (by omega) rfl) rfl rfl rfl ?_
          refine SeqK.r (g_loadR rfl Fx.ty2 rfl (by (repeat rw [upd_ne _ _ (by first | assumption | exact Ne.symm (by assumption))]); first | assumption | exact upd_same _ _ _) (congrArg (mkC _) (row_load i64l hka)) (row_in0 i64l hka) (by decide) rfl rfl) rfl ?_
          refine SeqK.q (q_mvC rfl rfl) rfl rfl rfl ?_
          refine SeqK.q (q_sub _ rfl rfl rfl (w64 (by omega) (by omega))) rfl rfl rfl ?_
          refine SeqK.q (q_indexOs _ rfl Fx.sl28 rfl rfl (by omega) (by omega) rfl) rfl rfl rfl ?_
          refine SeqK.r (g_storeR rfl rfl Fx.ty2 rfl rfl (by (repeat rw [upd_ne _ _ (by first | assumption | exact Ne.symm (by assumption))]); first | assumption | exact upd_same _ _ _) (row_st i64l hka _) rfl (row_in0 i64l hka) (by decide)) rfl ?_
          refine SeqK.nil ?_
          refine AW.reg ?_
          refine SeqK.q (q_mvC rfl rfl) rfl rfl rfl ?_
          refine SeqK.q (q_add _ rfl rfl rfl (w64 (by omega) (by omega))) rfl rfl rfl ?_
          refine SeqK.q (q_asC rfl rfl) rfl rfl rfl ?_
          refine SeqK.nil ?_
          exact ⟨i + 1, _, Wk.keep 94 [(0, .c (iC n)), (1, .c (bdL z l)), (6, .c (.a (.os k14 0 (n + 1) 1))), (10, iX .i64 (xs2[n]'(by have := hsr.len; omega))), (11, iX .i64 (((i + 1) : Nat) : Int))] [] (upd H k14 (some (.row 2 1 (rowE i64T (xs3.set i (xs3[i] - xs2[n]'(by have := hsr.len; omega))))))) rfl ⟨rfl, rfl, rfl, rfl, rfl, trivial⟩ trivial (fun j o h => by show upd (upd _ k14 _) k14 _ j = _; rw [upd_upd]; exact h) rfl, by omega, xs3.set i (xs3[i] - xs2[n]'(by have := hsr.len; omega)), ⟨by omega, by simpa using hl3, fun v h hv => by rw [List.getElem_set, if_neg (by omega)]; exact hf v (by simpa using h) (by omega)⟩, rfl⟩
        ·
          refine AW.exit ?_
          refine eth_e ?_
          refine eth_e ?_
          refine exit_here ?_
          refine AW.seq ?_
          refine AW.gh (Gh.freeze k14 1 2 (xs3.map i64T) (upd_same _ _ _) (fun e he => by obtain ⟨x, _, rfl⟩ := List.mem_map.1 he; rfl) (by decide)) ?_
          rintro s rfl
          refine AW.wk (Wk.keep 94 [(0, .c (iC n)), (6, .c (.a (.t (.sl .un 1 (xs3.map i64T)))))] [] (H) rfl ⟨rfl, by show fzX _ _ _ (.c (.a (.os _ 0 (n + 1) 1))) = _; rw [show n + 1 = (xs3.map i64T).length by simp [hl3]]; simp [fzX, fzC, fzA], trivial⟩ trivial (fun j o h => by show upd (upd H k14 _) k14 none j = _; rw [upd_back hk14]; exact h) rfl) ?_
          refine AW.reg ?_
          refine SeqK.q (q_mvC rfl rfl) rfl rfl rfl ?_
          refine SeqK.q (q_mvC rfl rfl) rfl rfl rfl ?_
          refine SeqK.q (q_cut _ _ _ rfl Fx.sl28 rfl (by first | rfl | exact ⟨_, rfl⟩) (by first | rfl | exact ⟨_, rfl⟩) (by omega) (by simp; omega) rfl) rfl rfl rfl ?_
          refine SeqK.q (q_asC rfl rfl) rfl rfl rfl ?_
          refine SeqK.q (q_asC rfl rfl) rfl rfl rfl ?_
          refine SeqK.nil ?_
          refine AW.ret ?_
          exact fin_x (x := .tup [_, _]) (H) (.tmp rfl (.tmp rfl .nil)) rfl (fun _ _ h => h) (⟨⟨_, by rw [satB_yes hyes]⟩, rfl⟩)
      ·
        obtain rfl : ch = true := by simpa using h72
        refine AW.skip ?_
        refine AW.reg ?_
        refine SeqK.q (q_mvC rfl rfl) rfl rfl rfl ?_
        refine SeqK.q (q_add _ rfl rfl rfl (w64 (by omega) (by omega))) rfl rfl rfl ?_
        refine SeqK.q (q_asC rfl rfl) rfl rfl rfl ?_
        refine SeqK.nil ?_
        exact ⟨r + 1, _, Wk.keep 94 [(0, .c (iC n)), (1, .c (bdL z l)), (6, .c (.a (.os k14 0 (n + 1) 1))), (7, iX .i64 (((r + 1) : Nat) : Int))] [] (upd H k14 (some (.row 2 1 (rowE i64T (xs2))))) rfl ⟨rfl, rfl, rfl, rfl, trivial⟩ trivial (fun _ _ h => h) rfl, by omega, xs2, ⟨by omega, hsr.len, fun h9 => (hsr.next (hL.step r (by omega))).more (by rw [Nat.succ_mul]; exact Nat.le_refl _), fun h9 => by
          obtain rfl : r = n + 1 := by omega
          exact SR.no hL hok hor hsr⟩, rfl⟩
  ·
    refine AW.exit ?_
    refine eth_e ?_
    refine eth_e ?_
    refine exit_here ?_
    refine AW.seq ?_
    refine AW.reg ?_
    refine SeqK.q (q_asC rfl rfl) rfl rfl rfl ?_
    refine SeqK.q (q_asC rfl rfl) rfl rfl rfl ?_
    refine SeqK.nil ?_
    refine AW.ret ?_
    exact fin_x (x := .tup [_, _]) (H) (.tmp rfl (.tmp rfl .nil)) rfl (upd_sub hk14) (⟨⟨_, by rw [satB_no (hno (by omega))]⟩, rfl⟩)

end Go.Proofs.Ytkpacejikoengaa.W
