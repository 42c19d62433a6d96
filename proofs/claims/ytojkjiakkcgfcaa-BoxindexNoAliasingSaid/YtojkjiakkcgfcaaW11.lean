import Derived.Test.YtojkjiakkcgfcaaW10
namespace Go.Proofs.Ytojkjiakkcgfcaa.W
open Go.RowKit E
set_option linter.unusedVariables false
theorem take_small {l : List Opn} {n : Nat} (h : ∀ o ∈ l, o.b.ss.length ≤ 1000000) : ∀ o ∈ l.take n, o.b.ss.length ≤ 1000000 := fun o ho => h o (List.mem_of_mem_take ho)

theorem len_law (l : List Opn) (hl : l.length ≤ 140737488351232) (hs : ∀ o ∈ l, o.b.ss.length ≤ 140737488351232) (H : Heap) : E.Spec Try.prog 4 [opL l] H fun x _ => x = bX true := by
  refine Spec.enter Try.func4 rfl ?_
  refine AW.wk (Wk.keep 36 [(0, .c (opL l))] [] (H) rfl ⟨rfl, trivial⟩ trivial (fun _ _ h => h) rfl) ?_
  refine AW.seq ?_
  refine AW.reg ?_
  refine SeqK.q (q_asC rfl rfl) rfl rfl rfl ?_
  refine SeqK.nil ?_
  refine AW.seq ?_
  refine AW.seq ?_
  refine AW.reg ?_
  refine SeqK.callE rfl rfl rfl rfl Fx.fn9 rfl (awake_any _) (fun _ _ h => by rw [h]; rfl) (fun x7 H7 q7 => ?_)
  obtain rfl := q7
  refine SeqK.q (q_not rfl rfl) rfl rfl rfl ?_
  refine SeqK.nil ?_
  refine AW.condF rfl ?_
  refine AW.skip ?_
  refine AW.seq ?_
  refine AW.seq ?_
  refine AW.reg ?_
  refine SeqK.q (q_mvC rfl rfl) rfl rfl rfl ?_
  refine SeqK.q (q_call _ rfl Fx.fn10 rfl (fair_any _ l _ (by omega) hs) rfl) rfl rfl rfl ?_
  refine SeqK.q (q_not rfl rfl) rfl rfl rfl ?_
  refine SeqK.nil ?_
  refine AW.cond _ rfl (fun h11 => ?_) (fun h11 => ?_)
  ·
    refine AW.seq ?_
    refine AW.reg ?_
    refine SeqK.q (q_asC rfl rfl) rfl rfl rfl ?_
    refine SeqK.nil ?_
    refine AW.ret ?_
    exact fin_x (x := .c _) (_) (.tmp rfl .nil) rfl (fun _ _ h => h) (rfl)
  ·
    have hfair : fairB l 40 = true := by simpa using h11
    have hl60 := fairB_len hfair
    have hsm := fairB_small hfair
    refine AW.skip ?_
    refine AW.seq ?_
    refine AW.seq ?_
    refine AW.reg ?_
    refine SeqK.q (q_mvC rfl rfl) rfl rfl rfl ?_
    refine SeqK.q (q_len rfl Fx.un22 rfl) rfl rfl rfl ?_
    refine SeqK.q (q_mvC rfl rfl) rfl rfl rfl ?_
    refine SeqK.nil ?_
    refine AW.block ?_
    refine AW.loop (fun (i : Nat) s => ∃ Hx : Heap, (i ≤ l.length) ∧ s = ⟨36, sp [(0, .c (opL l)), (13, iX .i64 ((l.map opT).length : Nat)), (14, iX .i64 ((i : Nat) : Int))], lv [], Hx⟩) (fun i => l.length - i) 0 ⟨_, Wk.keep 36 [(0, .c (opL l)), (13, iX .i64 ((l.map opT).length : Nat)), (14, iX .i64 ((((0 : Nat)) : Nat) : Int))] [] ((H7)) rfl ⟨rfl, rfl, rfl, trivial⟩ trivial (fun _ _ h => h) rfl, H7, Nat.zero_le _, rfl⟩ (fun i s hs => ?_)
    obtain ⟨Hx, hi, rfl⟩ := hs
    refine AW.seq ?_
    refine AW.reg ?_
    refine SeqK.q (q_lss rfl rfl rfl) rfl rfl rfl ?_
    refine SeqK.nil ?_
    refine AW.seq ?_
    refine AW.condD rfl (fun h15 => ?_) (fun h15 => ?_)
    ·
      have hka : i < l.length := by simp at h15; omega
      refine AW.skip ?_
      refine AW.seq ?_
      refine AW.block ?_
      refine AW.seq ?_
      refine AW.reg ?_
      refine SeqK.q (q_mvC rfl rfl) rfl rfl rfl ?_
      refine SeqK.q (q_asC rfl rfl) rfl rfl rfl ?_
      refine SeqK.nil ?_
      refine AW.seq ?_
      refine AW.reg ?_
      refine SeqK.q (q_mvC rfl rfl) rfl rfl rfl ?_
      refine SeqK.q (q_mvC rfl rfl) rfl rfl rfl ?_
      refine SeqK.q (q_add _ rfl rfl rfl (w64 (by omega) (by omega))) rfl rfl rfl ?_
      refine SeqK.q (q_cut 0 (i + 1) ((l.take (i + 1)).map opT) rfl Fx.sl22 rfl rfl ⟨_, rfl⟩ (by omega) (by simp; omega) (by simp [List.map_take])) rfl rfl rfl ?_
      refine SeqK.callE rfl rfl rfl rfl Fx.fn11 rfl (play_any (l.take (i + 1)) (by simp; omega) (take_small hsm) _) (fun _ _ h => by obtain ⟨_, _, _, h, _⟩ := h; rw [h]; rfl) (fun x22 H22 q22 => ?_)
      obtain ⟨c, f, its, rfl, I, R, hit, hil⟩ := q22
      refine SeqK.q (q_mvT rfl rfl) rfl rfl rfl ?_
      refine SeqK.q (q_extract _ rfl rfl rfl) rfl rfl rfl ?_
      refine SeqK.q (q_extract _ rfl rfl rfl) rfl rfl rfl ?_
      refine SeqK.q (q_extract _ rfl rfl rfl) rfl rfl rfl ?_
      refine SeqK.q (q_asC rfl rfl) rfl rfl rfl ?_
      refine SeqK.q (q_asC rfl rfl) rfl rfl rfl ?_
      refine SeqK.q (q_asC rfl rfl) rfl rfl rfl ?_
      refine SeqK.nil ?_
      refine AW.seq ?_
      refine AW.reg ?_
      refine SeqK.q (q_mvC rfl rfl) rfl rfl rfl ?_
      refine SeqK.q (q_not rfl rfl) rfl rfl rfl ?_
      refine SeqK.q (q_mvC rfl rfl) rfl rfl rfl ?_
      refine SeqK.on (q_mvC rfl rfl) rfl rfl rfl rfl rfl ?_
      refine SeqK.rOn (g_call rfl Fx.fn12 rfl (len_any _ _ _ _ I) rfl rfl rfl) rfl rfl rfl ?_
      refine SeqK.on (q_mvC rfl rfl) rfl rfl rfl rfl rfl ?_
      refine SeqK.on (q_len rfl Fx.un26 rfl) rfl rfl rfl rfl rfl ?_
      refine SeqK.on (q_neq rfl rfl rfl) rfl rfl rfl rfl rfl ?_
      refine SeqK.q (q_pkF rfl rfl rfl) rfl rfl rfl ?_
      refine SeqK.nil ?_
      refine AW.condD rfl (fun h34 => ?_) (fun h34 => ?_)
      ·
        exact (h34 (by simp)).elim
      ·
        refine AW.skip ?_
        refine AW.reg ?_
        refine SeqK.q (q_add _ rfl rfl rfl (w64 (by omega) (by omega))) rfl rfl rfl ?_
        refine SeqK.q (q_mvC rfl rfl) rfl rfl rfl ?_
        refine SeqK.nil ?_
        exact ⟨i + 1, _, Wk.keep 36 [(0, .c (opL l)), (13, iX .i64 ((l.map opT).length : Nat)), (14, iX .i64 (((i + 1) : Nat) : Int))] [] ((_)) rfl ⟨rfl, rfl, rfl, trivial⟩ trivial (fun _ _ h => h) rfl, by omega, _, by omega, rfl⟩
    ·
      refine AW.exit ?_
      refine eth_e ?_
      refine eth_e ?_
      refine exit_here ?_
      refine AW.seq ?_
      refine AW.reg ?_
      refine SeqK.q (q_asC rfl rfl) rfl rfl rfl ?_
      refine SeqK.nil ?_
      refine AW.ret ?_
      exact fin_x (x := .c _) (_) (.tmp rfl .nil) rfl (fun _ _ h => h) (rfl)

end Go.Proofs.Ytojkjiakkcgfcaa.W
