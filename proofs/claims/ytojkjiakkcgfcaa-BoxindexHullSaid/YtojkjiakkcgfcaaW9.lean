import Derived.Test.YtojkjiakkcgfcaaW8
namespace Go.Proofs.Ytojkjiakkcgfcaa.W
open Go.RowKit E
set_option linter.unusedVariables false
abbrev sp1 (l h : Int) : Bx := ⟨0, [⟨false, true, l, h, ⟨#[]⟩, ⟨#[]⟩⟩]⟩
theorem cand_eq (H : Heap) (k N : Nat) (f : Int → Option Bx) (l : List (Int × Bx)) (b : Bx) (z : Nz) (cs : List Int) (I : Idx H k f N) (R : Rel f l) (hw : wantedL l b = cs) (hN9 : N ≤ 1000000) (hs : b.ss.length ≤ 1000000) :
    E.Spec Try.prog 14 [.a (.bp k 0), bxC z b] H fun x H' => x = .c (int64Z .un cs) ∧ H' = H := hw ▸ cand_pure H k N f l b z I R hN9 hs

set_option maxRecDepth 20000 in
theorem awake_any (H : Heap) : E.Spec Try.prog 9 [] H fun x H' => x = bX true := by
  refine Spec.enter Try.func9 rfl ?_
  refine AW.wk (Wk.keep 47 [] [] (H) rfl trivial trivial (fun _ _ h => h) rfl) ?_
  refine AW.seq ?_
  refine AW.reg ?_
  refine SeqK.q (q_asC rfl rfl) rfl rfl rfl ?_
  refine SeqK.nil ?_
  refine AW.seq ?_
  refine AW.reg ?_
  refine SeqK.callE rfl rfl rfl rfl Fx.fn17 rfl (new_any H) (fun _ _ h => by obtain ⟨_, h, _⟩ := h; rw [h]; rfl) (fun x2 H2 q2 => ?_)
  obtain ⟨c, rfl, I, hfr⟩ := q2
  refine SeqK.q (q_asC rfl rfl) rfl rfl rfl ?_
  refine SeqK.nil ?_
  refine AW.seq ?_
  refine AW.seq ?_
  refine AW.reg ?_
  refine SeqK.q (q_mvC rfl rfl) rfl rfl rfl ?_
  refine SeqK.q (q_eqlN rfl rfl rfl Fx.nk25) rfl rfl rfl ?_
  refine SeqK.q (q_mvC rfl rfl) rfl rfl rfl ?_
  refine SeqK.on (q_mvC rfl rfl) rfl rfl rfl rfl rfl ?_
  refine SeqK.rOn (g_call rfl Fx.fn12 rfl (len_any _ _ _ _ I) rfl rfl rfl) rfl rfl rfl ?_
  refine SeqK.on (q_neq rfl rfl rfl) rfl rfl rfl rfl rfl ?_
  refine SeqK.q (q_pkF rfl rfl rfl) rfl rfl rfl ?_
  refine SeqK.nil ?_
  refine AW.condF rfl ?_
  refine AW.skip ?_
  refine AW.seq ?_
  refine AW.reg ?_
  refine SeqK.q (q_mvC rfl rfl) rfl rfl rfl ?_
  refine SeqK.q (q_call _ rfl Fx.fn23 rfl (span_any _ _) rfl) rfl rfl rfl ?_
  refine SeqK.callE rfl rfl rfl rfl Fx.fn18 rfl (put_any _ _ _ _ _ _ _ I (by decide)) (fun _ _ h => by rw [h.1]; rfl) (fun x12 H12 q12 => ?_)
  obtain ⟨rfl, I⟩ := q12
  refine SeqK.nil ?_
  refine AW.seq ?_
  refine AW.reg ?_
  refine SeqK.q (q_mvC rfl rfl) rfl rfl rfl ?_
  refine SeqK.q (q_call _ rfl Fx.fn23 rfl (span_any _ _) rfl) rfl rfl rfl ?_
  refine SeqK.callE rfl rfl rfl rfl Fx.fn18 rfl (put_any _ _ _ _ _ _ _ I (by decide)) (fun _ _ h => by rw [h.1]; rfl) (fun x15 H15 q15 => ?_)
  obtain ⟨rfl, I⟩ := q15
  refine SeqK.nil ?_
  refine AW.seq ?_
  refine AW.reg ?_
  refine SeqK.q (q_mvC rfl rfl) rfl rfl rfl ?_
  refine SeqK.r (g_call rfl Fx.fn12 rfl (len_any _ _ _ _ I) rfl rfl rfl) rfl ?_
  refine SeqK.q (q_eql rfl rfl rfl) rfl rfl rfl ?_
  refine SeqK.q (q_mvC rfl rfl) rfl rfl rfl ?_
  refine SeqK.on (q_mvC rfl rfl) rfl rfl rfl rfl rfl ?_
  refine SeqK.on (q_call _ rfl Fx.fn23 rfl (span_any _ _) rfl) rfl rfl rfl rfl rfl ?_
  refine SeqK.rOn (g_call rfl Fx.fn14 rfl (cand_eq _ _ _ _ _ (sp1 4 6) .nn [1, 2] I ((Rel.nil.put 2 (sp1 6 9)).put 1 (sp1 0 5)) (by rfl) (by decide) (by decide)) rfl rfl rfl) rfl rfl rfl ?_
  refine SeqK.on (q_buildSlice _ rfl Fx.el36 rfl (by decide) rfl) rfl rfl rfl rfl rfl ?_
  refine SeqK.on (q_call _ rfl Fx.fn13 rfl (same_true [1, 2] _ _ (by decide)) rfl) rfl rfl rfl rfl rfl ?_
  refine SeqK.q (q_pkT rfl rfl rfl) rfl rfl rfl ?_
  refine SeqK.q (q_mvC rfl rfl) rfl rfl rfl ?_
  refine SeqK.on (q_mvC rfl rfl) rfl rfl rfl rfl rfl ?_
  refine SeqK.on (q_call _ rfl Fx.fn23 rfl (span_any _ _) rfl) rfl rfl rfl rfl rfl ?_
  refine SeqK.rOn (g_call rfl Fx.fn14 rfl (cand_eq _ _ _ _ _ (sp1 7 7) .nn [2] I ((Rel.nil.put 2 (sp1 6 9)).put 1 (sp1 0 5)) (by rfl) (by decide) (by decide)) rfl rfl rfl) rfl rfl rfl ?_
  refine SeqK.on (q_buildSlice _ rfl Fx.el36 rfl (by decide) rfl) rfl rfl rfl rfl rfl ?_
  refine SeqK.on (q_call _ rfl Fx.fn13 rfl (same_true [2] _ _ (by decide)) rfl) rfl rfl rfl rfl rfl ?_
  refine SeqK.q (q_pkT rfl rfl rfl) rfl rfl rfl ?_
  refine SeqK.q (q_mvC rfl rfl) rfl rfl rfl ?_
  refine SeqK.on (q_mvC rfl rfl) rfl rfl rfl rfl rfl ?_
  refine SeqK.callOn rfl rfl rfl rfl rfl rfl Fx.fn20 rfl (del_any _ _ _ _ _ I) (fun _ _ h => by rw [h.1]; rfl) (fun x35 H35 q35 => ?_)
  obtain ⟨rfl, I⟩ := q35
  refine SeqK.q (q_pkT rfl rfl rfl) rfl rfl rfl ?_
  refine SeqK.q (q_mvC rfl rfl) rfl rfl rfl ?_
  refine SeqK.on (q_mvC rfl rfl) rfl rfl rfl rfl rfl ?_
  refine SeqK.callOn rfl rfl rfl rfl rfl rfl Fx.fn20 rfl (del_any _ _ _ _ _ I) (fun _ _ h => by rw [h.1]; rfl) (fun x39 H39 q39 => ?_)
  obtain ⟨rfl, I⟩ := q39
  refine SeqK.on (q_not rfl rfl) rfl rfl rfl rfl rfl ?_
  refine SeqK.q (q_pkT rfl rfl rfl) rfl rfl rfl ?_
  refine SeqK.q (q_mvC rfl rfl) rfl rfl rfl ?_
  refine SeqK.on (q_mvC rfl rfl) rfl rfl rfl rfl rfl ?_
  refine SeqK.rOn (g_call rfl Fx.fn12 rfl (len_any _ _ _ _ I) rfl rfl rfl) rfl rfl rfl ?_
  refine SeqK.on (q_eql rfl rfl rfl) rfl rfl rfl rfl rfl ?_
  refine SeqK.q (q_pkT rfl rfl rfl) rfl rfl rfl ?_
  refine SeqK.q (q_asC rfl rfl) rfl rfl rfl ?_
  refine SeqK.nil ?_
  refine AW.ret ?_
  exact fin_x (x := .c _) (fun _ => none) (.tmp rfl .nil) rfl (fun _ _ h => (by cases h)) (rfl)

end Go.Proofs.Ytojkjiakkcgfcaa.W
