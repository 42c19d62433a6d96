import Derived.Test.YtkpacejikoengaaW7
import Derived.Test.YtkpacejikoengaaW6
import Derived.Test.YtkpacejikoengaaP1
namespace Go.Proofs.Ytkpacejikoengaa.W
open Go.RowKit E M
set_option linter.unusedVariables false
set_option linter.unusedSimpArgs false
theorem add_in (H : Heap) (k n : Nat) (all : List Bd) (b : Bd) (I : Mat H k n all) (hl : all.length ≤ 1000) (hb : OkB n b) : E.Spec Try.prog 22 [.a (.bp k 0), iC b.i, iC b.j, iC b.c] H fun x H' => x = iX .i64 0 ∧ Mat H' k n (all ++ [b]) ∧ Tips H H' :=
  (add_any H k n all b I hl).mono fun x H' ⟨h1, h2, h3⟩ => ⟨by rw [h1, adE_ok hb], by rw [adL, if_pos (adE_ok hb)] at h2; exact h2, h3⟩
theorem ne_loc {x : X} {H H' : Heap} {all : List Bd} (h : ∃ z E, x = .c (.a (.t (.sl z 1 E))) ∧ H' = H ∧ ((z = .ne ∧ E = [] ∧ M.Sat all) ∨ ∃ cs : List Nat, E = cs.map (fun k => i64T (k : Nat)) ∧ NegCyc all cs)) : x.loc = none := by
  obtain ⟨_, _, h, _⟩ := h; rw [h]; rfl
theorem aw_sat : M.Sat (chB 0 [-3, 5]) := ⟨_, chB_sol _⟩
theorem aw_un : ¬ M.Sat (chB 0 [-3, 5] ++ [⟨2, 0, -3⟩]) := chB_unsat [-3, 5]

set_option maxRecDepth 20000 in
theorem awake_any (H : Heap) : E.Spec Try.prog 11 [] H fun x H' => x = bX true := by
  refine Spec.enter Try.func11 rfl ?_
  refine AW.wk (Wk.keep 84 [] [] (H) rfl trivial trivial (fun _ _ h => h) rfl) ?_
  refine AW.seq ?_
  refine AW.reg ?_
  refine SeqK.q (q_asC rfl rfl) rfl rfl rfl ?_
  refine SeqK.nil ?_
  refine AW.seq ?_
  refine AW.reg ?_
  refine SeqK.callE rfl rfl rfl rfl Fx.fn23 rfl (new_ok H 2 (by omega)) (fun _ _ h => by obtain ⟨_, h, _⟩ := h; rw [h]; rfl) (fun x14 H14 q14 => ?_)
  obtain ⟨k, rfl, M, _⟩ := q14
  refine SeqK.q (q_mvT rfl rfl) rfl rfl rfl ?_
  refine SeqK.q (q_extract _ rfl rfl rfl) rfl rfl rfl ?_
  refine SeqK.q (q_extract _ rfl rfl rfl) rfl rfl rfl ?_
  refine SeqK.q (q_asC rfl rfl) rfl rfl rfl ?_
  refine SeqK.q (q_asC rfl rfl) rfl rfl rfl ?_
  refine SeqK.nil ?_
  refine AW.seq ?_
  refine AW.reg ?_
  refine SeqK.callE rfl rfl rfl rfl Fx.fn23 rfl (new_no H14 65 (by omega)) (fun _ _ h => by rw [h.1]; rfl) (fun x18 H18 q18 => ?_)
  obtain ⟨rfl, hH⟩ := q18
  replace hH := hH.symm
  subst hH
  refine SeqK.q (q_mvT rfl rfl) rfl rfl rfl ?_
  refine SeqK.q (q_extract _ rfl rfl rfl) rfl rfl rfl ?_
  refine SeqK.q (q_extract _ rfl rfl rfl) rfl rfl rfl ?_
  refine SeqK.q (q_asC rfl rfl) rfl rfl rfl ?_
  refine SeqK.q (q_asC rfl rfl) rfl rfl rfl ?_
  refine SeqK.nil ?_
  refine AW.seq ?_
  refine AW.seq ?_
  refine AW.reg ?_
  refine SeqK.q (q_mvC rfl rfl) rfl rfl rfl ?_
  refine SeqK.q (q_eqlN rfl rfl rfl Fx.nk25) rfl rfl rfl ?_
  refine SeqK.q (q_mvC rfl rfl) rfl rfl rfl ?_
  refine SeqK.on (q_mvC rfl rfl) rfl rfl rfl rfl rfl ?_
  refine SeqK.on (q_neq rfl rfl rfl) rfl rfl rfl rfl rfl ?_
  refine SeqK.q (q_pkF rfl rfl rfl) rfl rfl rfl ?_
  refine SeqK.q (q_mvC rfl rfl) rfl rfl rfl ?_
  refine SeqK.on (q_mvC rfl rfl) rfl rfl rfl rfl rfl ?_
  refine SeqK.on (q_neq rfl rfl rfl) rfl rfl rfl rfl rfl ?_
  refine SeqK.q (q_pkF rfl rfl rfl) rfl rfl rfl ?_
  refine SeqK.nil ?_
  refine AW.condF rfl ?_
  refine AW.skip ?_
  refine AW.seq ?_
  refine AW.reg ?_
  refine SeqK.q (q_mvC rfl rfl) rfl rfl rfl ?_
  refine SeqK.callE rfl rfl rfl rfl Fx.fn22 rfl (add_in _ k 2 _ ⟨0, 1, -3⟩ M (by simp) (by unfold OkB; decide)) (fun _ _ h => by rw [h.1]; rfl) (fun x32 H32 q32 => ?_)
  obtain ⟨rfl, M, _⟩ := q32
  refine SeqK.q (q_mvC rfl rfl) rfl rfl rfl ?_
  refine SeqK.callE rfl rfl rfl rfl Fx.fn22 rfl (add_in _ k 2 _ ⟨1, 2, 5⟩ M (by simp) (by unfold OkB; decide)) (fun _ _ h => by rw [h.1]; rfl) (fun x34 H34 q34 => ?_)
  obtain ⟨rfl, M, _⟩ := q34
  have M : Mat H34 k 2 (chB 0 [-3, 5]) := M
  refine SeqK.q (q_asC rfl rfl) rfl rfl rfl ?_
  refine SeqK.q (q_asC rfl rfl) rfl rfl rfl ?_
  refine SeqK.nil ?_
  refine AW.seq ?_
  refine AW.reg ?_
  refine SeqK.q (q_mvC rfl rfl) rfl rfl rfl ?_
  refine SeqK.callE rfl rfl rfl rfl Fx.fn16 rfl (bound_any _ k 2 _ 0 2 M.r (by decide)) (fun _ _ h => by obtain ⟨⟨_, _, h, _⟩, _⟩ := h; rw [h]; rfl) (fun x37 H37 q37 => ?_)
  obtain ⟨⟨c, ok, rfl, hb⟩, hH⟩ := q37
  replace hH := hH.symm
  subst hH
  obtain ⟨rfl, rfl⟩ := hb.uniq (c' := 2) (ok' := true) (.inr ⟨by omega, by omega, aw_sat, chB_br [-3, 5]⟩)
  refine SeqK.q (q_mvT rfl rfl) rfl rfl rfl ?_
  refine SeqK.q (q_extract _ rfl rfl rfl) rfl rfl rfl ?_
  refine SeqK.q (q_extract _ rfl rfl rfl) rfl rfl rfl ?_
  refine SeqK.q (q_asC rfl rfl) rfl rfl rfl ?_
  refine SeqK.q (q_asC rfl rfl) rfl rfl rfl ?_
  refine SeqK.nil ?_
  refine AW.seq ?_
  refine AW.reg ?_
  refine SeqK.q (q_mvC rfl rfl) rfl rfl rfl ?_
  refine SeqK.r (g_call rfl Fx.fn15 rfl (sat_pure _ k 2 _ M.r (by decide) (satB_yes aw_sat)) rfl rfl rfl) rfl ?_
  refine SeqK.q (q_asC rfl rfl) rfl rfl rfl ?_
  refine SeqK.nil ?_
  refine AW.seq ?_
  refine AW.reg ?_
  refine SeqK.q (q_mvC rfl rfl) rfl rfl rfl ?_
  refine SeqK.callE rfl rfl rfl rfl Fx.fn22 rfl (add_in _ k 2 _ ⟨2, 0, -3⟩ M (by decide) (by unfold OkB; decide)) (fun _ _ h => by rw [h.1]; rfl) (fun x43 H43 q43 => ?_)
  obtain ⟨rfl, M, _⟩ := q43
  refine SeqK.q (q_asC rfl rfl) rfl rfl rfl ?_
  refine SeqK.nil ?_
  refine AW.seq ?_
  refine AW.reg ?_
  refine SeqK.q (q_mvC rfl rfl) rfl rfl rfl ?_
  refine SeqK.callE rfl rfl rfl rfl Fx.fn18 rfl (model_any _ k 2 _ M.r (by decide)) (fun _ _ h => by rcases h.1 with h | ⟨_, _, _, h⟩ <;> first | (rw [h.2]; rfl) | (rw [h]; rfl)) (fun x46 H46 q46 => ?_)
  obtain ⟨hmod, hH⟩ := q46
  replace hH := hH.symm
  subst hH
  obtain rfl : x46 = .tup [.a (.t (.v (.slice none 0 0))), .a (.t (.v (.bool false)))] := by
    rcases hmod with h | ⟨h, _⟩
    · exact h.2
    · exact absurd h aw_un
  refine SeqK.q (q_mvT rfl rfl) rfl rfl rfl ?_
  refine SeqK.q (q_extract _ rfl rfl rfl) rfl rfl rfl ?_
  refine SeqK.q (q_extract _ rfl rfl rfl) rfl rfl rfl ?_
  refine SeqK.q (q_asC rfl rfl) rfl rfl rfl ?_
  refine SeqK.q (q_asC rfl rfl) rfl rfl rfl ?_
  refine SeqK.nil ?_
  refine AW.seq ?_
  refine AW.reg ?_
  refine SeqK.q (q_mvC rfl rfl) rfl rfl rfl ?_
  refine SeqK.q (q_eql rfl rfl rfl) rfl rfl rfl ?_
  refine SeqK.q (q_mvC rfl rfl) rfl rfl rfl ?_
  refine SeqK.on (q_mvC rfl rfl) rfl rfl rfl rfl rfl ?_
  refine SeqK.on (q_eql rfl rfl rfl) rfl rfl rfl rfl rfl ?_
  refine SeqK.q (q_pkT rfl rfl rfl) rfl rfl rfl ?_
  refine SeqK.q (q_mvC rfl rfl) rfl rfl rfl ?_
  refine SeqK.on (q_mvC rfl rfl) rfl rfl rfl rfl rfl ?_
  refine SeqK.on (q_eql rfl rfl rfl) rfl rfl rfl rfl rfl ?_
  refine SeqK.q (q_pkT rfl rfl rfl) rfl rfl rfl ?_
  refine SeqK.q (q_mvC rfl rfl) rfl rfl rfl ?_
  refine SeqK.on (q_mvC rfl rfl) rfl rfl rfl rfl rfl ?_
  refine SeqK.on (q_eql rfl rfl rfl) rfl rfl rfl rfl rfl ?_
  refine SeqK.q (q_pkT rfl rfl rfl) rfl rfl rfl ?_
  refine SeqK.q (q_mvC rfl rfl) rfl rfl rfl ?_
  refine SeqK.on (q_mvC rfl rfl) rfl rfl rfl rfl rfl ?_
  refine SeqK.q (q_pkT rfl rfl rfl) rfl rfl rfl ?_
  refine SeqK.q (q_mvC rfl rfl) rfl rfl rfl ?_
  refine SeqK.on (q_mvC rfl rfl) rfl rfl rfl rfl rfl ?_
  refine SeqK.q (q_pkT rfl rfl rfl) rfl rfl rfl ?_
  refine SeqK.q (q_mvC rfl rfl) rfl rfl rfl ?_
  refine SeqK.on (q_mvC rfl rfl) rfl rfl rfl rfl rfl ?_
  refine SeqK.rOn (g_call rfl Fx.fn15 rfl (sat_pure _ k 2 _ M.r (by decide) (satB_no aw_un)) rfl rfl rfl) rfl rfl rfl ?_
  refine SeqK.on (q_not rfl rfl) rfl rfl rfl rfl rfl ?_
  refine SeqK.q (q_pkT rfl rfl rfl) rfl rfl rfl ?_
  refine SeqK.q (q_mvC rfl rfl) rfl rfl rfl ?_
  refine SeqK.on (q_mvC rfl rfl) rfl rfl rfl rfl rfl ?_
  refine SeqK.on (q_not rfl rfl) rfl rfl rfl rfl rfl ?_
  refine SeqK.q (q_pkT rfl rfl rfl) rfl rfl rfl ?_
  refine SeqK.q (q_mvC rfl rfl) rfl rfl rfl ?_
  refine SeqK.on (q_mvC rfl rfl) rfl rfl rfl rfl rfl ?_
  refine SeqK.callOn rfl rfl rfl rfl rfl rfl Fx.fn20 rfl (cycle_any _ k 2 _ M.r (by decide)) (fun _ _ h => ne_loc h) (fun x80 H80 q80 => ?_)
  obtain ⟨z, E, rfl, hH, hc⟩ := q80
  replace hH := hH.symm
  subst hH
  have hE3 : E.length = 3 := by
    rcases hc with ⟨_, _, h⟩ | ⟨cs, h1, h2⟩
    · exact absurd h aw_un
    · rw [h1, List.length_map]; exact ring_len (n := 2) rfl (chB_ring [-3, 5] (-3)) h2
  refine SeqK.on (q_len rfl Fx.un36 rfl) rfl rfl rfl rfl rfl ?_
  refine SeqK.on (q_eql rfl rfl rfl) rfl rfl rfl rfl rfl ?_
  refine SeqK.q (q_pkT rfl rfl rfl) rfl rfl rfl ?_
  refine SeqK.q (q_asC rfl rfl) rfl rfl rfl ?_
  refine SeqK.nil ?_
  refine AW.ret ?_
  exact fin_x (x := .c _) (_) (.tmp rfl .nil) rfl (fun _ _ h => h) (by rw [hE3]; rfl)

end Go.Proofs.Ytkpacejikoengaa.W
