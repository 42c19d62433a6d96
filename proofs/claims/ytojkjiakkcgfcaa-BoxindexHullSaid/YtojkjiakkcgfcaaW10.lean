import Derived.Test.YtojkjiakkcgfcaaW9
import Derived.Test.YtojkjiakkcgfcaaR1
namespace Go.Proofs.Ytojkjiakkcgfcaa.W
open Go.RowKit E
set_option linter.unusedVariables false
theorem fairB_len {l : List Opn} {m : Int} (h : fairB l m = true) : (l.length : Int) ≤ m := by
  simp [fairB] at h; omega
theorem fairGo_good : ∀ {l : List Opn} {S : List Int}, fairGo S l = true → ∀ o ∈ l, goodB o.b = true
  | [], _, _, o, ho => by simp at ho
  | x :: l, S, h, o, ho => by
    rw [fairGo, Bool.and_eq_true] at h
    obtain ⟨h1, h2⟩ := h
    split at h2
    · cases h2
    · rcases List.mem_cons.1 ho with rfl | ho
      · exact h1
      · exact fairGo_good h2 o ho
theorem fairB_small {l : List Opn} {m : Int} (h : fairB l m = true) : ∀ o ∈ l, o.b.ss.length ≤ 1000000 := fun o ho => by
  have h1 : fairGo [0, 0, 0, 0] l = true := by simp [fairB] at h; exact h.2
  have := (goodB_facts (fairGo_good h1 o ho)).1
  omega
theorem ok_len {l : List Opn} (h : ok22 l) : l.length ≤ 140737488351232 ∧ ∀ o ∈ l, o.b.ss.length ≤ 140737488351232 :=
  ⟨by have := h.1; omega, fun o ho => by have := (h.2.2 o ho).2.2.1.2.1.1; omega⟩

set_option maxRecDepth 20000 in
theorem matches_any (l : List Opn) (hl : l.length ≤ 140737488351232) (hs : ∀ o ∈ l, o.b.ss.length ≤ 140737488351232) (H : Heap) : E.Spec Try.prog 3 [opL l] H fun x _ => x = bX true := by
  refine Spec.enter Try.func3 rfl ?_
  refine AW.wk (Wk.keep 47 [(0, .c (opL l))] [] (H) rfl ⟨rfl, trivial⟩ trivial (fun _ _ h => h) rfl) ?_
  refine AW.seq ?_
  refine AW.reg ?_
  refine SeqK.q (q_asC rfl rfl) rfl rfl rfl ?_
  refine SeqK.nil ?_
  refine AW.seq ?_
  refine AW.seq ?_
  refine AW.reg ?_
  refine SeqK.callE rfl rfl rfl rfl Fx.fn9 rfl (awake_any _) (fun _ _ h => by rw [h]; rfl) (fun x8 H8 q8 => ?_)
  obtain rfl := q8
  refine SeqK.q (q_not rfl rfl) rfl rfl rfl ?_
  refine SeqK.nil ?_
  refine AW.condF rfl ?_
  refine AW.skip ?_
  refine AW.seq ?_
  refine AW.seq ?_
  refine AW.reg ?_
  refine SeqK.q (q_mvC rfl rfl) rfl rfl rfl ?_
  refine SeqK.q (q_call _ rfl Fx.fn10 rfl (fair_any _ l _ (by omega) hs) rfl) rfl rfl rfl ?_
  refine SeqK.q (q_not rfl rfl) rfl rfl rfl ?_
  refine SeqK.nil ?_
  refine AW.cond _ rfl (fun h12 => ?_) (fun h12 => ?_)
  ·
    refine AW.seq ?_
    refine AW.reg ?_
    refine SeqK.q (q_asC rfl rfl) rfl rfl rfl ?_
    refine SeqK.nil ?_
    refine AW.ret ?_
    exact fin_x (x := .c _) (_) (.tmp rfl .nil) rfl (fun _ _ h => h) (rfl)
  ·
    have hfair : fairB l 60 = true := by simpa using h12
    have hl60 := fairB_len hfair
    have hsm := fairB_small hfair
    refine AW.skip ?_
    refine AW.seq ?_
    refine AW.reg ?_
    refine SeqK.q (q_mvC rfl rfl) rfl rfl rfl ?_
    refine SeqK.callE rfl rfl rfl rfl Fx.fn11 rfl (play_any l (by omega) hsm _) (fun _ _ h => by obtain ⟨_, _, _, h, _⟩ := h; rw [h]; rfl) (fun x15 H15 q15 => ?_)
    obtain ⟨c, f, its, rfl, I, R, hit, hil⟩ := q15
    refine SeqK.q (q_mvT rfl rfl) rfl rfl rfl ?_
    refine SeqK.q (q_extract _ rfl rfl rfl) rfl rfl rfl ?_
    refine SeqK.q (q_extract _ rfl rfl rfl) rfl rfl rfl ?_
    refine SeqK.q (q_extract _ rfl rfl rfl) rfl rfl rfl ?_
    refine SeqK.q (q_asC rfl rfl) rfl rfl rfl ?_
    refine SeqK.q (q_asC rfl rfl) rfl rfl rfl ?_
    refine SeqK.q (q_asC rfl rfl) rfl rfl rfl ?_
    refine SeqK.nil ?_
    refine AW.seq ?_
    refine AW.seq ?_
    refine AW.reg ?_
    refine SeqK.q (q_mvC rfl rfl) rfl rfl rfl ?_
    refine SeqK.q (q_not rfl rfl) rfl rfl rfl ?_
    refine SeqK.q (q_mvC rfl rfl) rfl rfl rfl ?_
    refine SeqK.on (q_mvC rfl rfl) rfl rfl rfl rfl rfl ?_
    refine SeqK.rOn (g_call rfl Fx.fn12 rfl (len_any _ _ _ _ I) rfl rfl rfl) rfl rfl rfl ?_
    refine SeqK.on (q_mvC rfl rfl) rfl rfl rfl rfl rfl ?_
    refine SeqK.on (q_len rfl Fx.un26 rfl) rfl rfl rfl rfl rfl ?_
    refine SeqK.on (q_neq rfl rfl rfl) rfl rfl rfl rfl rfl ?_
    refine SeqK.q (q_pkF rfl rfl rfl) rfl rfl rfl ?_
    refine SeqK.nil ?_
    refine AW.condD rfl (fun h27 => ?_) (fun h27 => ?_)
    ·
      exact (h27 (by simp)).elim
    ·
      refine AW.skip ?_
      refine AW.seq ?_
      refine AW.seq ?_
      refine AW.reg ?_
      refine SeqK.q (q_mvC rfl rfl) rfl rfl rfl ?_
      refine SeqK.q (q_len rfl Fx.un22 rfl) rfl rfl rfl ?_
      refine SeqK.q (q_mvC rfl rfl) rfl rfl rfl ?_
      refine SeqK.nil ?_
      refine AW.block ?_
      refine AW.loop (fun (i : Nat) s => (i ≤ l.length) ∧ s = ⟨47, sp [(3, .c (.a (.bp c 0))), (4, .c (itL .ne its)), (28, .c (opL l)), (29, iX .i64 ((l.map opT).length : Nat)), (30, iX .i64 ((i : Nat) : Int))], lv [], H15⟩) (fun i => l.length - i) 0 ⟨_, Wk.keep 47 [(3, .c (.a (.bp c 0))), (4, .c (itL .ne its)), (28, .c (opL l)), (29, iX .i64 ((l.map opT).length : Nat)), (30, iX .i64 ((((0 : Nat)) : Nat) : Int))] [] (H15) rfl ⟨rfl, rfl, rfl, rfl, rfl, trivial⟩ trivial (fun _ _ h => h) rfl, Nat.zero_le _, rfl⟩ (fun i s hs => ?_)
      obtain ⟨hi, rfl⟩ := hs
      refine AW.seq ?_
      refine AW.reg ?_
      refine SeqK.q (q_lss rfl rfl rfl) rfl rfl rfl ?_
      refine SeqK.nil ?_
      refine AW.seq ?_
      refine AW.condD rfl (fun h31 => ?_) (fun h31 => ?_)
      ·
        have hka : i < l.length := by simp at h31; omega
        have hsz := hsm _ (List.getElem_mem hka)
        refine AW.skip ?_
        refine AW.seq ?_
        refine AW.block ?_
        refine AW.seq ?_
        refine AW.reg ?_
        refine SeqK.q (q_index _ rfl Fx.sl22 rfl rfl (by omega) (idx_map hka)) rfl rfl rfl ?_
        refine SeqK.q (q_load (.g [_, _, _, _]) rfl Fx.ty34 rfl rfl rfl) rfl rfl rfl ?_
        refine SeqK.r (b_alloc (r := [_, _, _, _]) rfl rfl Fx.ze34 rfl rfl rfl rfl) rfl ?_
        refine SeqK.r (b_store (r := [_, _, _, _]) rfl rfl Fx.ty34 rfl rfl rfl rfl rfl rfl) rfl ?_
        refine SeqK.nil ?_
        refine AW.seq ?_
        refine AW.draw Fx.mo ?_
        refine LexK.q (q_mvC rfl rfl) rfl rfl rfl ?_
        refine LexK.q (q_fieldL _ rfl Fx.fl34_2 rfl rfl) rfl rfl rfl ?_
        refine LexK.r (b_load (r := .g [_, _]) rfl Fx.ty32 rfl rfl rfl rfl rfl rfl) rfl ?_
        refine LexK.q (q_call _ rfl Fx.fn15 rfl (to_any _ _ hsz) rfl) rfl rfl rfl ?_
        refine LexK.r (g_call rfl Fx.fn14 rfl (cand_pure _ _ _ _ _ _ _ I R (by omega) hsz) rfl rfl rfl) rfl ?_
        refine LexK.q (q_mvC rfl rfl) rfl rfl rfl ?_
        refine LexK.q (q_fieldL _ rfl Fx.fl34_2 rfl rfl) rfl rfl rfl ?_
        refine LexK.r (b_load (r := .g [_, _]) rfl Fx.ty32 rfl rfl rfl rfl rfl rfl) rfl ?_
        refine LexK.q (q_call _ rfl Fx.fn15 rfl (to_any _ _ hsz) rfl) rfl rfl rfl ?_
        refine LexK.q (q_call _ rfl Fx.fn16 rfl (wanted_any its _ .ne .un (by omega) hit hsz) rfl) rfl rfl rfl ?_
        refine LexK.q (q_call _ rfl Fx.fn13 rfl (same_true _ _ _ (Nat.le_trans wantedL_len (by omega))) rfl) rfl rfl rfl ?_
        refine LexK.q (q_not rfl rfl) rfl rfl rfl ?_
        refine LexK.nil (by kernel_rfl) ?_
        refine AW.condF rfl ?_
        refine AW.skip ?_
        refine AW.reg ?_
        refine SeqK.q (q_add _ rfl rfl rfl (w64 (by omega) (by omega))) rfl rfl rfl ?_
        refine SeqK.q (q_mvC rfl rfl) rfl rfl rfl ?_
        refine SeqK.nil ?_
        exact ⟨i + 1, _, Wk.keep 47 [(3, .c (.a (.bp c 0))), (4, .c (itL .ne its)), (28, .c (opL l)), (29, iX .i64 ((l.map opT).length : Nat)), (30, iX .i64 (((i + 1) : Nat) : Int))] [] (H15) rfl ⟨rfl, rfl, rfl, rfl, rfl, trivial⟩ trivial (fun _ _ h => h) rfl, by omega, by omega, rfl⟩
      ·
        refine AW.exit ?_
        refine eth_e ?_
        refine eth_e ?_
        refine exit_here ?_
        refine AW.seq ?_
        refine AW.reg ?_
        refine SeqK.q (q_asC rfl rfl) rfl rfl rfl ?_
        refine SeqK.nil ?_
        refine AW.ret ?_
        exact fin_x (x := .c _) (_) (.tmp rfl .nil) rfl (fun _ _ h => h) (rfl)

end Go.Proofs.Ytojkjiakkcgfcaa.W
