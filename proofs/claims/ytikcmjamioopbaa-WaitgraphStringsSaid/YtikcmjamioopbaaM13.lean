/- Parts of the proof, one after the other: W20, W21, W22, W23, W24, W25, W26, W27. No condition. -/
import Derived.Test.YtikcmjamioopbaaM12
namespace Go.Proofs.Ytikcmjamioopbaa.W
open Go.RowKit E M
set_option linter.unusedVariables false
set_option linter.unusedSimpArgs false
set_option linter.unusedSectionVars false
theorem dist_gone' {L : GE} {n : Int} (h : ∀ e ∈ L, e.1 ≠ n) : (dist L n n).isSome = false := by rw [dist_gone h]; rfl
theorem isSome_trans {L : GE} {a b c : Int} (h1 : (dist L a b).isSome = true) (h2 : (dist L b c).isSome = true) : (dist L a c).isSome = true := by
  have := dist_trans (L := L) (a := a) (b := b) (c := c) (fun e => by rw [e] at h1; cases h1) (fun e => by rw [e] at h2; cases h2)
  cases h : dist L a c with
  | none => exact absurd h this
  | some d => rfl
theorem far_ge {L : GE} {a b : Int} : decide (0 ≤ farZ L a b) = (dist L a b).isSome := by
  unfold farZ
  cases dist L a b with
  | none => rfl
  | some d => simp

set_option maxRecDepth 20000 in
theorem reaches_lawB (H : Heap) (ops : List Act') (z : Nz) (a b c9 : Int) (hl : 30 < ops.length) : E.Spec Try.prog 5 [opsC z ops, .g [.t (.v (.int .i8 a)), .t (.v (.int .i8 b)), .t (.v (.int .i8 c9))]] H fun x H' => x = bX true := by
  refine Spec.enter Try.func5 rfl ?_
  refine AW.wk (Wk.keep 60 [(0, .c (opsC z ops)), (1, .c (.g [.t (.v (.int .i8 a)), .t (.v (.int .i8 b)), .t (.v (.int .i8 c9))]))] [] (H) rfl ⟨rfl, rfl, trivial⟩ trivial (fun _ _ h => h) rfl) ?_
  refine AW.seq ?_
  refine AW.reg ?_
  refine SeqK.r (b_box (r := [_, _, _]) rfl rfl rfl rfl rfl rfl) rfl ?_
  refine SeqK.q (q_asC rfl rfl) rfl rfl rfl ?_
  refine SeqK.nil ?_
  refine AW.seq ?_
  refine AW.reg ?_
  refine SeqK.q (q_mvC rfl rfl) rfl rfl rfl ?_
  refine SeqK.callE rfl rfl rfl rfl Fx.fn11 rfl (runB _ ops z hl) (fun _ _ h => by rw [h]; rfl) (fun x13 H13 q13 => ?_)
  have h13 := q13
  subst h13
  refine SeqK.q (q_mvT rfl rfl) rfl rfl rfl ?_
  refine SeqK.q (q_extract _ rfl rfl rfl) rfl rfl rfl ?_
  refine SeqK.q (q_extract _ rfl rfl rfl) rfl rfl rfl ?_
  refine SeqK.q (q_extract _ rfl rfl rfl) rfl rfl rfl ?_
  refine SeqK.r (b_alloc (r := [_]) rfl rfl Fx.ze26 rfl rfl rfl rfl) rfl ?_
  refine SeqK.q (q_asC rfl rfl) rfl rfl rfl ?_
  refine SeqK.r (b_store (r := [_]) rfl rfl Fx.ty26 rfl rfl rfl rfl rfl rfl) rfl ?_
  refine SeqK.q (q_asC rfl rfl) rfl rfl rfl ?_
  refine SeqK.nil ?_
  refine AW.seq ?_
  refine AW.seq ?_
  refine AW.reg ?_
  refine SeqK.callE rfl rfl rfl rfl Fx.fn12 rfl (awakeF _) (fun _ _ h => by rw [h.1]; rfl) (fun x17 H17 q17 => ?_)
  obtain ⟨rfl, hF17⟩ := q17
  refine SeqK.q (q_not rfl rfl) rfl rfl rfl ?_
  refine SeqK.q (q_mvC rfl rfl) rfl rfl rfl ?_
  refine SeqK.on (q_mvC rfl rfl) rfl rfl rfl rfl rfl ?_
  refine SeqK.on (q_eqlN rfl rfl rfl Fx.nk23) rfl rfl rfl rfl rfl ?_
  refine SeqK.q (q_pkF rfl rfl rfl) rfl rfl rfl ?_
  refine SeqK.nil ?_
  refine AW.condT rfl ?_
  refine AW.seq ?_
  refine AW.reg ?_
  refine SeqK.callE rfl rfl rfl rfl Fx.fn12 rfl (awakeF _) (fun _ _ h => by rw [h.1]; rfl) (fun x23 H23 q23 => ?_)
  obtain ⟨rfl, hF23⟩ := q23
  refine SeqK.q (q_asC rfl rfl) rfl rfl rfl ?_
  refine SeqK.nil ?_
  refine AW.ret ?_
  exact fin_x (x := .c _) (_) (.tmp rfl .nil) rfl (fun _ _ h => h) (rfl)
set_option maxRecDepth 20000 in
theorem reaches_lawS (H : Heap) (ops : List Act') (z : Nz) (a b c9 : Int) (hl : ¬ 30 < ops.length) : E.Spec Try.prog 5 [opsC z ops, .g [.t (.v (.int .i8 a)), .t (.v (.int .i8 b)), .t (.v (.int .i8 c9))]] H fun x H' => x = bX true := by
  refine Spec.enter Try.func5 rfl ?_
  refine AW.wk (Wk.keep 60 [(0, .c (opsC z ops)), (1, .c (.g [.t (.v (.int .i8 a)), .t (.v (.int .i8 b)), .t (.v (.int .i8 c9))]))] [] (H) rfl ⟨rfl, rfl, trivial⟩ trivial (fun _ _ h => h) rfl) ?_
  refine AW.seq ?_
  refine AW.reg ?_
  refine SeqK.r (b_box (r := [_, _, _]) rfl rfl rfl rfl rfl rfl) rfl ?_
  refine SeqK.q (q_asC rfl rfl) rfl rfl rfl ?_
  refine SeqK.nil ?_
  refine AW.seq ?_
  refine AW.reg ?_
  refine SeqK.q (q_mvC rfl rfl) rfl rfl rfl ?_
  refine SeqK.callE rfl rfl rfl rfl Fx.fn11 rfl (runS _ ops z hl) (fun _ _ ⟨_, h, _⟩ => by rw [h]; rfl) (fun x13 H13 q13 => ?_)
  obtain ⟨c, rfl, G⟩ := q13
  refine SeqK.q (q_mvT rfl rfl) rfl rfl rfl ?_
  refine SeqK.q (q_extract _ rfl rfl rfl) rfl rfl rfl ?_
  refine SeqK.q (q_extract _ rfl rfl rfl) rfl rfl rfl ?_
  refine SeqK.q (q_extract _ rfl rfl rfl) rfl rfl rfl ?_
  refine SeqK.r (b_alloc (r := [_]) rfl rfl Fx.ze26 rfl rfl rfl rfl) rfl ?_
  refine SeqK.q (q_asC rfl rfl) rfl rfl rfl ?_
  refine SeqK.r (b_store (r := [_]) rfl rfl Fx.ty26 rfl rfl rfl rfl rfl rfl) rfl ?_
  refine SeqK.q (q_asC rfl rfl) rfl rfl rfl ?_
  refine SeqK.nil ?_
  refine AW.seq ?_
  refine AW.seq ?_
  refine AW.reg ?_
  refine SeqK.callE rfl rfl rfl rfl Fx.fn12 rfl (awakeF _) (fun _ _ h => by rw [h.1]; rfl) (fun x17 H17 q17 => ?_)
  obtain ⟨rfl, hF17⟩ := q17
  replace G := G.full hF17
  refine SeqK.q (q_not rfl rfl) rfl rfl rfl ?_
  refine SeqK.q (q_mvC rfl rfl) rfl rfl rfl ?_
  refine SeqK.on (q_mvC rfl rfl) rfl rfl rfl rfl rfl ?_
  refine SeqK.on (q_eqlN rfl rfl rfl Fx.nk23) rfl rfl rfl rfl rfl ?_
  refine SeqK.q (q_pkF rfl rfl rfl) rfl rfl rfl ?_
  refine SeqK.nil ?_
  refine AW.condF rfl ?_
  refine AW.skip ?_
  refine AW.seq ?_
  have hrl := runE_len (ops := ops)
  refine AW.draw Fx.mo ?_
  refine LexK.q (q_indexL _ rfl Fx.ar43 rfl rfl (by omega) (by omega) rfl) rfl rfl rfl ?_
  refine LexK.r (b_load (r := .a _) rfl Fx.ty37 rfl rfl rfl rfl rfl rfl) rfl ?_
  refine LexK.q (q_conv _ rfl Fx.un3 rfl (rfl) ⟨_, Fx.un37⟩) rfl rfl rfl ?_
  refine LexK.q (q_indexL _ rfl Fx.ar43 rfl rfl (by omega) (by omega) rfl) rfl rfl rfl ?_
  refine LexK.r (b_load (r := .a _) rfl Fx.ty37 rfl rfl rfl rfl rfl rfl) rfl ?_
  refine LexK.q (q_conv _ rfl Fx.un3 rfl (rfl) ⟨_, Fx.un37⟩) rfl rfl rfl ?_
  refine LexK.q (q_indexL _ rfl Fx.ar43 rfl rfl (by omega) (by omega) rfl) rfl rfl rfl ?_
  refine LexK.r (b_load (r := .a _) rfl Fx.ty37 rfl rfl rfl rfl rfl rfl) rfl ?_
  refine LexK.q (q_conv _ rfl Fx.un3 rfl (rfl) ⟨_, Fx.un37⟩) rfl rfl rfl ?_
  refine LexK.q (q_asC rfl rfl) rfl rfl rfl ?_
  refine LexK.q (q_asC rfl rfl) rfl rfl rfl ?_
  refine LexK.q (q_asC rfl rfl) rfl rfl rfl ?_
  refine LexK.nil (by kernel_rfl) ?_
  refine AW.seq ?_
  refine AW.seq ?_
  refine AW.reg ?_
  refine SeqK.q (q_mvC rfl rfl) rfl rfl rfl ?_
  refine SeqK.q (q_mvC rfl rfl) rfl rfl rfl ?_
  refine SeqK.q (q_mvC rfl rfl) rfl rfl rfl ?_
  refine SeqK.r (g_call rfl Fx.fn20 rfl (reachesI _ c _ _ _ G (by omega)) rfl rfl rfl) rfl ?_
  refine SeqK.qB (q_mvC rfl rfl) rfl rfl rfl (fun g37 => ?_) (fun g37 => ?_)
  ·
    refine SeqK.on (q_mvC rfl rfl) rfl rfl rfl rfl rfl ?_
    refine SeqK.on (q_mvC rfl rfl) rfl rfl rfl rfl rfl ?_
    refine SeqK.on (q_mvC rfl rfl) rfl rfl rfl rfl rfl ?_
    refine SeqK.rOn (g_call rfl Fx.fn20 rfl (reachesI _ c _ _ _ G (by omega)) rfl rfl rfl) rfl rfl rfl ?_
    refine SeqK.q (q_pkT rfl rfl rfl) rfl rfl rfl ?_
    refine SeqK.qB (q_mvC rfl rfl) rfl rfl rfl (fun g43 => ?_) (fun g43 => ?_)
    ·
      refine SeqK.on (q_mvC rfl rfl) rfl rfl rfl rfl rfl ?_
      refine SeqK.on (q_mvC rfl rfl) rfl rfl rfl rfl rfl ?_
      refine SeqK.on (q_mvC rfl rfl) rfl rfl rfl rfl rfl ?_
      refine SeqK.rOn (g_call rfl Fx.fn20 rfl (reachesI _ c _ _ _ G (by omega)) rfl rfl rfl) rfl rfl rfl ?_
      refine SeqK.on (q_not rfl rfl) rfl rfl rfl rfl rfl ?_
      refine SeqK.q (q_pkT rfl rfl rfl) rfl rfl rfl ?_
      refine SeqK.nil ?_
      refine AW.cond _ rfl (fun h49 => ?_) (fun h49 => ?_)
      ·
        exfalso
        have h8 : (dist (runE ops) (i8 a) (i8 c9)).isSome = false := by simpa using h49
        rw [isSome_trans g37 g43] at h8
        cases h8
      ·
        refine AW.skip ?_
        refine AW.seq ?_
        refine AW.draw Fx.mo ?_
        refine LexK.q (q_mvC rfl rfl) rfl rfl rfl ?_
        refine LexK.q (q_mvC rfl rfl) rfl rfl rfl ?_
        refine LexK.q (q_mvC rfl rfl) rfl rfl rfl ?_
        refine LexK.r (g_call rfl Fx.fn20 rfl (reachesI _ c _ _ _ G (by omega)) rfl rfl rfl) rfl ?_
        refine LexK.r (b_load (r := .g [_]) rfl Fx.ty26 rfl rfl rfl rfl rfl rfl) rfl ?_
        refine LexK.q (q_mvC rfl rfl) rfl rfl rfl ?_
        refine LexK.q (q_mvC rfl rfl) rfl rfl rfl ?_
        refine LexK.q (q_call _ rfl Fx.fn21 rfl (far_any _ _ _ (by omega)) rfl) rfl rfl rfl ?_
        refine LexK.q (q_geq rfl rfl rfl) rfl rfl rfl ?_
        refine LexK.q (q_eqlB rfl Fx.un4 rfl rfl) rfl rfl rfl ?_
        refine LexK.q (q_asC rfl rfl) rfl rfl rfl ?_
        refine LexK.nil (by kernel_rfl) ?_
        refine AW.ret ?_
        exact fin_x (x := .c _) (_) (.tmp rfl .nil) rfl (fun _ _ h => h) (by first | rfl | (congr 5; rw [← far_ge]; simp))
    ·
      refine SeqK.off rfl rfl rfl rfl rfl rfl ?_
      refine SeqK.off rfl rfl rfl rfl rfl rfl ?_
      refine SeqK.off rfl rfl rfl rfl rfl rfl ?_
      refine SeqK.off rfl rfl rfl rfl rfl rfl ?_
      refine SeqK.off rfl rfl rfl rfl rfl rfl ?_
      refine SeqK.q (q_pkF rfl rfl rfl) rfl rfl rfl ?_
      refine SeqK.nil ?_
      refine AW.condF rfl ?_
      refine AW.skip ?_
      refine AW.seq ?_
      refine AW.draw Fx.mo ?_
      refine LexK.q (q_mvC rfl rfl) rfl rfl rfl ?_
      refine LexK.q (q_mvC rfl rfl) rfl rfl rfl ?_
      refine LexK.q (q_mvC rfl rfl) rfl rfl rfl ?_
      refine LexK.r (g_call rfl Fx.fn20 rfl (reachesI _ c _ _ _ G (by omega)) rfl rfl rfl) rfl ?_
      refine LexK.r (b_load (r := .g [_]) rfl Fx.ty26 rfl rfl rfl rfl rfl rfl) rfl ?_
      refine LexK.q (q_mvC rfl rfl) rfl rfl rfl ?_
      refine LexK.q (q_mvC rfl rfl) rfl rfl rfl ?_
      refine LexK.q (q_call _ rfl Fx.fn21 rfl (far_any _ _ _ (by omega)) rfl) rfl rfl rfl ?_
      refine LexK.q (q_geq rfl rfl rfl) rfl rfl rfl ?_
      refine LexK.q (q_eqlB rfl Fx.un4 rfl rfl) rfl rfl rfl ?_
      refine LexK.q (q_asC rfl rfl) rfl rfl rfl ?_
      refine LexK.nil (by kernel_rfl) ?_
      refine AW.ret ?_
      exact fin_x (x := .c _) (_) (.tmp rfl .nil) rfl (fun _ _ h => h) (by first | rfl | (congr 5; rw [← far_ge]; simp))
  ·
    refine SeqK.off rfl rfl rfl rfl rfl rfl ?_
    refine SeqK.off rfl rfl rfl rfl rfl rfl ?_
    refine SeqK.off rfl rfl rfl rfl rfl rfl ?_
    refine SeqK.off rfl rfl rfl rfl rfl rfl ?_
    refine SeqK.q (q_pkF rfl rfl rfl) rfl rfl rfl ?_
    refine SeqK.q (q_mvC rfl rfl) rfl rfl rfl ?_
    refine SeqK.off rfl rfl rfl rfl rfl rfl ?_
    refine SeqK.off rfl rfl rfl rfl rfl rfl ?_
    refine SeqK.off rfl rfl rfl rfl rfl rfl ?_
    refine SeqK.off rfl rfl rfl rfl rfl rfl ?_
    refine SeqK.off rfl rfl rfl rfl rfl rfl ?_
    refine SeqK.q (q_pkF rfl rfl rfl) rfl rfl rfl ?_
    refine SeqK.nil ?_
    refine AW.condF rfl ?_
    refine AW.skip ?_
    refine AW.seq ?_
    refine AW.draw Fx.mo ?_
    refine LexK.q (q_mvC rfl rfl) rfl rfl rfl ?_
    refine LexK.q (q_mvC rfl rfl) rfl rfl rfl ?_
    refine LexK.q (q_mvC rfl rfl) rfl rfl rfl ?_
    refine LexK.r (g_call rfl Fx.fn20 rfl (reachesI _ c _ _ _ G (by omega)) rfl rfl rfl) rfl ?_
    refine LexK.r (b_load (r := .g [_]) rfl Fx.ty26 rfl rfl rfl rfl rfl rfl) rfl ?_
    refine LexK.q (q_mvC rfl rfl) rfl rfl rfl ?_
    refine LexK.q (q_mvC rfl rfl) rfl rfl rfl ?_
    refine LexK.q (q_call _ rfl Fx.fn21 rfl (far_any _ _ _ (by omega)) rfl) rfl rfl rfl ?_
    refine LexK.q (q_geq rfl rfl rfl) rfl rfl rfl ?_
    refine LexK.q (q_eqlB rfl Fx.un4 rfl rfl) rfl rfl rfl ?_
    refine LexK.q (q_asC rfl rfl) rfl rfl rfl ?_
    refine LexK.nil (by kernel_rfl) ?_
    refine AW.ret ?_
    exact fin_x (x := .c _) (_) (.tmp rfl .nil) rfl (fun _ _ h => h) (by first | rfl | (congr 5; rw [← far_ge]; simp))

set_option maxRecDepth 20000 in
theorem cycle_lawB (H : Heap) (ops : List Act') (z : Nz) (n : Int) (hl : 30 < ops.length) : E.Spec Try.prog 6 [opsC z ops, .a (.t (.v (.int .i8 n)))] H fun x H' => x = bX true := by
  refine Spec.enter Try.func6 rfl ?_
  refine AW.wk (Wk.keep 40 [(0, .c (opsC z ops)), (1, .c (.a (.t (.v (.int .i8 n)))))] [] (H) rfl ⟨rfl, rfl, trivial⟩ trivial (fun _ _ h => h) rfl) ?_
  refine AW.seq ?_
  refine AW.reg ?_
  refine SeqK.q (q_asC rfl rfl) rfl rfl rfl ?_
  refine SeqK.nil ?_
  refine AW.seq ?_
  refine AW.reg ?_
  refine SeqK.q (q_mvC rfl rfl) rfl rfl rfl ?_
  refine SeqK.callE rfl rfl rfl rfl Fx.fn11 rfl (runB _ ops z hl) (fun _ _ h => by rw [h]; rfl) (fun x11 H11 q11 => ?_)
  have h11 := q11
  subst h11
  refine SeqK.q (q_mvT rfl rfl) rfl rfl rfl ?_
  refine SeqK.q (q_extract _ rfl rfl rfl) rfl rfl rfl ?_
  refine SeqK.q (q_extract _ rfl rfl rfl) rfl rfl rfl ?_
  refine SeqK.q (q_extract _ rfl rfl rfl) rfl rfl rfl ?_
  refine SeqK.r (b_alloc (r := [_]) rfl rfl Fx.ze26 rfl rfl rfl rfl) rfl ?_
  refine SeqK.q (q_asC rfl rfl) rfl rfl rfl ?_
  refine SeqK.r (b_store (r := [_]) rfl rfl Fx.ty26 rfl rfl rfl rfl rfl rfl) rfl ?_
  refine SeqK.q (q_asC rfl rfl) rfl rfl rfl ?_
  refine SeqK.nil ?_
  refine AW.seq ?_
  refine AW.seq ?_
  refine AW.reg ?_
  refine SeqK.callE rfl rfl rfl rfl Fx.fn12 rfl (awakeF _) (fun _ _ h => by rw [h.1]; rfl) (fun x15 H15 q15 => ?_)
  obtain ⟨rfl, hF15⟩ := q15
  refine SeqK.q (q_not rfl rfl) rfl rfl rfl ?_
  refine SeqK.q (q_mvC rfl rfl) rfl rfl rfl ?_
  refine SeqK.on (q_mvC rfl rfl) rfl rfl rfl rfl rfl ?_
  refine SeqK.on (q_eqlN rfl rfl rfl Fx.nk23) rfl rfl rfl rfl rfl ?_
  refine SeqK.q (q_pkF rfl rfl rfl) rfl rfl rfl ?_
  refine SeqK.nil ?_
  refine AW.condT rfl ?_
  refine AW.seq ?_
  refine AW.reg ?_
  refine SeqK.callE rfl rfl rfl rfl Fx.fn12 rfl (awakeF _) (fun _ _ h => by rw [h.1]; rfl) (fun x21 H21 q21 => ?_)
  obtain ⟨rfl, hF21⟩ := q21
  refine SeqK.q (q_asC rfl rfl) rfl rfl rfl ?_
  refine SeqK.nil ?_
  refine AW.ret ?_
  exact fin_x (x := .c _) (_) (.tmp rfl .nil) rfl (fun _ _ h => h) (rfl)
set_option maxRecDepth 20000 in
theorem cycle_lawS (H : Heap) (ops : List Act') (z : Nz) (n : Int) (hl : ¬ 30 < ops.length) : E.Spec Try.prog 6 [opsC z ops, .a (.t (.v (.int .i8 n)))] H fun x H' => x = bX true := by
  refine Spec.enter Try.func6 rfl ?_
  refine AW.wk (Wk.keep 40 [(0, .c (opsC z ops)), (1, .c (.a (.t (.v (.int .i8 n)))))] [] (H) rfl ⟨rfl, rfl, trivial⟩ trivial (fun _ _ h => h) rfl) ?_
  refine AW.seq ?_
  refine AW.reg ?_
  refine SeqK.q (q_asC rfl rfl) rfl rfl rfl ?_
  refine SeqK.nil ?_
  refine AW.seq ?_
  refine AW.reg ?_
  refine SeqK.q (q_mvC rfl rfl) rfl rfl rfl ?_
  refine SeqK.callE rfl rfl rfl rfl Fx.fn11 rfl (runS _ ops z hl) (fun _ _ ⟨_, h, _⟩ => by rw [h]; rfl) (fun x11 H11 q11 => ?_)
  obtain ⟨c, rfl, G⟩ := q11
  refine SeqK.q (q_mvT rfl rfl) rfl rfl rfl ?_
  refine SeqK.q (q_extract _ rfl rfl rfl) rfl rfl rfl ?_
  refine SeqK.q (q_extract _ rfl rfl rfl) rfl rfl rfl ?_
  refine SeqK.q (q_extract _ rfl rfl rfl) rfl rfl rfl ?_
  refine SeqK.r (b_alloc (r := [_]) rfl rfl Fx.ze26 rfl rfl rfl rfl) rfl ?_
  refine SeqK.q (q_asC rfl rfl) rfl rfl rfl ?_
  refine SeqK.r (b_store (r := [_]) rfl rfl Fx.ty26 rfl rfl rfl rfl rfl rfl) rfl ?_
  refine SeqK.q (q_asC rfl rfl) rfl rfl rfl ?_
  refine SeqK.nil ?_
  refine AW.seq ?_
  refine AW.seq ?_
  refine AW.reg ?_
  refine SeqK.callE rfl rfl rfl rfl Fx.fn12 rfl (awakeF _) (fun _ _ h => by rw [h.1]; rfl) (fun x15 H15 q15 => ?_)
  obtain ⟨rfl, hF15⟩ := q15
  replace G := G.full hF15
  refine SeqK.q (q_not rfl rfl) rfl rfl rfl ?_
  refine SeqK.q (q_mvC rfl rfl) rfl rfl rfl ?_
  refine SeqK.on (q_mvC rfl rfl) rfl rfl rfl rfl rfl ?_
  refine SeqK.on (q_eqlN rfl rfl rfl Fx.nk23) rfl rfl rfl rfl rfl ?_
  refine SeqK.q (q_pkF rfl rfl rfl) rfl rfl rfl ?_
  refine SeqK.nil ?_
  refine AW.condF rfl ?_
  refine AW.skip ?_
  refine AW.seq ?_
  rcases hd : dist (runE ops) (IntKind.i64.wrap n) (IntKind.i64.wrap n) with _ | d
  ·
    have hrl := runE_len (ops := ops)
    have hcl : (cyc ltI (runE ops) (IntKind.i64.wrap n)).length ≤ 40 := by
      cases hd9 : dist (runE ops) (IntKind.i64.wrap n) (IntKind.i64.wrap n) with
      | none => rw [cyc_nil.2 hd9]; simp
      | some d => rw [(cyc_facts (lt := ltI) hd9).1]; have := dist_le hd9; omega
    refine AW.reg ?_
    refine SeqK.q (q_mvC rfl rfl) rfl rfl rfl ?_
    refine SeqK.q (q_mvC rfl rfl) rfl rfl rfl ?_
    refine SeqK.q (q_conv _ rfl Fx.un3 rfl (rfl) ⟨_, Fx.un37⟩) rfl rfl rfl ?_
    refine SeqK.r (g_call rfl Fx.fn22 rfl (cycN _ c _ _ G (by omega) hd) rfl rfl rfl) rfl ?_
    refine SeqK.q (q_asC rfl rfl) rfl rfl rfl ?_
    refine SeqK.nil ?_
    refine AW.seq ?_
    refine AW.xw 8 rfl (XW.nil (sz := 1)) ?_
    have hc := cyc_nil (lt := ltI).2 hd
    refine AW.reg ?_
    refine SeqK.q (q_mvC rfl rfl) rfl rfl rfl ?_
    refine SeqK.r (b_load (r := .g [_]) rfl Fx.ty26 rfl rfl rfl rfl rfl rfl) rfl ?_
    refine SeqK.q (q_mvC rfl rfl) rfl rfl rfl ?_
    refine SeqK.q (q_conv _ rfl Fx.un3 rfl (rfl) ⟨_, Fx.un37⟩) rfl rfl rfl ?_
    refine SeqK.q (q_call _ rfl Fx.fn23 rfl (cycle_any _ _ (by omega)) rfl) rfl rfl rfl ?_
    refine SeqK.q (q_call _ rfl Fx.fn14 rfl (by rw [hc]; exact same_eq [] .ne .un (by simp)) rfl) rfl rfl rfl ?_
    refine SeqK.q (q_mvC rfl rfl) rfl rfl rfl ?_
    refine SeqK.on (q_mvC rfl rfl) rfl rfl rfl rfl rfl ?_
    refine SeqK.on (q_neqN rfl rfl rfl Fx.nk30) rfl rfl rfl rfl rfl ?_
    refine SeqK.on (q_mvC rfl rfl) rfl rfl rfl rfl rfl ?_
    refine SeqK.on (q_len rfl Fx.un30 rfl) rfl rfl rfl rfl rfl ?_
    refine SeqK.on (q_gtr rfl rfl rfl) rfl rfl rfl rfl rfl ?_
    refine SeqK.on (q_eqlB rfl Fx.un4 rfl rfl) rfl rfl rfl rfl rfl ?_
    refine SeqK.q (q_pkT rfl rfl rfl) rfl rfl rfl ?_
    refine SeqK.q (q_asC rfl rfl) rfl rfl rfl ?_
    refine SeqK.nil ?_
    refine AW.ret ?_
    exact fin_x (x := .c _) (_) (.tmp rfl .nil) rfl (fun _ _ h => h) (by first | rfl | (simp; omega))
  ·
    have hrl := runE_len (ops := ops)
    have hcl : (cyc ltI (runE ops) (IntKind.i64.wrap n)).length ≤ 40 := by
      cases hd9 : dist (runE ops) (IntKind.i64.wrap n) (IntKind.i64.wrap n) with
      | none => rw [cyc_nil.2 hd9]; simp
      | some d => rw [(cyc_facts (lt := ltI) hd9).1]; have := dist_le hd9; omega
    refine AW.reg ?_
    refine SeqK.q (q_mvC rfl rfl) rfl rfl rfl ?_
    refine SeqK.q (q_mvC rfl rfl) rfl rfl rfl ?_
    refine SeqK.q (q_conv _ rfl Fx.un3 rfl (rfl) ⟨_, Fx.un37⟩) rfl rfl rfl ?_
    refine SeqK.r (g_call rfl Fx.fn22 rfl (cycS _ c _ _ _ G (by omega) rfl (fun e => by rw [cyc_nil.1 e] at hd; cases hd)) rfl rfl rfl) rfl ?_
    refine SeqK.q (q_asC rfl rfl) rfl rfl rfl ?_
    refine SeqK.nil ?_
    refine AW.seq ?_
    have hd1 := (dist_some.1 hd).pos
    have hc := (cyc_facts (lt := ltI) hd).1
    refine AW.reg ?_
    refine SeqK.q (q_mvC rfl rfl) rfl rfl rfl ?_
    refine SeqK.r (b_load (r := .g [_]) rfl Fx.ty26 rfl rfl rfl rfl rfl rfl) rfl ?_
    refine SeqK.q (q_mvC rfl rfl) rfl rfl rfl ?_
    refine SeqK.q (q_conv _ rfl Fx.un3 rfl (rfl) ⟨_, Fx.un37⟩) rfl rfl rfl ?_
    refine SeqK.q (q_call _ rfl Fx.fn23 rfl (cycle_any _ _ (by omega)) rfl) rfl rfl rfl ?_
    refine SeqK.q (q_call _ rfl Fx.fn14 rfl (same_eq _ .nn .un (by omega)) rfl) rfl rfl rfl ?_
    refine SeqK.q (q_mvC rfl rfl) rfl rfl rfl ?_
    refine SeqK.on (q_mvC rfl rfl) rfl rfl rfl rfl rfl ?_
    refine SeqK.on (q_neqN rfl rfl rfl Fx.nk30) rfl rfl rfl rfl rfl ?_
    refine SeqK.on (q_mvC rfl rfl) rfl rfl rfl rfl rfl ?_
    refine SeqK.on (q_len rfl Fx.un30 rfl) rfl rfl rfl rfl rfl ?_
    refine SeqK.on (q_gtr rfl rfl rfl) rfl rfl rfl rfl rfl ?_
    refine SeqK.on (q_eqlB rfl Fx.un4 rfl rfl) rfl rfl rfl rfl rfl ?_
    refine SeqK.q (q_pkT rfl rfl rfl) rfl rfl rfl ?_
    refine SeqK.q (q_asC rfl rfl) rfl rfl rfl ?_
    refine SeqK.nil ?_
    refine AW.ret ?_
    exact fin_x (x := .c _) (_) (.tmp rfl .nil) rfl (fun _ _ h => h) (by first | rfl | (simp; omega))

set_option maxRecDepth 20000 in
theorem remove_lawTB (H : Heap) (ops : List Act') (z : Nz) (n : Int) (hl : 30 < ops.length) : E.Spec Try.prog 9 [opsC z ops, .a (.t (.v (.int .i8 n))), .a (.t (.v (.bool true)))] H fun x H' => x = bX true := by
  refine Spec.enter Try.func9 rfl ?_
  refine AW.wk (Wk.keep 73 [(0, .c (opsC z ops)), (1, .c (.a (.t (.v (.int .i8 n))))), (2, .c (.a (.t (.v (.bool true)))))] [] (H) rfl ⟨rfl, rfl, rfl, trivial⟩ trivial (fun _ _ h => h) rfl) ?_
  refine AW.seq ?_
  refine AW.reg ?_
  refine SeqK.q (q_asC rfl rfl) rfl rfl rfl ?_
  refine SeqK.nil ?_
  refine AW.seq ?_
  refine AW.reg ?_
  refine SeqK.q (q_mvC rfl rfl) rfl rfl rfl ?_
  refine SeqK.callE rfl rfl rfl rfl Fx.fn11 rfl (runB _ ops z hl) (fun _ _ h => by rw [h]; rfl) (fun x15 H15 q15 => ?_)
  have h15 := q15
  subst h15
  refine SeqK.q (q_mvT rfl rfl) rfl rfl rfl ?_
  refine SeqK.q (q_extract _ rfl rfl rfl) rfl rfl rfl ?_
  refine SeqK.q (q_extract _ rfl rfl rfl) rfl rfl rfl ?_
  refine SeqK.q (q_extract _ rfl rfl rfl) rfl rfl rfl ?_
  refine SeqK.r (b_alloc (r := [_]) rfl rfl Fx.ze26 rfl rfl rfl rfl) rfl ?_
  refine SeqK.q (q_asC rfl rfl) rfl rfl rfl ?_
  refine SeqK.r (b_store (r := [_]) rfl rfl Fx.ty26 rfl rfl rfl rfl rfl rfl) rfl ?_
  refine SeqK.q (q_asC rfl rfl) rfl rfl rfl ?_
  refine SeqK.nil ?_
  refine AW.seq ?_
  refine AW.seq ?_
  refine AW.reg ?_
  refine SeqK.callE rfl rfl rfl rfl Fx.fn12 rfl (awakeF _) (fun _ _ h => by rw [h.1]; rfl) (fun x19 H19 q19 => ?_)
  obtain ⟨rfl, hF19⟩ := q19
  refine SeqK.q (q_not rfl rfl) rfl rfl rfl ?_
  refine SeqK.q (q_mvC rfl rfl) rfl rfl rfl ?_
  refine SeqK.on (q_mvC rfl rfl) rfl rfl rfl rfl rfl ?_
  refine SeqK.on (q_eqlN rfl rfl rfl Fx.nk23) rfl rfl rfl rfl rfl ?_
  refine SeqK.q (q_pkF rfl rfl rfl) rfl rfl rfl ?_
  refine SeqK.nil ?_
  refine AW.condT rfl ?_
  refine AW.seq ?_
  refine AW.reg ?_
  refine SeqK.callE rfl rfl rfl rfl Fx.fn12 rfl (awakeF _) (fun _ _ h => by rw [h.1]; rfl) (fun x25 H25 q25 => ?_)
  obtain ⟨rfl, hF25⟩ := q25
  refine SeqK.q (q_asC rfl rfl) rfl rfl rfl ?_
  refine SeqK.nil ?_
  refine AW.ret ?_
  exact fin_x (x := .c _) (_) (.tmp rfl .nil) rfl (fun _ _ h => h) (rfl)
set_option maxRecDepth 20000 in
theorem remove_lawTS (H : Heap) (ops : List Act') (z : Nz) (n : Int) (hl : ¬ 30 < ops.length) : E.Spec Try.prog 9 [opsC z ops, .a (.t (.v (.int .i8 n))), .a (.t (.v (.bool true)))] H fun x H' => x = bX true := by
  refine Spec.enter Try.func9 rfl ?_
  refine AW.wk (Wk.keep 73 [(0, .c (opsC z ops)), (1, .c (.a (.t (.v (.int .i8 n))))), (2, .c (.a (.t (.v (.bool true)))))] [] (H) rfl ⟨rfl, rfl, rfl, trivial⟩ trivial (fun _ _ h => h) rfl) ?_
  refine AW.seq ?_
  refine AW.reg ?_
  refine SeqK.q (q_asC rfl rfl) rfl rfl rfl ?_
  refine SeqK.nil ?_
  refine AW.seq ?_
  refine AW.reg ?_
  refine SeqK.q (q_mvC rfl rfl) rfl rfl rfl ?_
  refine SeqK.callE rfl rfl rfl rfl Fx.fn11 rfl (runS _ ops z hl) (fun _ _ ⟨_, h, _⟩ => by rw [h]; rfl) (fun x15 H15 q15 => ?_)
  obtain ⟨c, rfl, G⟩ := q15
  refine SeqK.q (q_mvT rfl rfl) rfl rfl rfl ?_
  refine SeqK.q (q_extract _ rfl rfl rfl) rfl rfl rfl ?_
  refine SeqK.q (q_extract _ rfl rfl rfl) rfl rfl rfl ?_
  refine SeqK.q (q_extract _ rfl rfl rfl) rfl rfl rfl ?_
  refine SeqK.r (b_alloc (r := [_]) rfl rfl Fx.ze26 rfl rfl rfl rfl) rfl ?_
  refine SeqK.q (q_asC rfl rfl) rfl rfl rfl ?_
  refine SeqK.r (b_store (r := [_]) rfl rfl Fx.ty26 rfl rfl rfl rfl rfl rfl) rfl ?_
  refine SeqK.q (q_asC rfl rfl) rfl rfl rfl ?_
  refine SeqK.nil ?_
  refine AW.seq ?_
  refine AW.seq ?_
  refine AW.reg ?_
  refine SeqK.callE rfl rfl rfl rfl Fx.fn12 rfl (awakeF _) (fun _ _ h => by rw [h.1]; rfl) (fun x19 H19 q19 => ?_)
  obtain ⟨rfl, hF19⟩ := q19
  replace G := G.full hF19
  refine SeqK.q (q_not rfl rfl) rfl rfl rfl ?_
  refine SeqK.q (q_mvC rfl rfl) rfl rfl rfl ?_
  refine SeqK.on (q_mvC rfl rfl) rfl rfl rfl rfl rfl ?_
  refine SeqK.on (q_eqlN rfl rfl rfl Fx.nk23) rfl rfl rfl rfl rfl ?_
  refine SeqK.q (q_pkF rfl rfl rfl) rfl rfl rfl ?_
  refine SeqK.nil ?_
  refine AW.condF rfl ?_
  refine AW.skip ?_
  refine AW.seq ?_
  have hrl := runE_len (ops := ops)
  have hnl := nodes_len (lt := ltI) (L := runE ops)
  refine AW.reg ?_
  refine SeqK.r (b_load (r := .g [_]) rfl Fx.ty26 rfl rfl rfl rfl rfl rfl) rfl ?_
  refine SeqK.q (q_mvC rfl rfl) rfl rfl rfl ?_
  refine SeqK.q (q_conv _ rfl Fx.un3 rfl (rfl) ⟨_, Fx.un37⟩) rfl rfl rfl ?_
  refine SeqK.q (q_call _ rfl Fx.fn26 rfl (lv_any _ _ (by omega)) rfl) rfl rfl rfl ?_
  refine SeqK.r (b_alloc (r := [_]) rfl rfl Fx.ze26 rfl rfl rfl rfl) rfl ?_
  refine SeqK.r (b_store (r := [_]) rfl rfl Fx.ty26 rfl rfl rfl rfl rfl rfl) rfl ?_
  refine SeqK.nil ?_
  refine AW.seq ?_
  refine AW.seq ?_
  refine AW.reg ?_
  refine SeqK.q (q_mvC rfl rfl) rfl rfl rfl ?_
  refine SeqK.nil ?_
  refine AW.condT rfl ?_
  refine AW.seq ?_
  refine AW.reg ?_
  refine SeqK.q (q_mvC rfl rfl) rfl rfl rfl ?_
  refine SeqK.q (q_mvC rfl rfl) rfl rfl rfl ?_
  refine SeqK.q (q_conv _ rfl Fx.un3 rfl (rfl) ⟨_, Fx.un37⟩) rfl rfl rfl ?_
  refine SeqK.callE rfl rfl rfl rfl Fx.fn25 rfl (removeI _ c _ _ G) (fun _ _ h => by rw [h.1]; rfl) (fun x34 H34 q34 => ?_)
  obtain ⟨rfl, G2⟩ := q34
  refine SeqK.nil ?_
  refine AW.reg ?_
  refine SeqK.r (b_load (r := .g [_]) rfl Fx.ty26 rfl rfl rfl rfl rfl rfl) rfl ?_
  refine SeqK.q (q_mvC rfl rfl) rfl rfl rfl ?_
  refine SeqK.q (q_conv _ rfl Fx.un3 rfl (rfl) ⟨_, Fx.un37⟩) rfl rfl rfl ?_
  refine SeqK.q (q_call _ rfl Fx.fn27 rfl (rm_any _ _ (by omega)) rfl) rfl rfl rfl ?_
  refine SeqK.r (b_store (r := [_]) rfl rfl Fx.ty26 rfl rfl rfl rfl rfl rfl) rfl ?_
  refine SeqK.nil ?_
  refine AW.seq ?_
  refine AW.seq ?_
  have hL2 : (rmE (runE ops) (IntKind.i64.wrap n)).length ≤ 30 := Nat.le_trans rmE_len (by omega)
  have hnl2 := nodes_len (lt := ltI) (L := (rmE (runE ops) (IntKind.i64.wrap n)))
  refine AW.reg ?_
  refine SeqK.r (b_load (r := .g [_]) rfl Fx.ty26 rfl rfl rfl rfl rfl rfl) rfl ?_
  refine SeqK.q (q_call _ rfl Fx.fn13 rfl (nodes_any _ (by omega)) rfl) rfl rfl rfl ?_
  refine SeqK.q (q_len rfl Fx.un30 rfl) rfl rfl rfl ?_
  refine SeqK.q (q_mvC rfl rfl) rfl rfl rfl ?_
  refine SeqK.nil ?_
  refine AW.block ?_
  refine AW.loop (fun (i : Nat) s => (i ≤ (nodes ltI (runE ops)).length) ∧ s = ⟨73, sp [(1, .c (.a (.t (.v (.int .i8 n))))), (7, .c (.a (.bp c 0))), (10, .lp 10 0), (44, .c (iL .un (nodes ltI (runE ops)))), (45, iX .i64 ((((nodes ltI (runE ops)).map i64T).length : Nat) : Int)), (46, iX .i64 ((i : Nat) : Int))], lv [(10, .box [.t (.sl .un 2 ((rmE (runE ops) (IntKind.i64.wrap n)).map eT))])], H34⟩) (fun i => (nodes ltI (runE ops)).length - i) 0 ⟨_, Wk.keep 73 [(1, .c (.a (.t (.v (.int .i8 n))))), (7, .c (.a (.bp c 0))), (10, .lp 10 0), (44, .c (iL .un (nodes ltI (runE ops)))), (45, iX .i64 ((((nodes ltI (runE ops)).map i64T).length : Nat) : Int)), (46, iX .i64 ((((0 : Nat)) : Nat) : Int))] [(10, .box [.t (.sl .un 2 ((rmE (runE ops) (IntKind.i64.wrap n)).map eT))])] (H34) rfl ⟨rfl, rfl, rfl, rfl, rfl, rfl, trivial⟩ ⟨rfl, trivial⟩ (fun _ _ h => h) rfl, Nat.zero_le _, rfl⟩ (fun i s hs => ?_)
  obtain ⟨hi0, rfl⟩ := hs
  refine AW.seq ?_
  refine AW.reg ?_
  refine SeqK.q (q_lss rfl rfl rfl) rfl rfl rfl ?_
  refine SeqK.nil ?_
  refine AW.seq ?_
  refine AW.condD rfl (fun h47 => ?_) (fun h47 => ?_)
  ·
    have hi : i < (nodes ltI (runE ops)).length := by simpa using h47
    refine AW.skip ?_
    refine AW.seq ?_
    refine AW.block ?_
    refine AW.seq ?_
    refine AW.reg ?_
    refine SeqK.q (q_index _ rfl Fx.sl30 rfl rfl (by omega) (idx_map (f := i64T) hi)) rfl rfl rfl ?_
    refine SeqK.q (q_load (.a _) rfl Fx.ty3 rfl rfl rfl) rfl rfl rfl ?_
    refine SeqK.q (q_asC rfl rfl) rfl rfl rfl ?_
    refine SeqK.nil ?_
    refine AW.seq ?_
    refine AW.draw Fx.mo ?_
    refine LexK.q (q_mvC rfl rfl) rfl rfl rfl ?_
    refine LexK.q (q_mvC rfl rfl) rfl rfl rfl ?_
    refine LexK.r (g_call rfl Fx.fn15 rfl (listI _ c _ _ G2 (by omega)) rfl rfl rfl) rfl ?_
    refine LexK.r (b_load (r := .g [_]) rfl Fx.ty26 rfl rfl rfl rfl rfl rfl) rfl ?_
    refine LexK.q (q_mvC rfl rfl) rfl rfl rfl ?_
    refine LexK.q (q_call _ rfl Fx.fn16 rfl (succs_any _ _ (by omega)) rfl) rfl rfl rfl ?_
    refine LexK.q (q_call _ rfl Fx.fn14 rfl (same_eq _ .un .un (by have := succs_len (lt := ltI) (L := (rmE (runE ops) (IntKind.i64.wrap n))) (a := (nodes ltI (runE ops))[i]); omega)) rfl) rfl rfl rfl ?_
    refine LexK.q (q_not rfl rfl) rfl rfl rfl ?_
    refine LexK.nil (by kernel_rfl) ?_
    refine AW.condF rfl ?_
    refine AW.skip ?_
    refine AW.reg ?_
    refine SeqK.q (q_add _ rfl rfl rfl (w64 (by omega) (by omega))) rfl rfl rfl ?_
    refine SeqK.q (q_mvC rfl rfl) rfl rfl rfl ?_
    refine SeqK.nil ?_
    exact ⟨i + 1, _, Wk.keep 73 [(1, .c (.a (.t (.v (.int .i8 n))))), (7, .c (.a (.bp c 0))), (10, .lp 10 0), (44, .c (iL .un (nodes ltI (runE ops)))), (45, iX .i64 ((((nodes ltI (runE ops)).map i64T).length : Nat) : Int)), (46, iX .i64 (((i + 1) : Nat) : Int))] [(10, .box [.t (.sl .un 2 ((rmE (runE ops) (IntKind.i64.wrap n)).map eT))])] (H34) rfl ⟨rfl, rfl, rfl, rfl, rfl, rfl, trivial⟩ ⟨rfl, trivial⟩ (fun _ _ h => h) rfl, by omega, hi, rfl⟩
  ·
    refine AW.exit ?_
    refine eth_e ?_
    refine eth_e ?_
    refine exit_here ?_
    refine AW.seq ?_
    refine AW.draw Fx.mo ?_
    refine LexK.q (q_mvC rfl rfl) rfl rfl rfl ?_
    refine LexK.r (g_call rfl Fx.fn17 rfl (nodesI _ c _ G2 (by omega)) rfl rfl rfl) rfl ?_
    refine LexK.r (b_load (r := .g [_]) rfl Fx.ty26 rfl rfl rfl rfl rfl rfl) rfl ?_
    refine LexK.q (q_call _ rfl Fx.fn13 rfl (nodes_any _ (by omega)) rfl) rfl rfl rfl ?_
    refine LexK.q (q_call _ rfl Fx.fn14 rfl (same_eq _ .un .un (by omega)) rfl) rfl rfl rfl ?_
    refine LexK.q (q_mvC rfl rfl) rfl rfl rfl ?_
    refine LexK.on (q_mvC rfl rfl) rfl rfl rfl rfl rfl ?_
    refine LexK.on (q_mvC rfl rfl) rfl rfl rfl rfl rfl ?_
    refine LexK.on (q_conv _ rfl Fx.un3 rfl (rfl) ⟨_, Fx.un37⟩) rfl rfl rfl rfl rfl ?_
    refine LexK.on (q_mvC rfl rfl) rfl rfl rfl rfl rfl ?_
    refine LexK.on (q_conv _ rfl Fx.un3 rfl (rfl) ⟨_, Fx.un37⟩) rfl rfl rfl rfl rfl ?_
    refine LexK.rOn (g_call rfl Fx.fn20 rfl (reachesI _ c _ _ _ G2 (by omega)) rfl rfl rfl) rfl rfl rfl ?_
    refine LexK.on (q_not rfl rfl) rfl rfl rfl rfl rfl ?_
    refine LexK.q (q_pkT rfl rfl rfl) rfl rfl rfl ?_
    refine LexK.q (q_asC rfl rfl) rfl rfl rfl ?_
    refine LexK.nil (by kernel_rfl) ?_
    refine AW.ret ?_
    exact fin_x (x := .c _) (_) (.tmp rfl .nil) rfl (fun _ _ h => h) (by rw [dist_gone' (fun e he => (mem_rmE.1 he).2.1)]; rfl)

set_option maxRecDepth 20000 in
theorem remove_lawFB (H : Heap) (ops : List Act') (z : Nz) (n : Int) (hl : 30 < ops.length) : E.Spec Try.prog 9 [opsC z ops, .a (.t (.v (.int .i8 n))), .a (.t (.v (.bool false)))] H fun x H' => x = bX true := by
  refine Spec.enter Try.func9 rfl ?_
  refine AW.wk (Wk.keep 73 [(0, .c (opsC z ops)), (1, .c (.a (.t (.v (.int .i8 n))))), (2, .c (.a (.t (.v (.bool false)))))] [] (H) rfl ⟨rfl, rfl, rfl, trivial⟩ trivial (fun _ _ h => h) rfl) ?_
  refine AW.seq ?_
  refine AW.reg ?_
  refine SeqK.q (q_asC rfl rfl) rfl rfl rfl ?_
  refine SeqK.nil ?_
  refine AW.seq ?_
  refine AW.reg ?_
  refine SeqK.q (q_mvC rfl rfl) rfl rfl rfl ?_
  refine SeqK.callE rfl rfl rfl rfl Fx.fn11 rfl (runB _ ops z hl) (fun _ _ h => by rw [h]; rfl) (fun x15 H15 q15 => ?_)
  have h15 := q15
  subst h15
  refine SeqK.q (q_mvT rfl rfl) rfl rfl rfl ?_
  refine SeqK.q (q_extract _ rfl rfl rfl) rfl rfl rfl ?_
  refine SeqK.q (q_extract _ rfl rfl rfl) rfl rfl rfl ?_
  refine SeqK.q (q_extract _ rfl rfl rfl) rfl rfl rfl ?_
  refine SeqK.r (b_alloc (r := [_]) rfl rfl Fx.ze26 rfl rfl rfl rfl) rfl ?_
  refine SeqK.q (q_asC rfl rfl) rfl rfl rfl ?_
  refine SeqK.r (b_store (r := [_]) rfl rfl Fx.ty26 rfl rfl rfl rfl rfl rfl) rfl ?_
  refine SeqK.q (q_asC rfl rfl) rfl rfl rfl ?_
  refine SeqK.nil ?_
  refine AW.seq ?_
  refine AW.seq ?_
  refine AW.reg ?_
  refine SeqK.callE rfl rfl rfl rfl Fx.fn12 rfl (awakeF _) (fun _ _ h => by rw [h.1]; rfl) (fun x19 H19 q19 => ?_)
  obtain ⟨rfl, hF19⟩ := q19
  refine SeqK.q (q_not rfl rfl) rfl rfl rfl ?_
  refine SeqK.q (q_mvC rfl rfl) rfl rfl rfl ?_
  refine SeqK.on (q_mvC rfl rfl) rfl rfl rfl rfl rfl ?_
  refine SeqK.on (q_eqlN rfl rfl rfl Fx.nk23) rfl rfl rfl rfl rfl ?_
  refine SeqK.q (q_pkF rfl rfl rfl) rfl rfl rfl ?_
  refine SeqK.nil ?_
  refine AW.condT rfl ?_
  refine AW.seq ?_
  refine AW.reg ?_
  refine SeqK.callE rfl rfl rfl rfl Fx.fn12 rfl (awakeF _) (fun _ _ h => by rw [h.1]; rfl) (fun x25 H25 q25 => ?_)
  obtain ⟨rfl, hF25⟩ := q25
  refine SeqK.q (q_asC rfl rfl) rfl rfl rfl ?_
  refine SeqK.nil ?_
  refine AW.ret ?_
  exact fin_x (x := .c _) (_) (.tmp rfl .nil) rfl (fun _ _ h => h) (rfl)
set_option maxRecDepth 20000 in
theorem remove_lawFS (H : Heap) (ops : List Act') (z : Nz) (n : Int) (hl : ¬ 30 < ops.length) : E.Spec Try.prog 9 [opsC z ops, .a (.t (.v (.int .i8 n))), .a (.t (.v (.bool false)))] H fun x H' => x = bX true := by
  refine Spec.enter Try.func9 rfl ?_
  refine AW.wk (Wk.keep 73 [(0, .c (opsC z ops)), (1, .c (.a (.t (.v (.int .i8 n))))), (2, .c (.a (.t (.v (.bool false)))))] [] (H) rfl ⟨rfl, rfl, rfl, trivial⟩ trivial (fun _ _ h => h) rfl) ?_
  refine AW.seq ?_
  refine AW.reg ?_
  refine SeqK.q (q_asC rfl rfl) rfl rfl rfl ?_
  refine SeqK.nil ?_
  refine AW.seq ?_
  refine AW.reg ?_
  refine SeqK.q (q_mvC rfl rfl) rfl rfl rfl ?_
  refine SeqK.callE rfl rfl rfl rfl Fx.fn11 rfl (runS _ ops z hl) (fun _ _ ⟨_, h, _⟩ => by rw [h]; rfl) (fun x15 H15 q15 => ?_)
  obtain ⟨c, rfl, G⟩ := q15
  refine SeqK.q (q_mvT rfl rfl) rfl rfl rfl ?_
  refine SeqK.q (q_extract _ rfl rfl rfl) rfl rfl rfl ?_
  refine SeqK.q (q_extract _ rfl rfl rfl) rfl rfl rfl ?_
  refine SeqK.q (q_extract _ rfl rfl rfl) rfl rfl rfl ?_
  refine SeqK.r (b_alloc (r := [_]) rfl rfl Fx.ze26 rfl rfl rfl rfl) rfl ?_
  refine SeqK.q (q_asC rfl rfl) rfl rfl rfl ?_
  refine SeqK.r (b_store (r := [_]) rfl rfl Fx.ty26 rfl rfl rfl rfl rfl rfl) rfl ?_
  refine SeqK.q (q_asC rfl rfl) rfl rfl rfl ?_
  refine SeqK.nil ?_
  refine AW.seq ?_
  refine AW.seq ?_
  refine AW.reg ?_
  refine SeqK.callE rfl rfl rfl rfl Fx.fn12 rfl (awakeF _) (fun _ _ h => by rw [h.1]; rfl) (fun x19 H19 q19 => ?_)
  obtain ⟨rfl, hF19⟩ := q19
  replace G := G.full hF19
  refine SeqK.q (q_not rfl rfl) rfl rfl rfl ?_
  refine SeqK.q (q_mvC rfl rfl) rfl rfl rfl ?_
  refine SeqK.on (q_mvC rfl rfl) rfl rfl rfl rfl rfl ?_
  refine SeqK.on (q_eqlN rfl rfl rfl Fx.nk23) rfl rfl rfl rfl rfl ?_
  refine SeqK.q (q_pkF rfl rfl rfl) rfl rfl rfl ?_
  refine SeqK.nil ?_
  refine AW.condF rfl ?_
  refine AW.skip ?_
  refine AW.seq ?_
  have hrl := runE_len (ops := ops)
  have hnl := nodes_len (lt := ltI) (L := runE ops)
  refine AW.reg ?_
  refine SeqK.r (b_load (r := .g [_]) rfl Fx.ty26 rfl rfl rfl rfl rfl rfl) rfl ?_
  refine SeqK.q (q_mvC rfl rfl) rfl rfl rfl ?_
  refine SeqK.q (q_conv _ rfl Fx.un3 rfl (rfl) ⟨_, Fx.un37⟩) rfl rfl rfl ?_
  refine SeqK.q (q_call _ rfl Fx.fn26 rfl (lv_any _ _ (by omega)) rfl) rfl rfl rfl ?_
  refine SeqK.r (b_alloc (r := [_]) rfl rfl Fx.ze26 rfl rfl rfl rfl) rfl ?_
  refine SeqK.r (b_store (r := [_]) rfl rfl Fx.ty26 rfl rfl rfl rfl rfl rfl) rfl ?_
  refine SeqK.nil ?_
  refine AW.seq ?_
  refine AW.seq ?_
  refine AW.reg ?_
  refine SeqK.q (q_mvC rfl rfl) rfl rfl rfl ?_
  refine SeqK.nil ?_
  refine AW.condF rfl ?_
  refine AW.reg ?_
  refine SeqK.q (q_mvC rfl rfl) rfl rfl rfl ?_
  refine SeqK.q (q_mvC rfl rfl) rfl rfl rfl ?_
  refine SeqK.q (q_conv _ rfl Fx.un3 rfl (rfl) ⟨_, Fx.un37⟩) rfl rfl rfl ?_
  refine SeqK.callE rfl rfl rfl rfl Fx.fn28 rfl (leaveI _ c _ _ G) (fun _ _ h => by rw [h.1]; rfl) (fun x42 H42 q42 => ?_)
  obtain ⟨rfl, G2⟩ := q42
  refine SeqK.nil ?_
  refine AW.seq ?_
  refine AW.seq ?_
  have hL2 : (lvE (runE ops) (IntKind.i64.wrap n)).length ≤ 30 := Nat.le_trans lvE_len (by omega)
  have hnl2 := nodes_len (lt := ltI) (L := (lvE (runE ops) (IntKind.i64.wrap n)))
  refine AW.reg ?_
  refine SeqK.r (b_load (r := .g [_]) rfl Fx.ty26 rfl rfl rfl rfl rfl rfl) rfl ?_
  refine SeqK.q (q_call _ rfl Fx.fn13 rfl (nodes_any _ (by omega)) rfl) rfl rfl rfl ?_
  refine SeqK.q (q_len rfl Fx.un30 rfl) rfl rfl rfl ?_
  refine SeqK.q (q_mvC rfl rfl) rfl rfl rfl ?_
  refine SeqK.nil ?_
  refine AW.block ?_
  refine AW.loop (fun (i : Nat) s => (i ≤ (nodes ltI (runE ops)).length) ∧ s = ⟨73, sp [(1, .c (.a (.t (.v (.int .i8 n))))), (7, .c (.a (.bp c 0))), (10, .lp 10 0), (44, .c (iL .un (nodes ltI (runE ops)))), (45, iX .i64 ((((nodes ltI (runE ops)).map i64T).length : Nat) : Int)), (46, iX .i64 ((i : Nat) : Int))], lv [(10, .box [.t (.sl .un 2 ((lvE (runE ops) (IntKind.i64.wrap n)).map eT))])], H42⟩) (fun i => (nodes ltI (runE ops)).length - i) 0 ⟨_, Wk.keep 73 [(1, .c (.a (.t (.v (.int .i8 n))))), (7, .c (.a (.bp c 0))), (10, .lp 10 0), (44, .c (iL .un (nodes ltI (runE ops)))), (45, iX .i64 ((((nodes ltI (runE ops)).map i64T).length : Nat) : Int)), (46, iX .i64 ((((0 : Nat)) : Nat) : Int))] [(10, .box [.t (.sl .un 2 ((lvE (runE ops) (IntKind.i64.wrap n)).map eT))])] (H42) rfl ⟨rfl, rfl, rfl, rfl, rfl, rfl, trivial⟩ ⟨rfl, trivial⟩ (fun _ _ h => h) rfl, Nat.zero_le _, rfl⟩ (fun i s hs => ?_)
  obtain ⟨hi0, rfl⟩ := hs
  refine AW.seq ?_
  refine AW.reg ?_
  refine SeqK.q (q_lss rfl rfl rfl) rfl rfl rfl ?_
  refine SeqK.nil ?_
  refine AW.seq ?_
  refine AW.condD rfl (fun h47 => ?_) (fun h47 => ?_)
  ·
    have hi : i < (nodes ltI (runE ops)).length := by simpa using h47
    refine AW.skip ?_
    refine AW.seq ?_
    refine AW.block ?_
    refine AW.seq ?_
    refine AW.reg ?_
    refine SeqK.q (q_index _ rfl Fx.sl30 rfl rfl (by omega) (idx_map (f := i64T) hi)) rfl rfl rfl ?_
    refine SeqK.q (q_load (.a _) rfl Fx.ty3 rfl rfl rfl) rfl rfl rfl ?_
    refine SeqK.q (q_asC rfl rfl) rfl rfl rfl ?_
    refine SeqK.nil ?_
    refine AW.seq ?_
    refine AW.draw Fx.mo ?_
    refine LexK.q (q_mvC rfl rfl) rfl rfl rfl ?_
    refine LexK.q (q_mvC rfl rfl) rfl rfl rfl ?_
    refine LexK.r (g_call rfl Fx.fn15 rfl (listI _ c _ _ G2 (by omega)) rfl rfl rfl) rfl ?_
    refine LexK.r (b_load (r := .g [_]) rfl Fx.ty26 rfl rfl rfl rfl rfl rfl) rfl ?_
    refine LexK.q (q_mvC rfl rfl) rfl rfl rfl ?_
    refine LexK.q (q_call _ rfl Fx.fn16 rfl (succs_any _ _ (by omega)) rfl) rfl rfl rfl ?_
    refine LexK.q (q_call _ rfl Fx.fn14 rfl (same_eq _ .un .un (by have := succs_len (lt := ltI) (L := (lvE (runE ops) (IntKind.i64.wrap n))) (a := (nodes ltI (runE ops))[i]); omega)) rfl) rfl rfl rfl ?_
    refine LexK.q (q_not rfl rfl) rfl rfl rfl ?_
    refine LexK.nil (by kernel_rfl) ?_
    refine AW.condF rfl ?_
    refine AW.skip ?_
    refine AW.reg ?_
    refine SeqK.q (q_add _ rfl rfl rfl (w64 (by omega) (by omega))) rfl rfl rfl ?_
    refine SeqK.q (q_mvC rfl rfl) rfl rfl rfl ?_
    refine SeqK.nil ?_
    exact ⟨i + 1, _, Wk.keep 73 [(1, .c (.a (.t (.v (.int .i8 n))))), (7, .c (.a (.bp c 0))), (10, .lp 10 0), (44, .c (iL .un (nodes ltI (runE ops)))), (45, iX .i64 ((((nodes ltI (runE ops)).map i64T).length : Nat) : Int)), (46, iX .i64 (((i + 1) : Nat) : Int))] [(10, .box [.t (.sl .un 2 ((lvE (runE ops) (IntKind.i64.wrap n)).map eT))])] (H42) rfl ⟨rfl, rfl, rfl, rfl, rfl, rfl, trivial⟩ ⟨rfl, trivial⟩ (fun _ _ h => h) rfl, by omega, hi, rfl⟩
  ·
    refine AW.exit ?_
    refine eth_e ?_
    refine eth_e ?_
    refine exit_here ?_
    refine AW.seq ?_
    refine AW.draw Fx.mo ?_
    refine LexK.q (q_mvC rfl rfl) rfl rfl rfl ?_
    refine LexK.r (g_call rfl Fx.fn17 rfl (nodesI _ c _ G2 (by omega)) rfl rfl rfl) rfl ?_
    refine LexK.r (b_load (r := .g [_]) rfl Fx.ty26 rfl rfl rfl rfl rfl rfl) rfl ?_
    refine LexK.q (q_call _ rfl Fx.fn13 rfl (nodes_any _ (by omega)) rfl) rfl rfl rfl ?_
    refine LexK.q (q_call _ rfl Fx.fn14 rfl (same_eq _ .un .un (by omega)) rfl) rfl rfl rfl ?_
    refine LexK.q (q_mvC rfl rfl) rfl rfl rfl ?_
    refine LexK.on (q_mvC rfl rfl) rfl rfl rfl rfl rfl ?_
    refine LexK.on (q_mvC rfl rfl) rfl rfl rfl rfl rfl ?_
    refine LexK.on (q_conv _ rfl Fx.un3 rfl (rfl) ⟨_, Fx.un37⟩) rfl rfl rfl rfl rfl ?_
    refine LexK.on (q_mvC rfl rfl) rfl rfl rfl rfl rfl ?_
    refine LexK.on (q_conv _ rfl Fx.un3 rfl (rfl) ⟨_, Fx.un37⟩) rfl rfl rfl rfl rfl ?_
    refine LexK.rOn (g_call rfl Fx.fn20 rfl (reachesI _ c _ _ _ G2 (by omega)) rfl rfl rfl) rfl rfl rfl ?_
    refine LexK.on (q_not rfl rfl) rfl rfl rfl rfl rfl ?_
    refine LexK.q (q_pkT rfl rfl rfl) rfl rfl rfl ?_
    refine LexK.q (q_asC rfl rfl) rfl rfl rfl ?_
    refine LexK.nil (by kernel_rfl) ?_
    refine AW.ret ?_
    exact fin_x (x := .c _) (_) (.tmp rfl .nil) rfl (fun _ _ h => h) (by rw [dist_gone' (fun e he => (mem_lvE.1 he).2)]; rfl)

end Go.Proofs.Ytikcmjamioopbaa.W
namespace Go.Proofs.Ytikcmjamioopbaa.W
open Go.RowKit E M
set_option linter.unusedVariables false
set_option linter.unusedSimpArgs false
set_option linter.unusedSectionVars false
theorem reaches_law (ops : List Act') (xs : List Int) (hx : xs.length = 3) (H : Heap) : E.Spec Try.prog 5 [opsC .un ops, .g (((xs.map (fun x : Int => ([.v (.int .i8 x)] : List E.T))).flatten).map A.t)] H fun x _ => x = bX true := by
  match xs, hx with
  | [a, b, c], _ =>
    by_cases hl : 30 < ops.length
    · exact reaches_lawB H ops .un a b c hl
    · exact reaches_lawS H ops .un a b c hl
theorem cycle_law (ops : List Act') (n : Int) (H : Heap) : E.Spec Try.prog 6 [opsC .un ops, .a (.t (.v (.int .i8 n)))] H fun x _ => x = bX true := by
  by_cases hl : 30 < ops.length
  · exact cycle_lawB H ops .un n hl
  · exact cycle_lawS H ops .un n hl
theorem remove_law (ops : List Act') (n : Int) (b : Bool) (H : Heap) : E.Spec Try.prog 9 [opsC .un ops, .a (.t (.v (.int .i8 n))), .a (.t (.v (.bool b)))] H fun x _ => x = bX true := by
  cases b
  · by_cases hl : 30 < ops.length
    · exact remove_lawFB H ops .un n hl
    · exact remove_lawFS H ops .un n hl
  · by_cases hl : 30 < ops.length
    · exact remove_lawTB H ops .un n hl
    · exact remove_lawTS H ops .un n hl

end Go.Proofs.Ytikcmjamioopbaa.W
namespace Go.Proofs.Ytikcmjamioopbaa.W
open Go.RowKit E M
set_option linter.unusedVariables false
set_option linter.unusedSimpArgs false
set_option linter.unusedSectionVars false
theorem q_remC {P : Program} {o : Oper} {s : S} {t u : TypeId} {x y : Operand} {k : IntKind} {a b c : Int} (ho : o.op = .binOp .rem t x y u) (hx : s.eval x = iX k a) (hy : s.eval y = iX k b) (h0 : b ≠ 0) (hc : a.tmod b = c) : QV P o s (iX k c) := hc ▸ q_rem ho hx hy h0
theorem has_yes (L : GE) (z : Nz) (a b : Int) (hL : L.length ≤ 1000000) (h : (a, b) ∈ L) : Pure Try.prog 24 [grC z L, iC a, iC b] (bX true) := by
  have h1 := has_any L z a b hL
  rwa [decide_eq_true h] at h1
theorem reachY (H : Heap) (k : Nat) (L : GE) (a b : Int) (G : Gr ndI H k L) (hL : L.length ≤ 400000) (h : dist L a b ≠ none) : E.Spec Try.prog 20 [.a (.bp k 0), iC a, iC b] H fun x H' => x = bX true ∧ H' = H := by
  cases hd : dist L a b with
  | none => exact absurd hd h
  | some d => exact reachess H k L a b G hL d hd

set_option maxRecDepth 20000 in
theorem cyclic_lawB (H : Heap) (ops : List Act') (z : Nz) (n : Int) (hl : 30 < ops.length) : E.Spec Try.prog 7 [opsC z ops, .a (.t (.v (.int .i8 n)))] H fun x H' => x = bX true := by
  refine Spec.enter Try.func7 rfl ?_
  refine AW.wk (Wk.keep 81 [(0, .c (opsC z ops)), (1, .c (.a (.t (.v (.int .i8 n)))))] [] (H) rfl ⟨rfl, rfl, trivial⟩ trivial (fun _ _ h => h) rfl) ?_
  refine AW.seq ?_
  refine AW.reg ?_
  refine SeqK.q (q_asC rfl rfl) rfl rfl rfl ?_
  refine SeqK.nil ?_
  refine AW.seq ?_
  refine AW.reg ?_
  refine SeqK.q (q_mvC rfl rfl) rfl rfl rfl ?_
  refine SeqK.callE rfl rfl rfl rfl Fx.fn11 rfl (runB _ ops z hl) (fun _ _ h => by rw [h]; rfl) (fun x14 H14 q14 => ?_)
  have h14 := q14
  subst h14
  refine SeqK.q (q_mvT rfl rfl) rfl rfl rfl ?_
  refine SeqK.q (q_extract _ rfl rfl rfl) rfl rfl rfl ?_
  refine SeqK.q (q_extract _ rfl rfl rfl) rfl rfl rfl ?_
  refine SeqK.q (q_extract _ rfl rfl rfl) rfl rfl rfl ?_
  refine SeqK.r (b_alloc (r := [_]) rfl rfl Fx.ze26 rfl rfl rfl rfl) rfl ?_
  refine SeqK.q (q_asC rfl rfl) rfl rfl rfl ?_
  refine SeqK.r (b_store (r := [_]) rfl rfl Fx.ty26 rfl rfl rfl rfl rfl rfl) rfl ?_
  refine SeqK.q (q_asC rfl rfl) rfl rfl rfl ?_
  refine SeqK.nil ?_
  refine AW.seq ?_
  refine AW.seq ?_
  refine AW.reg ?_
  refine SeqK.callE rfl rfl rfl rfl Fx.fn12 rfl (awakeF _) (fun _ _ h => by rw [h.1]; rfl) (fun x18 H18 q18 => ?_)
  obtain ⟨rfl, hF18⟩ := q18
  refine SeqK.q (q_not rfl rfl) rfl rfl rfl ?_
  refine SeqK.q (q_mvC rfl rfl) rfl rfl rfl ?_
  refine SeqK.on (q_mvC rfl rfl) rfl rfl rfl rfl rfl ?_
  refine SeqK.on (q_eqlN rfl rfl rfl Fx.nk23) rfl rfl rfl rfl rfl ?_
  refine SeqK.q (q_pkF rfl rfl rfl) rfl rfl rfl ?_
  refine SeqK.nil ?_
  refine AW.condT rfl ?_
  refine AW.seq ?_
  refine AW.reg ?_
  refine SeqK.callE rfl rfl rfl rfl Fx.fn12 rfl (awakeF _) (fun _ _ h => by rw [h.1]; rfl) (fun x24 H24 q24 => ?_)
  obtain ⟨rfl, hF24⟩ := q24
  refine SeqK.q (q_asC rfl rfl) rfl rfl rfl ?_
  refine SeqK.nil ?_
  refine AW.ret ?_
  exact fin_x (x := .c _) (_) (.tmp rfl .nil) rfl (fun _ _ h => h) (rfl)
set_option maxRecDepth 20000 in
theorem cyclic_lawS (H : Heap) (ops : List Act') (z : Nz) (n : Int) (hl : ¬ 30 < ops.length) : E.Spec Try.prog 7 [opsC z ops, .a (.t (.v (.int .i8 n)))] H fun x H' => x = bX true := by
  refine Spec.enter Try.func7 rfl ?_
  refine AW.wk (Wk.keep 81 [(0, .c (opsC z ops)), (1, .c (.a (.t (.v (.int .i8 n)))))] [] (H) rfl ⟨rfl, rfl, trivial⟩ trivial (fun _ _ h => h) rfl) ?_
  refine AW.seq ?_
  refine AW.reg ?_
  refine SeqK.q (q_asC rfl rfl) rfl rfl rfl ?_
  refine SeqK.nil ?_
  refine AW.seq ?_
  refine AW.reg ?_
  refine SeqK.q (q_mvC rfl rfl) rfl rfl rfl ?_
  refine SeqK.callE rfl rfl rfl rfl Fx.fn11 rfl (runS _ ops z hl) (fun _ _ ⟨_, h, _⟩ => by rw [h]; rfl) (fun x14 H14 q14 => ?_)
  obtain ⟨c, rfl, G⟩ := q14
  refine SeqK.q (q_mvT rfl rfl) rfl rfl rfl ?_
  refine SeqK.q (q_extract _ rfl rfl rfl) rfl rfl rfl ?_
  refine SeqK.q (q_extract _ rfl rfl rfl) rfl rfl rfl ?_
  refine SeqK.q (q_extract _ rfl rfl rfl) rfl rfl rfl ?_
  refine SeqK.r (b_alloc (r := [_]) rfl rfl Fx.ze26 rfl rfl rfl rfl) rfl ?_
  refine SeqK.q (q_asC rfl rfl) rfl rfl rfl ?_
  refine SeqK.r (b_store (r := [_]) rfl rfl Fx.ty26 rfl rfl rfl rfl rfl rfl) rfl ?_
  refine SeqK.q (q_asC rfl rfl) rfl rfl rfl ?_
  refine SeqK.nil ?_
  refine AW.seq ?_
  refine AW.seq ?_
  refine AW.reg ?_
  refine SeqK.callE rfl rfl rfl rfl Fx.fn12 rfl (awakeF _) (fun _ _ h => by rw [h.1]; rfl) (fun x18 H18 q18 => ?_)
  obtain ⟨rfl, hF18⟩ := q18
  replace G := G.full hF18
  refine SeqK.q (q_not rfl rfl) rfl rfl rfl ?_
  refine SeqK.q (q_mvC rfl rfl) rfl rfl rfl ?_
  refine SeqK.on (q_mvC rfl rfl) rfl rfl rfl rfl rfl ?_
  refine SeqK.on (q_eqlN rfl rfl rfl Fx.nk23) rfl rfl rfl rfl rfl ?_
  refine SeqK.q (q_pkF rfl rfl rfl) rfl rfl rfl ?_
  refine SeqK.nil ?_
  refine AW.condF rfl ?_
  refine AW.skip ?_
  refine AW.seq ?_
  rcases hd : dist (runE ops) (IntKind.i64.wrap n) (IntKind.i64.wrap n) with _ | d
  ·
    have hrl := runE_len (ops := ops)
    refine AW.reg ?_
    refine SeqK.q (q_mvC rfl rfl) rfl rfl rfl ?_
    refine SeqK.q (q_mvC rfl rfl) rfl rfl rfl ?_
    refine SeqK.q (q_conv _ rfl Fx.un3 rfl (rfl) ⟨_, Fx.un37⟩) rfl rfl rfl ?_
    refine SeqK.r (g_call rfl Fx.fn22 rfl (cycN _ c _ _ G (by omega) hd) rfl rfl rfl) rfl ?_
    refine SeqK.q (q_asC rfl rfl) rfl rfl rfl ?_
    refine SeqK.nil ?_
    refine AW.seq ?_
    refine AW.seq ?_
    refine AW.reg ?_
    refine SeqK.q (q_mvC rfl rfl) rfl rfl rfl ?_
    refine SeqK.q (q_lenN rfl Fx.un30 rfl) rfl rfl rfl ?_
    refine SeqK.q (q_eql rfl rfl rfl) rfl rfl rfl ?_
    refine SeqK.nil ?_
    refine AW.condD rfl (fun h31 => ?_) (fun h31 => ?_)
    ·
      refine AW.seq ?_
      refine AW.reg ?_
      refine SeqK.q (q_mvC rfl rfl) rfl rfl rfl ?_
      refine SeqK.q (q_mvC rfl rfl) rfl rfl rfl ?_
      refine SeqK.q (q_conv _ rfl Fx.un3 rfl (rfl) ⟨_, Fx.un37⟩) rfl rfl rfl ?_
      refine SeqK.q (q_mvC rfl rfl) rfl rfl rfl ?_
      refine SeqK.q (q_conv _ rfl Fx.un3 rfl (rfl) ⟨_, Fx.un37⟩) rfl rfl rfl ?_
      refine SeqK.r (g_call rfl Fx.fn20 rfl (reachesn _ c _ _ _ G (by omega) hd) rfl rfl rfl) rfl ?_
      refine SeqK.q (q_not rfl rfl) rfl rfl rfl ?_
      refine SeqK.q (q_asC rfl rfl) rfl rfl rfl ?_
      refine SeqK.nil ?_
      refine AW.ret ?_
      exact fin_x (x := .c _) (_) (.tmp rfl .nil) rfl (fun _ _ h => h) (rfl)
    ·
      exact absurd rfl h31
  ·
    have hrl := runE_len (ops := ops)
    refine AW.reg ?_
    refine SeqK.q (q_mvC rfl rfl) rfl rfl rfl ?_
    refine SeqK.q (q_mvC rfl rfl) rfl rfl rfl ?_
    refine SeqK.q (q_conv _ rfl Fx.un3 rfl (rfl) ⟨_, Fx.un37⟩) rfl rfl rfl ?_
    refine SeqK.r (g_call rfl Fx.fn22 rfl (cycS _ c _ _ _ G (by omega) rfl (fun e => by rw [cyc_nil.1 e] at hd; cases hd)) rfl rfl rfl) rfl ?_
    refine SeqK.q (q_asC rfl rfl) rfl rfl rfl ?_
    refine SeqK.nil ?_
    refine AW.seq ?_
    refine AW.seq ?_
    refine AW.reg ?_
    refine SeqK.q (q_mvC rfl rfl) rfl rfl rfl ?_
    refine SeqK.q (q_len rfl Fx.un30 rfl) rfl rfl rfl ?_
    refine SeqK.q (q_eql rfl rfl rfl) rfl rfl rfl ?_
    refine SeqK.nil ?_
    refine AW.condD rfl (fun h31 => ?_) (fun h31 => ?_)
    ·
      exfalso
      have h8 := (cyc_facts (lt := ltI) hd).1
      have h9 := (dist_some.1 hd).pos
      simp at h31
      rw [h31] at h8
      simp at h8
      omega
    ·
      refine AW.skip ?_
      refine AW.seq ?_
      have hdl := dist_le hd
      have hd1 := (dist_some.1 hd).pos
      obtain ⟨hcl, _, hce⟩ := cyc_facts (lt := ltI) hd
      have hc0 : 0 < (cyc ltI (runE ops) (IntKind.i64.wrap n)).length := by omega
      refine AW.reg ?_
      refine SeqK.r (b_makeMap (.int .i64) rfl rfl rfl rfl) rfl ?_
      refine SeqK.q (q_asM rfl rfl) rfl rfl rfl ?_
      refine SeqK.nil ?_
      refine AW.seq ?_
      refine AW.seq ?_
      refine AW.reg ?_
      refine SeqK.q (q_mvC rfl rfl) rfl rfl rfl ?_
      refine SeqK.q (q_len rfl Fx.un30 rfl) rfl rfl rfl ?_
      refine SeqK.q (q_mvC rfl rfl) rfl rfl rfl ?_
      refine SeqK.nil ?_
      refine AW.block ?_
      refine AW.loop (fun (i : Nat) s => ∃ (em : List ME) (cm : Nat) (X : List Int), (i ≤ (cyc ltI (runE ops) (IntKind.i64.wrap n)).length ∧ SetAt ndI em cm X ∧ ∀ x ∈ X, ∃ j, j < i ∧ (cyc ltI (runE ops) (IntKind.i64.wrap n))[j]? = some x) ∧ s = ⟨81, sp [(1, .c (.a (.t (.v (.int .i8 n))))), (5, .c (.a (.bp c 0))), (6, .lp 6 0), (8, .c (iL .nn (cyc ltI (runE ops) (IntKind.i64.wrap n)))), (9, .lmp 39), (40, .c (iL .nn (cyc ltI (runE ops) (IntKind.i64.wrap n)))), (41, iX .i64 ((((cyc ltI (runE ops) (IntKind.i64.wrap n)).map i64T).length : Nat) : Int)), (42, iX .i64 ((i : Nat) : Int))], lv [(6, .box [.t (.sl .un 2 ((runE ops).map eT))]), (39, .map ndI.kk em cm)], H18⟩) (fun i => (cyc ltI (runE ops) (IntKind.i64.wrap n)).length - i) 0 ⟨_, Wk.keep 81 [(1, .c (.a (.t (.v (.int .i8 n))))), (5, .c (.a (.bp c 0))), (6, .lp 6 0), (8, .c (iL .nn (cyc ltI (runE ops) (IntKind.i64.wrap n)))), (9, .lmp 39), (40, .c (iL .nn (cyc ltI (runE ops) (IntKind.i64.wrap n)))), (41, iX .i64 ((((cyc ltI (runE ops) (IntKind.i64.wrap n)).map i64T).length : Nat) : Int)), (42, iX .i64 ((((0 : Nat)) : Nat) : Int))] [(6, .box [.t (.sl .un 2 ((runE ops).map eT))]), (39, .map ndI.kk ([]) (0))] (H18) rfl ⟨rfl, rfl, rfl, rfl, rfl, rfl, rfl, rfl, trivial⟩ ⟨rfl, rfl, trivial⟩ (fun _ _ h => h) rfl, [], 0, [], ⟨Nat.zero_le _, ⟨.nil, fun x => by simp; rfl⟩, fun x h => by simp at h⟩, rfl⟩ (fun i s hs => ?_)
      obtain ⟨em, cm, X, ⟨hi0, hM, hX⟩, rfl⟩ := hs
      refine AW.seq ?_
      refine AW.reg ?_
      refine SeqK.q (q_lss rfl rfl rfl) rfl rfl rfl ?_
      refine SeqK.nil ?_
      refine AW.seq ?_
      refine AW.condD rfl (fun h43 => ?_) (fun h43 => ?_)
      ·
        have hi : i < (cyc ltI (runE ops) (IntKind.i64.wrap n)).length := by simpa using h43
        have hj : (i + 1) % (cyc ltI (runE ops) (IntKind.i64.wrap n)).length < (cyc ltI (runE ops) (IntKind.i64.wrap n)).length := Nat.mod_lt _ hc0
        have hedge : ((cyc ltI (runE ops) (IntKind.i64.wrap n))[i], (cyc ltI (runE ops) (IntKind.i64.wrap n))[(i + 1) % (cyc ltI (runE ops) (IntKind.i64.wrap n)).length]) ∈ runE ops := hce i _ _ (List.getElem?_eq_getElem hi) (by rw [← hcl]; exact List.getElem?_eq_getElem hj)
        have hnx : (cyc ltI (runE ops) (IntKind.i64.wrap n))[i] ∉ X := fun h8 => by
          obtain ⟨j9, h7, h6⟩ := hX _ h8
          have := cyc_inj (lt := ltI) h6 (List.getElem?_eq_getElem hi)
          omega
        refine AW.skip ?_
        refine AW.seq ?_
        refine AW.block ?_
        refine AW.seq ?_
        refine AW.reg ?_
        refine SeqK.q (q_mvC rfl rfl) rfl rfl rfl ?_
        refine SeqK.q (q_index _ rfl Fx.sl30 rfl rfl (by omega) (idx_map (f := i64T) hi)) rfl rfl rfl ?_
        refine SeqK.q (q_load (.a _) rfl Fx.ty3 rfl rfl rfl) rfl rfl rfl ?_
        refine SeqK.q (q_asC rfl rfl) rfl rfl rfl ?_
        refine SeqK.q (q_asC rfl rfl) rfl rfl rfl ?_
        refine SeqK.nil ?_
        refine AW.seq ?_
        refine AW.seq ?_
        refine AW.draw Fx.mo ?_
        refine LexK.q (q_mvM rfl rfl) rfl rfl rfl ?_
        refine LexK.q (q_mvC rfl rfl) rfl rfl rfl ?_
        refine LexK.r (b_lookup (r := .c (.a _)) (.int Fx.un3) rfl Fx.un48 Fx.ze4 rfl rfl rfl rfl ((hM.get _).trans (if_neg hnx)) rfl rfl rfl) rfl ?_
        refine LexK.q (q_mvC rfl rfl) rfl rfl rfl ?_
        refine LexK.rOn (b_load (r := .g [_]) rfl Fx.ty26 rfl rfl rfl rfl rfl rfl) rfl rfl rfl ?_
        refine LexK.on (q_mvC rfl rfl) rfl rfl rfl rfl rfl ?_
        refine LexK.on (q_mvC rfl rfl) rfl rfl rfl rfl rfl ?_
        refine LexK.on (q_mvC rfl rfl) rfl rfl rfl rfl rfl ?_
        refine LexK.on (q_add _ rfl rfl rfl ((by rw [w64 (by omega) (by omega)]; omega : IntKind.i64.wrap _ = ((i + 1 : Nat) : Int)))) rfl rfl rfl rfl rfl ?_
        refine LexK.on (q_mvC rfl rfl) rfl rfl rfl rfl rfl ?_
        refine LexK.on (q_len rfl Fx.un30 rfl) rfl rfl rfl rfl rfl ?_
        refine LexK.on (q_remC (c := ((((i + 1) % (cyc ltI (runE ops) (IntKind.i64.wrap n)).length : Nat)) : Int)) rfl rfl rfl (by rw [List.length_map]; omega) (by rw [List.length_map]; exact (Int.ofNat_tmod (i + 1) _).symm)) rfl rfl rfl rfl rfl ?_
        refine LexK.on (q_index _ rfl Fx.sl30 rfl rfl (by omega) (idx_map (f := i64T) hj)) rfl rfl rfl rfl rfl ?_
        refine LexK.on (q_load (.a _) rfl Fx.ty3 rfl rfl rfl) rfl rfl rfl rfl rfl ?_
        refine LexK.on (q_call _ rfl Fx.fn24 rfl (has_yes _ .un _ _ (by omega) hedge) rfl) rfl rfl rfl rfl rfl ?_
        refine LexK.on (q_not rfl rfl) rfl rfl rfl rfl rfl ?_
        refine LexK.q (q_pkF rfl rfl rfl) rfl rfl rfl ?_
        refine LexK.nil (by kernel_rfl) ?_
        refine AW.condF rfl ?_
        refine AW.skip ?_
        refine AW.reg ?_
        refine SeqK.q (q_mvM rfl rfl) rfl rfl rfl ?_
        refine SeqK.q (q_mvC rfl rfl) rfl rfl rfl ?_
        refine SeqK.r (b_mapUpdate (.int Fx.un3) rfl rfl Fx.un48 rfl rfl rfl rfl rfl) rfl ?_
        refine SeqK.nil ?_
        refine AW.reg ?_
        refine SeqK.q (q_add _ rfl rfl rfl (w64 (by omega) (by omega))) rfl rfl rfl ?_
        refine SeqK.q (q_mvC rfl rfl) rfl rfl rfl ?_
        refine SeqK.nil ?_
        exact ⟨i + 1, _, Wk.keep 81 [(1, .c (.a (.t (.v (.int .i8 n))))), (5, .c (.a (.bp c 0))), (6, .lp 6 0), (8, .c (iL .nn (cyc ltI (runE ops) (IntKind.i64.wrap n)))), (9, .lmp 39), (40, .c (iL .nn (cyc ltI (runE ops) (IntKind.i64.wrap n)))), (41, iX .i64 ((((cyc ltI (runE ops) (IntKind.i64.wrap n)).map i64T).length : Nat) : Int)), (42, iX .i64 (((i + 1) : Nat) : Int))] [(6, .box [.t (.sl .un 2 ((runE ops).map eT))]), (39, .map ndI.kk ((mset (ndI.nv (cyc ltI (runE ops) (IntKind.i64.wrap n))[i]) yes cm em)) ((mclock (ndI.nv (cyc ltI (runE ops) (IntKind.i64.wrap n))[i]) em cm)))] (H18) rfl ⟨rfl, rfl, rfl, rfl, rfl, rfl, rfl, rfl, trivial⟩ ⟨rfl, rfl, trivial⟩ (fun _ _ h => h) rfl, by omega, (mset (ndI.nv (cyc ltI (runE ops) (IntKind.i64.wrap n))[i]) yes cm em), (mclock (ndI.nv (cyc ltI (runE ops) (IntKind.i64.wrap n))[i]) em cm), ((cyc ltI (runE ops) (IntKind.i64.wrap n))[i] :: X), ⟨hi, hM.set _, fun x hx => by
          rcases List.mem_cons.1 hx with rfl | hx
          · exact ⟨i, by omega, List.getElem?_eq_getElem hi⟩
          · obtain ⟨j9, h7, h6⟩ := hX x hx
            exact ⟨j9, by omega, h6⟩⟩, rfl⟩
      ·
        refine AW.exit ?_
        refine eth_e ?_
        refine eth_e ?_
        refine exit_here ?_
        refine AW.seq ?_
        refine AW.reg ?_
        refine SeqK.q (q_mvC rfl rfl) rfl rfl rfl ?_
        refine SeqK.q (q_index _ rfl Fx.sl30 rfl rfl (by omega) (idx_map (f := i64T) (k := 0) hc0)) rfl rfl rfl ?_
        refine SeqK.q (q_load (.a _) rfl Fx.ty3 rfl rfl rfl) rfl rfl rfl ?_
        refine SeqK.q (q_mvC rfl rfl) rfl rfl rfl ?_
        refine SeqK.q (q_conv _ rfl Fx.un3 rfl (rfl) ⟨_, Fx.un37⟩) rfl rfl rfl ?_
        refine SeqK.q (q_eql rfl rfl rfl) rfl rfl rfl ?_
        refine SeqK.qD (q_mvC rfl rfl) rfl rfl rfl (fun g73 => ?_) (fun g73 => ?_)
        ·
          refine SeqK.on (q_mvC rfl rfl) rfl rfl rfl rfl rfl ?_
          refine SeqK.on (q_mvC rfl rfl) rfl rfl rfl rfl rfl ?_
          refine SeqK.on (q_conv _ rfl Fx.un3 rfl (rfl) ⟨_, Fx.un37⟩) rfl rfl rfl rfl rfl ?_
          refine SeqK.on (q_mvC rfl rfl) rfl rfl rfl rfl rfl ?_
          refine SeqK.on (q_conv _ rfl Fx.un3 rfl (rfl) ⟨_, Fx.un37⟩) rfl rfl rfl rfl rfl ?_
          refine SeqK.rOn (g_call rfl Fx.fn20 rfl (reachY _ c _ _ _ G (by omega) (by rw [hd]; simp)) rfl rfl rfl) rfl rfl rfl ?_
          refine SeqK.q (q_pkT rfl rfl rfl) rfl rfl rfl ?_
          refine SeqK.q (q_asC rfl rfl) rfl rfl rfl ?_
          refine SeqK.nil ?_
          refine AW.ret ?_
          exact fin_x (x := .c _) (_) (.tmp rfl .nil) rfl (fun _ _ h => h) (rfl)
        ·
          exact absurd (by
            obtain ⟨r, hr⟩ := cyc_head (lt := ltI) (L := runE ops) (n := IntKind.i64.wrap n) (fun e => by rw [e] at hc0; simp at hc0)
            have h8 : (cyc ltI (runE ops) (IntKind.i64.wrap n))[0]? = some (IntKind.i64.wrap n) := by rw [hr]; rfl
            exact (List.getElem?_eq_some_iff.1 h8).2) g73

theorem cyclic_law (ops : List Act') (n : Int) (H : Heap) : E.Spec Try.prog 7 [opsC .un ops, .a (.t (.v (.int .i8 n)))] H fun x _ => x = bX true := by
  by_cases hl : 30 < ops.length
  · exact cyclic_lawB H ops .un n hl
  · exact cyclic_lawS H ops .un n hl

end Go.Proofs.Ytikcmjamioopbaa.W
namespace Go.Proofs.Ytikcmjamioopbaa.W
open Go.RowKit E M
set_option linter.unusedVariables false
set_option linter.unusedSimpArgs false
set_option linter.unusedSectionVars false
theorem cycU (H : Heap) (k : Nat) (L : GE) (n : Int) (G : Gr ndI H k L) (hL : L.length ≤ 400000) : E.Spec Try.prog 22 [.a (.bp k 0), iC n] H fun x H' => x = .c (iL .un (cyc ltI L n)) ∧ H' = H :=
  Spec.xw (cycleI H k L n G hL) fun x H' ⟨h1, h2⟩ => by
    rcases h1 with ⟨h3, h4⟩ | ⟨_, h4⟩
    · exact ⟨_, by rw [h4]; exact XW.nilU (sz := 1), by rw [cyc_nil.2 h3]; rfl, h2⟩
    · exact ⟨_, by rw [h4]; exact XW.un, rfl, h2⟩
theorem cyc_node {L : GE} {n g : Int} (h : g ∈ cyc ltI L n) : g ∈ nodes ltI L := by
  obtain ⟨j, hj, e⟩ := List.getElem_of_mem h
  cases hd : dist L n n with
  | none => rw [cyc_nil.2 hd] at h; simp at h
  | some d =>
    obtain ⟨h1, _, h2⟩ := cyc_facts (lt := ltI) hd
    have hp := (dist_some.1 hd).pos
    have hm : (j + 1) % d < (cyc ltI L n).length := by rw [h1]; exact Nat.mod_lt _ hp
    have := h2 j g _ (by rw [List.getElem?_eq_getElem hj, e]) (List.getElem?_eq_getElem hm)
    exact mem_nodes.2 ⟨_, this, .inl rfl⟩
theorem nodes_rm {L : GE} {g : Int} (h : g ∈ nodes ltI L) : (nodes ltI (rmE L g)).length < (nodes ltI L).length := by
  have h1 := len_sub (g :: nodes ltI (rmE L g)) (nodes ltI L) (List.nodup_cons.2 ⟨fun hg => by
    obtain ⟨e, he, h2⟩ := mem_nodes.1 hg
    obtain ⟨_, h3, h4⟩ := mem_rmE.1 he
    rcases h2 with h2 | h2
    · exact h3 h2
    · exact h4 h2, (nodes_asc ordI).nodup ordI⟩) fun x hx => by
    rcases List.mem_cons.1 hx with rfl | hx
    · exact h
    · obtain ⟨e, he, h2⟩ := mem_nodes.1 hx
      exact mem_nodes.2 ⟨e, (mem_rmE.1 he).1, h2⟩
  simp at h1; omega
theorem max_mem {l : List Int} {a b : Int} (ha : a ∈ l) (hb : b ∈ l) : max a b ∈ l := by
  by_cases h : a ≤ b
  · rw [Int.max_eq_right h]; exact hb
  · rw [Int.max_eq_left (by omega)]; exact ha
theorem rm_dist {L : GE} {g x : Int} (h : dist L x x = none) : dist (rmE L g) x x = none := dist_sub (fun e he => (mem_rmE.1 he).1) h
theorem cyc_len {L : GE} {n : Int} : (cyc ltI L n).length ≤ L.length + 1 := by
  cases hd : dist L n n with
  | none => rw [cyc_nil.2 hd]; simp
  | some d => rw [(cyc_facts (lt := ltI) hd).1]; exact dist_le hd

set_option maxRecDepth 20000 in
theorem victims_lawB (H : Heap) (ops : List Act') (z : Nz)  (hl : 30 < ops.length) : E.Spec Try.prog 8 [opsC z ops] H fun x H' => x = bX true := by
  refine Spec.enter Try.func8 rfl ?_
  refine AW.wk (Wk.keep 80 [(0, .c (opsC z ops))] [] (H) rfl ⟨rfl, trivial⟩ trivial (fun _ _ h => h) rfl) ?_
  refine AW.seq ?_
  refine AW.reg ?_
  refine SeqK.q (q_asC rfl rfl) rfl rfl rfl ?_
  refine SeqK.nil ?_
  refine AW.seq ?_
  refine AW.reg ?_
  refine SeqK.q (q_mvC rfl rfl) rfl rfl rfl ?_
  refine SeqK.callE rfl rfl rfl rfl Fx.fn11 rfl (runB _ ops z hl) (fun _ _ h => by rw [h]; rfl) (fun x18 H18 q18 => ?_)
  have h18 := q18
  subst h18
  refine SeqK.q (q_mvT rfl rfl) rfl rfl rfl ?_
  refine SeqK.q (q_extract _ rfl rfl rfl) rfl rfl rfl ?_
  refine SeqK.q (q_extract _ rfl rfl rfl) rfl rfl rfl ?_
  refine SeqK.q (q_extract _ rfl rfl rfl) rfl rfl rfl ?_
  refine SeqK.r (b_alloc (r := [_]) rfl rfl Fx.ze26 rfl rfl rfl rfl) rfl ?_
  refine SeqK.q (q_asC rfl rfl) rfl rfl rfl ?_
  refine SeqK.r (b_store (r := [_]) rfl rfl Fx.ty26 rfl rfl rfl rfl rfl rfl) rfl ?_
  refine SeqK.q (q_asC rfl rfl) rfl rfl rfl ?_
  refine SeqK.nil ?_
  refine AW.seq ?_
  refine AW.seq ?_
  refine AW.reg ?_
  refine SeqK.callE rfl rfl rfl rfl Fx.fn12 rfl (awakeF _) (fun _ _ h => by rw [h.1]; rfl) (fun x22 H22 q22 => ?_)
  obtain ⟨rfl, hF22⟩ := q22
  refine SeqK.q (q_not rfl rfl) rfl rfl rfl ?_
  refine SeqK.q (q_mvC rfl rfl) rfl rfl rfl ?_
  refine SeqK.on (q_mvC rfl rfl) rfl rfl rfl rfl rfl ?_
  refine SeqK.on (q_eqlN rfl rfl rfl Fx.nk23) rfl rfl rfl rfl rfl ?_
  refine SeqK.q (q_pkF rfl rfl rfl) rfl rfl rfl ?_
  refine SeqK.nil ?_
  refine AW.condT rfl ?_
  refine AW.seq ?_
  refine AW.reg ?_
  refine SeqK.callE rfl rfl rfl rfl Fx.fn12 rfl (awakeF _) (fun _ _ h => by rw [h.1]; rfl) (fun x28 H28 q28 => ?_)
  obtain ⟨rfl, hF28⟩ := q28
  refine SeqK.q (q_asC rfl rfl) rfl rfl rfl ?_
  refine SeqK.nil ?_
  refine AW.ret ?_
  exact fin_x (x := .c _) (_) (.tmp rfl .nil) rfl (fun _ _ h => h) (rfl)
set_option maxRecDepth 20000 in
theorem victims_lawS (H : Heap) (ops : List Act') (z : Nz)  (hl : ¬ 30 < ops.length) : E.Spec Try.prog 8 [opsC z ops] H fun x H' => x = bX true := by
  refine Spec.enter Try.func8 rfl ?_
  refine AW.wk (Wk.keep 80 [(0, .c (opsC z ops))] [] (H) rfl ⟨rfl, trivial⟩ trivial (fun _ _ h => h) rfl) ?_
  refine AW.seq ?_
  refine AW.reg ?_
  refine SeqK.q (q_asC rfl rfl) rfl rfl rfl ?_
  refine SeqK.nil ?_
  refine AW.seq ?_
  refine AW.reg ?_
  refine SeqK.q (q_mvC rfl rfl) rfl rfl rfl ?_
  refine SeqK.callE rfl rfl rfl rfl Fx.fn11 rfl (runS _ ops z hl) (fun _ _ ⟨_, h, _⟩ => by rw [h]; rfl) (fun x18 H18 q18 => ?_)
  obtain ⟨c, rfl, G⟩ := q18
  refine SeqK.q (q_mvT rfl rfl) rfl rfl rfl ?_
  refine SeqK.q (q_extract _ rfl rfl rfl) rfl rfl rfl ?_
  refine SeqK.q (q_extract _ rfl rfl rfl) rfl rfl rfl ?_
  refine SeqK.q (q_extract _ rfl rfl rfl) rfl rfl rfl ?_
  refine SeqK.r (b_alloc (r := [_]) rfl rfl Fx.ze26 rfl rfl rfl rfl) rfl ?_
  refine SeqK.q (q_asC rfl rfl) rfl rfl rfl ?_
  refine SeqK.r (b_store (r := [_]) rfl rfl Fx.ty26 rfl rfl rfl rfl rfl rfl) rfl ?_
  refine SeqK.q (q_asC rfl rfl) rfl rfl rfl ?_
  refine SeqK.nil ?_
  refine AW.seq ?_
  refine AW.seq ?_
  refine AW.reg ?_
  refine SeqK.callE rfl rfl rfl rfl Fx.fn12 rfl (awakeF _) (fun _ _ h => by rw [h.1]; rfl) (fun x22 H22 q22 => ?_)
  obtain ⟨rfl, hF22⟩ := q22
  replace G := G.full hF22
  refine SeqK.q (q_not rfl rfl) rfl rfl rfl ?_
  refine SeqK.q (q_mvC rfl rfl) rfl rfl rfl ?_
  refine SeqK.on (q_mvC rfl rfl) rfl rfl rfl rfl rfl ?_
  refine SeqK.on (q_eqlN rfl rfl rfl Fx.nk23) rfl rfl rfl rfl rfl ?_
  refine SeqK.q (q_pkF rfl rfl rfl) rfl rfl rfl ?_
  refine SeqK.nil ?_
  refine AW.condF rfl ?_
  refine AW.skip ?_
  refine AW.seq ?_
  have hrl := runE_len (ops := ops)
  have hnl := nodes_len (lt := ltI) (L := runE ops)
  refine AW.reg ?_
  refine SeqK.r (b_load (r := .g [_]) rfl Fx.ty26 rfl rfl rfl rfl rfl rfl) rfl ?_
  refine SeqK.q (q_call _ rfl Fx.fn13 rfl (nodes_any _ (by omega)) rfl) rfl rfl rfl ?_
  refine SeqK.q (q_asC rfl rfl) rfl rfl rfl ?_
  refine SeqK.nil ?_
  refine AW.seq ?_
  refine AW.reg ?_
  refine SeqK.q (q_asC rfl rfl) rfl rfl rfl ?_
  refine SeqK.nil ?_
  refine AW.seq ?_
  refine AW.seq ?_
  refine AW.reg ?_
  refine SeqK.q (q_mvC rfl rfl) rfl rfl rfl ?_
  refine SeqK.q (q_len rfl Fx.un30 rfl) rfl rfl rfl ?_
  refine SeqK.q (q_mvC rfl rfl) rfl rfl rfl ?_
  refine SeqK.nil ?_
  refine AW.block ?_
  refine AW.loop (fun (i : Nat) s => ∃ (Hx : Heap) (L : GE) (r : Nat), (i ≤ (nodes ltI (runE ops)).length ∧ (Gr ndI Hx c L ∧ L.length ≤ 30 ∧ r + (nodes ltI L).length ≤ (nodes ltI (runE ops)).length) ∧ ∀ j (h : j < (nodes ltI (runE ops)).length), j < i → dist L (nodes ltI (runE ops))[j] (nodes ltI (runE ops))[j] = none) ∧ s = ⟨80, sp [(3, .c (.a (.bp c 0))), (6, .c (iL .un (nodes ltI (runE ops)))), (7, iX .i64 ((r : Nat) : Int)), (31, .c (iL .un (nodes ltI (runE ops)))), (32, iX .i64 ((((nodes ltI (runE ops)).map i64T).length : Nat) : Int)), (33, iX .i64 ((i : Nat) : Int))], lv [], Hx⟩) (fun i => (nodes ltI (runE ops)).length - i) 0 ⟨_, Wk.keep 80 [(3, .c (.a (.bp c 0))), (6, .c (iL .un (nodes ltI (runE ops)))), (7, iX .i64 (((0) : Nat) : Int)), (31, .c (iL .un (nodes ltI (runE ops)))), (32, iX .i64 ((((nodes ltI (runE ops)).map i64T).length : Nat) : Int)), (33, iX .i64 ((((0 : Nat)) : Nat) : Int))] [] ((_)) rfl ⟨rfl, rfl, rfl, rfl, rfl, rfl, trivial⟩ trivial (fun _ _ h => h) rfl, _, (runE ops), 0, ⟨Nat.zero_le _, ⟨G, by omega, by omega⟩, fun _ _ h => absurd h (Nat.not_lt_zero _)⟩, rfl⟩ (fun i s hs => ?_)
  obtain ⟨Hx, L, r, ⟨hi0, ⟨G, hL, hr⟩, hno⟩, rfl⟩ := hs
  refine AW.seq ?_
  refine AW.reg ?_
  refine SeqK.q (q_lss rfl rfl rfl) rfl rfl rfl ?_
  refine SeqK.nil ?_
  refine AW.seq ?_
  refine AW.condD rfl (fun h34 => ?_) (fun h34 => ?_)
  ·
    have hi : i < (nodes ltI (runE ops)).length := by simpa using h34
    refine AW.skip ?_
    refine AW.seq ?_
    refine AW.block ?_
    refine AW.seq ?_
    refine AW.reg ?_
    refine SeqK.q (q_index _ rfl Fx.sl30 rfl rfl (by omega) (idx_map (f := i64T) hi)) rfl rfl rfl ?_
    refine SeqK.q (q_load (.a _) rfl Fx.ty3 rfl rfl rfl) rfl rfl rfl ?_
    refine SeqK.q (q_asC rfl rfl) rfl rfl rfl ?_
    refine SeqK.nil ?_
    refine AW.seq ?_
    refine AW.reg ?_
    refine SeqK.q (q_mvC rfl rfl) rfl rfl rfl ?_
    refine SeqK.q (q_mvC rfl rfl) rfl rfl rfl ?_
    refine SeqK.r (g_call rfl Fx.fn22 rfl (cycU _ c _ _ G (by omega)) rfl rfl rfl) rfl ?_
    refine SeqK.q (q_asC rfl rfl) rfl rfl rfl ?_
    refine SeqK.nil ?_
    refine AW.block ?_
    refine AW.loop (fun (m : Nat) s => ∃ (Hx : Heap) (L : GE) (r : Nat), ((Gr ndI Hx c L ∧ L.length ≤ 30 ∧ r + (nodes ltI L).length ≤ (nodes ltI (runE ops)).length) ∧ (∀ j (h : j < (nodes ltI (runE ops)).length), j < i → dist L (nodes ltI (runE ops))[j] (nodes ltI (runE ops))[j] = none) ∧ m = (nodes ltI L).length) ∧ s = ⟨80, sp [(3, .c (.a (.bp c 0))), (6, .c (iL .un (nodes ltI (runE ops)))), (7, iX .i64 ((r : Nat) : Int)), (31, .c (iL .un (nodes ltI (runE ops)))), (32, iX .i64 ((((nodes ltI (runE ops)).map i64T).length : Nat) : Int)), (33, iX .i64 ((i : Nat) : Int)), (9, .c (iC (nodes ltI (runE ops))[i])), (10, .c (iL .un (cyc ltI L (nodes ltI (runE ops))[i])))], lv [], Hx⟩) (fun m => m) _ ⟨_, Wk.keep 80 [(3, .c (.a (.bp c 0))), (6, .c (iL .un (nodes ltI (runE ops)))), (7, iX .i64 (((r) : Nat) : Int)), (31, .c (iL .un (nodes ltI (runE ops)))), (32, iX .i64 ((((nodes ltI (runE ops)).map i64T).length : Nat) : Int)), (33, iX .i64 ((i : Nat) : Int)), (9, .c (iC (nodes ltI (runE ops))[i])), (10, .c (iL .un (cyc ltI (L) (nodes ltI (runE ops))[i])))] [] ((Hx)) rfl ⟨rfl, rfl, rfl, rfl, rfl, rfl, rfl, rfl, trivial⟩ trivial (fun _ _ h => h) rfl, Hx, L, r, ⟨⟨G, hL, hr⟩, hno, rfl⟩, rfl⟩ (fun m s hs => ?_)
    obtain ⟨Hx, L, r, ⟨⟨G, hL, hr⟩, hno, hm⟩, rfl⟩ := hs
    refine AW.seq ?_
    refine AW.seq ?_
    refine AW.reg ?_
    refine SeqK.q (q_mvC rfl rfl) rfl rfl rfl ?_
    refine SeqK.q (q_len rfl Fx.un30 rfl) rfl rfl rfl ?_
    refine SeqK.q (q_gtr rfl rfl rfl) rfl rfl rfl ?_
    refine SeqK.nil ?_
    refine AW.condD rfl (fun h42 => ?_) (fun h42 => ?_)
    ·
      have hc0 : 0 < (cyc ltI L (nodes ltI (runE ops))[i]).length := by simpa using h42
      have hcl := cyc_len (L := L) (n := (nodes ltI (runE ops))[i])
      refine AW.skip ?_
      refine AW.seq ?_
      refine AW.block ?_
      refine AW.seq ?_
      refine AW.reg ?_
      refine SeqK.q (q_mvC rfl rfl) rfl rfl rfl ?_
      refine SeqK.q (q_index _ rfl Fx.sl30 rfl rfl (by omega) (idx_map (f := i64T) (k := 0) hc0)) rfl rfl rfl ?_
      refine SeqK.q (q_load (.a _) rfl Fx.ty3 rfl rfl rfl) rfl rfl rfl ?_
      refine SeqK.q (q_asC rfl rfl) rfl rfl rfl ?_
      refine SeqK.nil ?_
      refine AW.seq ?_
      refine AW.seq ?_
      refine AW.reg ?_
      refine SeqK.q (q_mvC rfl rfl) rfl rfl rfl ?_
      refine SeqK.q (q_len rfl Fx.un30 rfl) rfl rfl rfl ?_
      refine SeqK.q (q_mvC rfl rfl) rfl rfl rfl ?_
      refine SeqK.nil ?_
      refine AW.block ?_
      refine AW.loop (fun (j : Nat) s => ∃ (gm : Int), (j ≤ (cyc ltI L (nodes ltI (runE ops))[i]).length ∧ gm ∈ cyc ltI L (nodes ltI (runE ops))[i]) ∧ s = ⟨80, sp [(3, .c (.a (.bp c 0))), (6, .c (iL .un (nodes ltI (runE ops)))), (7, iX .i64 ((r : Nat) : Int)), (31, .c (iL .un (nodes ltI (runE ops)))), (32, iX .i64 ((((nodes ltI (runE ops)).map i64T).length : Nat) : Int)), (33, iX .i64 ((i : Nat) : Int)), (9, .c (iC (nodes ltI (runE ops))[i])), (11, .c (iC gm)), (49, .c (iL .un (cyc ltI L (nodes ltI (runE ops))[i]))), (50, iX .i64 ((((cyc ltI L (nodes ltI (runE ops))[i]).map i64T).length : Nat) : Int)), (51, iX .i64 ((j : Nat) : Int))], lv [], Hx⟩) (fun j => (cyc ltI L (nodes ltI (runE ops))[i]).length - j) 0 ⟨_, Wk.keep 80 [(3, .c (.a (.bp c 0))), (6, .c (iL .un (nodes ltI (runE ops)))), (7, iX .i64 ((r : Nat) : Int)), (31, .c (iL .un (nodes ltI (runE ops)))), (32, iX .i64 ((((nodes ltI (runE ops)).map i64T).length : Nat) : Int)), (33, iX .i64 ((i : Nat) : Int)), (9, .c (iC (nodes ltI (runE ops))[i])), (11, .c (iC (((cyc ltI L (nodes ltI (runE ops))[i])[0])))), (49, .c (iL .un (cyc ltI L (nodes ltI (runE ops))[i]))), (50, iX .i64 ((((cyc ltI L (nodes ltI (runE ops))[i]).map i64T).length : Nat) : Int)), (51, iX .i64 ((((0 : Nat)) : Nat) : Int))] [] (Hx) rfl ⟨rfl, rfl, rfl, rfl, rfl, rfl, rfl, rfl, rfl, rfl, rfl, trivial⟩ trivial (fun _ _ h => h) rfl, ((cyc ltI L (nodes ltI (runE ops))[i])[0]), ⟨Nat.zero_le _, List.getElem_mem hc0⟩, rfl⟩ (fun j s hs => ?_)
      obtain ⟨gm, ⟨hj0, hgm⟩, rfl⟩ := hs
      refine AW.seq ?_
      refine AW.reg ?_
      refine SeqK.q (q_lss rfl rfl rfl) rfl rfl rfl ?_
      refine SeqK.nil ?_
      refine AW.seq ?_
      refine AW.condD rfl (fun h52 => ?_) (fun h52 => ?_)
      ·
        have hj : j < (cyc ltI L (nodes ltI (runE ops))[i]).length := by simpa using h52
        refine AW.skip ?_
        refine AW.seq ?_
        refine AW.block ?_
        refine AW.seq ?_
        refine AW.reg ?_
        refine SeqK.q (q_index _ rfl Fx.sl30 rfl rfl (by omega) (idx_map (f := i64T) hj)) rfl rfl rfl ?_
        refine SeqK.q (q_load (.a _) rfl Fx.ty3 rfl rfl rfl) rfl rfl rfl ?_
        refine SeqK.q (q_asC rfl rfl) rfl rfl rfl ?_
        refine SeqK.nil ?_
        refine AW.reg ?_
        refine SeqK.q (q_mvC rfl rfl) rfl rfl rfl ?_
        refine SeqK.q (q_mvC rfl rfl) rfl rfl rfl ?_
        refine SeqK.q (q_max rfl rfl rfl) rfl rfl rfl ?_
        refine SeqK.q (q_asC rfl rfl) rfl rfl rfl ?_
        refine SeqK.nil ?_
        refine AW.reg ?_
        refine SeqK.q (q_add _ rfl rfl rfl (w64 (by omega) (by omega))) rfl rfl rfl ?_
        refine SeqK.q (q_mvC rfl rfl) rfl rfl rfl ?_
        refine SeqK.nil ?_
        exact ⟨j + 1, _, Wk.keep 80 [(3, .c (.a (.bp c 0))), (6, .c (iL .un (nodes ltI (runE ops)))), (7, iX .i64 ((r : Nat) : Int)), (31, .c (iL .un (nodes ltI (runE ops)))), (32, iX .i64 ((((nodes ltI (runE ops)).map i64T).length : Nat) : Int)), (33, iX .i64 ((i : Nat) : Int)), (9, .c (iC (nodes ltI (runE ops))[i])), (11, .c (iC ((max gm (cyc ltI L (nodes ltI (runE ops))[i])[j])))), (49, .c (iL .un (cyc ltI L (nodes ltI (runE ops))[i]))), (50, iX .i64 ((((cyc ltI L (nodes ltI (runE ops))[i]).map i64T).length : Nat) : Int)), (51, iX .i64 (((j + 1) : Nat) : Int))] [] (Hx) rfl ⟨rfl, rfl, rfl, rfl, rfl, rfl, rfl, rfl, rfl, rfl, rfl, trivial⟩ trivial (fun _ _ h => h) rfl, by omega, (max gm (cyc ltI L (nodes ltI (runE ops))[i])[j]), ⟨hj, max_mem hgm (List.getElem_mem hj)⟩, rfl⟩
      ·
        refine AW.exit ?_
        refine eth_e ?_
        refine eth_e ?_
        refine exit_here ?_
        refine AW.seq ?_
        have hrm := nodes_rm (cyc_node hgm)
        refine AW.reg ?_
        refine SeqK.q (q_mvC rfl rfl) rfl rfl rfl ?_
        refine SeqK.q (q_mvC rfl rfl) rfl rfl rfl ?_
        refine SeqK.callE rfl rfl rfl rfl Fx.fn25 rfl (removeI _ c _ _ G) (fun _ _ h => by rw [h.1]; rfl) (fun x61 H61 q61 => ?_)
        obtain ⟨rfl, G2⟩ := q61
        refine SeqK.nil ?_
        refine AW.seq ?_
        refine AW.reg ?_
        refine SeqK.q (q_mvC rfl rfl) rfl rfl rfl ?_
        refine SeqK.q (q_add _ rfl rfl rfl ((by rw [w64 (by omega) (by omega)]; omega : IntKind.i64.wrap _ = ((r + 1 : Nat) : Int)))) rfl rfl rfl ?_
        refine SeqK.q (q_asC rfl rfl) rfl rfl rfl ?_
        refine SeqK.nil ?_
        refine AW.seq ?_
        refine AW.reg ?_
        refine SeqK.q (q_mvC rfl rfl) rfl rfl rfl ?_
        refine SeqK.q (q_mvC rfl rfl) rfl rfl rfl ?_
        refine SeqK.q (q_len rfl Fx.un30 rfl) rfl rfl rfl ?_
        refine SeqK.q (q_gtr rfl rfl rfl) rfl rfl rfl ?_
        refine SeqK.nil ?_
        refine AW.condD rfl (fun h67 => ?_) (fun h67 => ?_)
        ·
          exfalso
          simp at h67
          omega
        ·
          refine AW.skip ?_
          refine AW.reg ?_
          refine SeqK.q (q_mvC rfl rfl) rfl rfl rfl ?_
          refine SeqK.q (q_mvC rfl rfl) rfl rfl rfl ?_
          refine SeqK.r (g_call rfl Fx.fn22 rfl (cycU _ c _ _ G2 (Nat.le_trans rmE_len (by omega))) rfl rfl rfl) rfl ?_
          refine SeqK.q (q_asC rfl rfl) rfl rfl rfl ?_
          refine SeqK.nil ?_
          exact ⟨(nodes ltI (rmE L gm)).length, _, Wk.keep 80 [(3, .c (.a (.bp c 0))), (6, .c (iL .un (nodes ltI (runE ops)))), (7, iX .i64 ((((r + 1)) : Nat) : Int)), (31, .c (iL .un (nodes ltI (runE ops)))), (32, iX .i64 ((((nodes ltI (runE ops)).map i64T).length : Nat) : Int)), (33, iX .i64 ((i : Nat) : Int)), (9, .c (iC (nodes ltI (runE ops))[i])), (10, .c (iL .un (cyc ltI ((rmE L gm)) (nodes ltI (runE ops))[i])))] [] ((H61)) rfl ⟨rfl, rfl, rfl, rfl, rfl, rfl, rfl, rfl, trivial⟩ trivial (fun _ _ h => h) rfl, by rw [hm]; exact hrm, H61, (rmE L gm), (r + 1), ⟨⟨G2, Nat.le_trans rmE_len hL, by omega⟩, fun j h h9 => rm_dist (hno j h h9), rfl⟩, rfl⟩
    ·
      refine AW.exit ?_
      refine eth_e ?_
      refine eth_e ?_
      refine exit_here ?_
      refine AW.reg ?_
      refine SeqK.q (q_add _ rfl rfl rfl (w64 (by omega) (by omega))) rfl rfl rfl ?_
      refine SeqK.q (q_mvC rfl rfl) rfl rfl rfl ?_
      refine SeqK.nil ?_
      exact ⟨i + 1, _, Wk.keep 80 [(3, .c (.a (.bp c 0))), (6, .c (iL .un (nodes ltI (runE ops)))), (7, iX .i64 (((r) : Nat) : Int)), (31, .c (iL .un (nodes ltI (runE ops)))), (32, iX .i64 ((((nodes ltI (runE ops)).map i64T).length : Nat) : Int)), (33, iX .i64 (((i + 1) : Nat) : Int))] [] ((Hx)) rfl ⟨rfl, rfl, rfl, rfl, rfl, rfl, trivial⟩ trivial (fun _ _ h => h) rfl, by omega, Hx, L, r, ⟨hi, ⟨G, hL, hr⟩, fun j h h9 => by
        rcases Nat.lt_or_ge j i with h10 | h10
        · exact hno j h h10
        · obtain rfl : j = i := by omega
          refine (cyc_nil (lt := ltI)).1 (List.eq_nil_of_length_eq_zero ?_)
          simp at h42; rw [h42]; rfl⟩, rfl⟩
  ·
    refine AW.exit ?_
    refine eth_e ?_
    refine eth_e ?_
    refine exit_here ?_
    refine AW.seq ?_
    refine AW.seq ?_
    refine AW.reg ?_
    refine SeqK.q (q_mvC rfl rfl) rfl rfl rfl ?_
    refine SeqK.q (q_len rfl Fx.un30 rfl) rfl rfl rfl ?_
    refine SeqK.q (q_mvC rfl rfl) rfl rfl rfl ?_
    refine SeqK.nil ?_
    refine AW.block ?_
    replace hno : ∀ j (h : j < (nodes ltI (runE ops)).length), dist L (nodes ltI (runE ops))[j] (nodes ltI (runE ops))[j] = none := fun j h => hno j h (by simp at h34; omega)
    refine AW.loop (fun (k : Nat) s => (k ≤ (nodes ltI (runE ops)).length) ∧ s = ⟨80, sp [(3, .c (.a (.bp c 0))), (69, .c (iL .un (nodes ltI (runE ops)))), (70, iX .i64 ((((nodes ltI (runE ops)).map i64T).length : Nat) : Int)), (71, iX .i64 ((k : Nat) : Int))], lv [], Hx⟩) (fun k => (nodes ltI (runE ops)).length - k) 0 ⟨_, Wk.keep 80 [(3, .c (.a (.bp c 0))), (69, .c (iL .un (nodes ltI (runE ops)))), (70, iX .i64 ((((nodes ltI (runE ops)).map i64T).length : Nat) : Int)), (71, iX .i64 ((((0 : Nat)) : Nat) : Int))] [] (Hx) rfl ⟨rfl, rfl, rfl, rfl, trivial⟩ trivial (fun _ _ h => h) rfl, Nat.zero_le _, rfl⟩ (fun k s hs => ?_)
    obtain ⟨hk0, rfl⟩ := hs
    refine AW.seq ?_
    refine AW.reg ?_
    refine SeqK.q (q_lss rfl rfl rfl) rfl rfl rfl ?_
    refine SeqK.nil ?_
    refine AW.seq ?_
    refine AW.condD rfl (fun h72 => ?_) (fun h72 => ?_)
    ·
      have hk : k < (nodes ltI (runE ops)).length := by simpa using h72
      refine AW.skip ?_
      refine AW.seq ?_
      refine AW.block ?_
      refine AW.seq ?_
      refine AW.reg ?_
      refine SeqK.q (q_index _ rfl Fx.sl30 rfl rfl (by omega) (idx_map (f := i64T) hk)) rfl rfl rfl ?_
      refine SeqK.q (q_load (.a _) rfl Fx.ty3 rfl rfl rfl) rfl rfl rfl ?_
      refine SeqK.q (q_asC rfl rfl) rfl rfl rfl ?_
      refine SeqK.nil ?_
      refine AW.seq ?_
      refine AW.reg ?_
      refine SeqK.q (q_mvC rfl rfl) rfl rfl rfl ?_
      refine SeqK.q (q_mvC rfl rfl) rfl rfl rfl ?_
      refine SeqK.q (q_mvC rfl rfl) rfl rfl rfl ?_
      refine SeqK.r (g_call rfl Fx.fn20 rfl (reachesn _ c _ _ _ G (by omega) (hno k hk)) rfl rfl rfl) rfl ?_
      refine SeqK.nil ?_
      refine AW.condF rfl ?_
      refine AW.skip ?_
      refine AW.reg ?_
      refine SeqK.q (q_add _ rfl rfl rfl (w64 (by omega) (by omega))) rfl rfl rfl ?_
      refine SeqK.q (q_mvC rfl rfl) rfl rfl rfl ?_
      refine SeqK.nil ?_
      exact ⟨k + 1, _, Wk.keep 80 [(3, .c (.a (.bp c 0))), (69, .c (iL .un (nodes ltI (runE ops)))), (70, iX .i64 ((((nodes ltI (runE ops)).map i64T).length : Nat) : Int)), (71, iX .i64 (((k + 1) : Nat) : Int))] [] (Hx) rfl ⟨rfl, rfl, rfl, rfl, trivial⟩ trivial (fun _ _ h => h) rfl, by omega, hk, rfl⟩
    ·
      refine AW.exit ?_
      refine eth_e ?_
      refine eth_e ?_
      refine exit_here ?_
      refine AW.seq ?_
      refine AW.reg ?_
      refine SeqK.q (q_asC rfl rfl) rfl rfl rfl ?_
      refine SeqK.nil ?_
      refine AW.ret ?_
      exact fin_x (x := .c _) (_) (.tmp rfl .nil) rfl (fun _ _ h => h) (rfl)

theorem victims_law (ops : List Act') (H : Heap) : E.Spec Try.prog 8 [opsC .un ops] H fun x _ => x = bX true := by
  by_cases hl : 30 < ops.length
  · exact victims_lawB H ops .un hl
  · exact victims_lawS H ops .un hl

end Go.Proofs.Ytikcmjamioopbaa.W
namespace Go.Proofs.Ytikcmjamioopbaa.W
open Go.RowKit E M
set_option linter.unusedVariables false
set_option linter.unusedSimpArgs false
set_option linter.unusedSectionVars false
/-- what is no part of a graph -/
def Out (o : AO) : Prop := ¬ o.empty ∧ (∀ km, o ≠ .box [.mp km]) ∧ ∀ kk es c, o ≠ .map kk es c
open Classical in
theorem Gr.part {nd : Nd Int} {H : Heap} {k : Nat} {L : GE} (h : Gr nd H k L) : ∃ A B, Gr nd A k L ∧ Part H A B ∧ ∀ j o, H j = some o → Out o → B j = some o := by
  obtain ⟨km, es, ck, g, G⟩ := h
  obtain ⟨A, hA⟩ : ∃ A : Heap, A = fun j => if (∃ o, H j = some o ∧ ¬ Out o) then H j else none := ⟨_, rfl⟩
  have hin : ∀ j o, H j = some o → ¬ Out o → A j = some o := fun j o h1 h2 => by rw [hA]; simp only; rw [if_pos ⟨o, h1, h2⟩]; exact h1
  have hnb : ∀ r, ¬ Out (.box [.mp r]) := fun r h => h.2.1 r rfl
  have hnm : ∀ kk es c, ¬ Out (.map kk es c) := fun kk es c h => h.2.2 kk es c rfl
  refine ⟨A, E.full fun j => if (∃ o, H j = some o ∧ ¬ Out o) then none else H j, ⟨km, es, ck, g, hin _ _ G.box (hnb _), hin _ _ G.map (hnm _ _ _), G.ok, G.get, G.gne, G.ginj, fun a ki hk => ?_, G.no, G.ne⟩, ⟨fun j o h1 => ?_, fun j o h1 => ?_⟩, fun j o h1 h2 => ?_⟩
  · obtain ⟨es3, c3, h1, h2, h3⟩ := G.inn a ki hk
    exact ⟨es3, c3, hin _ _ h1 (hnm _ _ _), h2, h3⟩
  · rw [hA] at h1; simp only at h1
    split at h1
    · exact h1
    · cases h1
  · obtain ⟨h2, h3⟩ := full_some.1 h1
    split at h2
    · cases h2
    · rename_i hn
      refine ⟨h2, ?_, h3⟩
      rw [hA]; simp only; rw [if_neg hn]
  · refine full_some.2 ⟨?_, h2.1⟩
    rw [if_neg (fun ⟨o', h3, h4⟩ => by rw [h1] at h3; injection h3 with h3; subst h3; exact h4 h2)]; exact h1
theorem addK (H : Heap) (k : Nat) (L : GE) (a b : Int) (G : Gr ndI H k L) : E.Spec Try.prog 19 [.a (.bp k 0), iC a, iC b] H fun x H' => x = bX (!hasE L a b) ∧ Gr ndI H' k (addE L a b) ∧ ∀ j o, H j = some o → Out o → H' j = some o := by
  obtain ⟨A, B, GA, PT, hB⟩ := G.part
  exact (E.Spec.frame2 (addI A k L a b GA) PT).mono fun x H' ⟨A', ⟨h1, h2⟩, PT'⟩ => ⟨h1, h2.full PT'.left, fun j o h3 h4 => PT'.sub j o (hB j o h3 h4)⟩

end Go.Proofs.Ytikcmjamioopbaa.W
namespace Go.Proofs.Ytikcmjamioopbaa.W
open Go.RowKit E M
set_option linter.unusedVariables false
set_option linter.unusedSimpArgs false
set_option linter.unusedSectionVars false
theorem out_sl (x : E.T) : Out (.box [.t x]) := by
  refine ⟨fun h => h, fun km h => ?_, fun _ _ _ h => by cases h⟩
  simp at h

set_option maxRecDepth 20000 in
theorem successors_lawB (H : Heap) (ops : List Act') (z : Nz) (n u : Int) (hu : 0 ≤ u ∧ u ≤ 255) (hl : 30 < ops.length) : E.Spec Try.prog 4 [opsC z ops, .a (.t (.v (.int .i8 n))), .a (.t (.v (.int .u8 u)))] H fun x H' => x = bX true := by
  refine Spec.enter Try.func4 rfl ?_
  refine AW.wk (Wk.keep 88 [(0, .c (opsC z ops)), (1, .c (.a (.t (.v (.int .i8 n))))), (2, .c (.a (.t (.v (.int .u8 u)))))] [] (H) rfl ⟨rfl, rfl, rfl, trivial⟩ trivial (fun _ _ h => h) rfl) ?_
  refine AW.seq ?_
  refine AW.reg ?_
  refine SeqK.r (b_box (r := [_]) rfl rfl rfl rfl rfl rfl) rfl ?_
  refine SeqK.r (b_alloc (r := [_]) rfl rfl Fx.ze4 rfl rfl rfl rfl) rfl ?_
  refine SeqK.nil ?_
  refine AW.seq ?_
  refine AW.reg ?_
  refine SeqK.q (q_mvC rfl rfl) rfl rfl rfl ?_
  refine SeqK.callE rfl rfl rfl rfl Fx.fn11 rfl (runB _ ops z hl) (fun _ _ h => by rw [h]; rfl) (fun x18 H18 q18 => ?_)
  have h18 := q18
  subst h18
  refine SeqK.q (q_mvT rfl rfl) rfl rfl rfl ?_
  refine SeqK.q (q_extract _ rfl rfl rfl) rfl rfl rfl ?_
  refine SeqK.q (q_extract _ rfl rfl rfl) rfl rfl rfl ?_
  refine SeqK.q (q_extract _ rfl rfl rfl) rfl rfl rfl ?_
  refine SeqK.r (b_alloc (r := [_]) rfl rfl Fx.ze26 rfl rfl rfl rfl) rfl ?_
  refine SeqK.q (q_asC rfl rfl) rfl rfl rfl ?_
  refine SeqK.r (b_store (r := [_]) rfl rfl Fx.ty26 rfl rfl rfl rfl rfl rfl) rfl ?_
  refine SeqK.q (q_asC rfl rfl) rfl rfl rfl ?_
  refine SeqK.nil ?_
  refine AW.seq ?_
  refine AW.seq ?_
  refine AW.reg ?_
  refine SeqK.callE rfl rfl rfl rfl Fx.fn12 rfl (awakeF _) (fun _ _ h => by rw [h.1]; rfl) (fun x22 H22 q22 => ?_)
  obtain ⟨rfl, hF22⟩ := q22
  refine SeqK.q (q_not rfl rfl) rfl rfl rfl ?_
  refine SeqK.q (q_mvC rfl rfl) rfl rfl rfl ?_
  refine SeqK.on (q_mvC rfl rfl) rfl rfl rfl rfl rfl ?_
  refine SeqK.on (q_eqlN rfl rfl rfl Fx.nk23) rfl rfl rfl rfl rfl ?_
  refine SeqK.q (q_pkF rfl rfl rfl) rfl rfl rfl ?_
  refine SeqK.nil ?_
  refine AW.condT rfl ?_
  refine AW.seq ?_
  refine AW.reg ?_
  refine SeqK.callE rfl rfl rfl rfl Fx.fn12 rfl (awakeF _) (fun _ _ h => by rw [h.1]; rfl) (fun x28 H28 q28 => ?_)
  obtain ⟨rfl, hF28⟩ := q28
  refine SeqK.r (b_store (r := [_]) rfl rfl Fx.ty4 rfl rfl rfl rfl rfl rfl) rfl ?_
  refine SeqK.nil ?_
  refine AW.ret ?_
  exact fin_x (x := .c _) (_) (.cellL rfl rfl Fx.ty4 rfl rfl .nil) rfl (fun _ _ h => h) (rfl)
set_option maxRecDepth 20000 in
theorem successors_lawS (H : Heap) (ops : List Act') (z : Nz) (n u : Int) (hu : 0 ≤ u ∧ u ≤ 255) (hl : ¬ 30 < ops.length) : E.Spec Try.prog 4 [opsC z ops, .a (.t (.v (.int .i8 n))), .a (.t (.v (.int .u8 u)))] H fun x H' => x = bX true := by
  refine Spec.enter Try.func4 rfl ?_
  refine AW.wk (Wk.keep 88 [(0, .c (opsC z ops)), (1, .c (.a (.t (.v (.int .i8 n))))), (2, .c (.a (.t (.v (.int .u8 u)))))] [] (H) rfl ⟨rfl, rfl, rfl, trivial⟩ trivial (fun _ _ h => h) rfl) ?_
  refine AW.seq ?_
  refine AW.reg ?_
  refine SeqK.r (b_box (r := [_]) rfl rfl rfl rfl rfl rfl) rfl ?_
  refine SeqK.r (b_alloc (r := [_]) rfl rfl Fx.ze4 rfl rfl rfl rfl) rfl ?_
  refine SeqK.nil ?_
  refine AW.seq ?_
  refine AW.reg ?_
  refine SeqK.q (q_mvC rfl rfl) rfl rfl rfl ?_
  refine SeqK.callE rfl rfl rfl rfl Fx.fn11 rfl (runS _ ops z hl) (fun _ _ ⟨_, h, _⟩ => by rw [h]; rfl) (fun x18 H18 q18 => ?_)
  obtain ⟨c, rfl, G⟩ := q18
  refine SeqK.q (q_mvT rfl rfl) rfl rfl rfl ?_
  refine SeqK.q (q_extract _ rfl rfl rfl) rfl rfl rfl ?_
  refine SeqK.q (q_extract _ rfl rfl rfl) rfl rfl rfl ?_
  refine SeqK.q (q_extract _ rfl rfl rfl) rfl rfl rfl ?_
  refine SeqK.r (b_alloc (r := [_]) rfl rfl Fx.ze26 rfl rfl rfl rfl) rfl ?_
  refine SeqK.q (q_asC rfl rfl) rfl rfl rfl ?_
  refine SeqK.r (b_store (r := [_]) rfl rfl Fx.ty26 rfl rfl rfl rfl rfl rfl) rfl ?_
  refine SeqK.q (q_asC rfl rfl) rfl rfl rfl ?_
  refine SeqK.nil ?_
  refine AW.seq ?_
  refine AW.seq ?_
  refine AW.reg ?_
  refine SeqK.callE rfl rfl rfl rfl Fx.fn12 rfl (awakeF _) (fun _ _ h => by rw [h.1]; rfl) (fun x22 H22 q22 => ?_)
  obtain ⟨rfl, hF22⟩ := q22
  replace G := G.full hF22
  refine SeqK.q (q_not rfl rfl) rfl rfl rfl ?_
  refine SeqK.q (q_mvC rfl rfl) rfl rfl rfl ?_
  refine SeqK.on (q_mvC rfl rfl) rfl rfl rfl rfl rfl ?_
  refine SeqK.on (q_eqlN rfl rfl rfl Fx.nk23) rfl rfl rfl rfl rfl ?_
  refine SeqK.q (q_pkF rfl rfl rfl) rfl rfl rfl ?_
  refine SeqK.nil ?_
  refine AW.condF rfl ?_
  refine AW.skip ?_
  refine AW.seq ?_
  have hrl := runE_len (ops := ops)
  have hsl := succs_len (lt := ltI) (L := runE ops) (a := (IntKind.i64.wrap n))
  obtain ⟨m, hm⟩ : ∃ m : Nat, u.tmod 8 = (m : Nat) := ⟨(u.tmod 8).toNat, by rw [Int.toNat_of_nonneg (Int.tmod_nonneg _ hu.1)]⟩
  have hm8 : (m : Int) < 8 := by rw [← hm]; exact Int.tmod_lt_of_pos _ (by decide)
  refine AW.reg ?_
  refine SeqK.r (b_load (r := .g [_]) rfl Fx.ty26 rfl rfl rfl rfl rfl rfl) rfl ?_
  refine SeqK.q (q_mvC rfl rfl) rfl rfl rfl ?_
  refine SeqK.q (q_conv _ rfl Fx.un3 rfl (rfl) ⟨_, Fx.un37⟩) rfl rfl rfl ?_
  refine SeqK.q (q_call _ rfl Fx.fn16 rfl (succs_any _ _ (by omega)) rfl) rfl rfl rfl ?_
  refine SeqK.r (b_alloc (r := [_]) rfl rfl Fx.ze30 rfl rfl rfl rfl) rfl ?_
  refine SeqK.r (b_store (r := [_]) rfl rfl Fx.ty30 rfl rfl rfl rfl rfl rfl) rfl ?_
  refine SeqK.nil ?_
  refine AW.seq ?_
  refine AW.reg ?_
  refine SeqK.q (q_mvC rfl rfl) rfl rfl rfl ?_
  refine SeqK.q (q_mvC rfl rfl) rfl rfl rfl ?_
  refine SeqK.q (q_conv _ rfl Fx.un3 rfl (rfl) ⟨_, Fx.un37⟩) rfl rfl rfl ?_
  refine SeqK.callE rfl rfl rfl rfl Fx.fn18 rfl (succI _ c _ _ G (by omega)) (fun _ _ ⟨_, _, h, _⟩ => by rw [h]; rfl) (fun x36 H36 q36 => ?_)
  obtain ⟨kb, hkb, rfl, hH⟩ := q36
  subst hH
  replace G := G.fresh (o := (some (AO.box [.t (.sl .un 1 ((succs ltI (runE ops) (IntKind.i64.wrap n)).map i64T))]))) hkb
  have hKB : upd H22 kb (some (AO.box [.t (.sl .un 1 ((succs ltI (runE ops) (IntKind.i64.wrap n)).map i64T))])) kb = (some (AO.box [.t (.sl .un 1 ((succs ltI (runE ops) (IntKind.i64.wrap n)).map i64T))])) := upd_same _ _ _
  refine SeqK.q (q_asC rfl rfl) rfl rfl rfl ?_
  refine SeqK.nil ?_
  refine AW.seq ?_
  refine AW.seq ?_
  refine AW.reg ?_
  refine SeqK.q (q_mvC rfl rfl) rfl rfl rfl ?_
  refine SeqK.q (q_eqlN rfl rfl rfl Fx.nk39) rfl rfl rfl ?_
  refine SeqK.nil ?_
  refine AW.condF rfl ?_
  refine AW.skip ?_
  refine AW.seq ?_
  refine AW.reg ?_
  refine SeqK.q (q_mvC rfl rfl) rfl rfl rfl ?_
  refine SeqK.q (q_mvC rfl rfl) rfl rfl rfl ?_
  refine SeqK.q (q_conv _ rfl Fx.un3 rfl (rfl) ⟨_, Fx.un37⟩) rfl rfl rfl ?_
  refine SeqK.callE rfl rfl rfl rfl Fx.fn19 rfl (addK _ c _ _ _ G) (fun _ _ h => by rw [h.1]; rfl) (fun x42 H42 q42 => ?_)
  obtain ⟨rfl, G, hK⟩ := q42
  replace hKB := hK _ _ hKB (out_sl _)
  refine SeqK.nil ?_
  refine AW.seq ?_
  refine AW.reg ?_
  refine SeqK.q (q_mvC rfl rfl) rfl rfl rfl ?_
  refine SeqK.q (q_mvC rfl rfl) rfl rfl rfl ?_
  refine SeqK.q (q_conv _ rfl Fx.un3 rfl (rfl) ⟨_, Fx.un37⟩) rfl rfl rfl ?_
  refine SeqK.callE rfl rfl rfl rfl Fx.fn19 rfl (addK _ c _ _ _ G) (fun _ _ h => by rw [h.1]; rfl) (fun x46 H46 q46 => ?_)
  obtain ⟨rfl, G, hK⟩ := q46
  replace hKB := hK _ _ hKB (out_sl _)
  refine SeqK.nil ?_
  refine AW.seq ?_
  refine AW.reg ?_
  refine SeqK.r (b_alloc (r := [_]) rfl rfl Fx.ze3 rfl rfl rfl rfl) rfl ?_
  refine SeqK.r (b_store (r := [_]) rfl rfl Fx.ty3 rfl rfl rfl rfl rfl rfl) rfl ?_
  refine SeqK.nil ?_
  refine AW.seq ?_
  refine AW.seq ?_
  refine AW.exp 5 rfl (fun _ _ _ _ h => by cases h) (fun k5 hk5 => ?_)
  refine AW.exp 6 rfl (fun _ _ _ _ h => by cases h) (fun k6 hk6 => ?_)
  refine AW.exp 10 rfl (fun _ _ _ _ h => by cases h) (fun k10 hk10 => ?_)
  refine AW.exp 12 rfl (fun _ _ _ _ h => by cases h) (fun k12 hk12 => ?_)
  obtain ⟨n65, hk6b⟩ := upd_lt hk6
  obtain ⟨n106, hk10b⟩ := upd_lt hk10
  obtain ⟨n105, hk10c⟩ := upd_lt hk10b
  obtain ⟨n1210, hk12b⟩ := upd_lt hk12
  obtain ⟨n126, hk12c⟩ := upd_lt hk12b
  obtain ⟨n125, hk12d⟩ := upd_lt hk12c
  refine AW.reg ?_
  refine SeqK.q (q_mvC rfl rfl) rfl rfl rfl ?_
  refine SeqK.nil ?_
  refine AW.block ?_
  have hb5 : kb ≠ k5 := fun e => by subst e; rw [hk5] at hKB; cases hKB
  have hb6 : kb ≠ k6 := fun e => by subst e; rw [hk6b] at hKB; cases hKB
  have hb10 : kb ≠ k10 := fun e => by subst e; rw [hk10c] at hKB; cases hKB
  have hb12 : kb ≠ k12 := fun e => by subst e; rw [hk12d] at hKB; cases hKB
  refine AW.wk (Wk.keep 88 [(5, .c (.a (.bp k5 0))), (6, .c (.a (.bp k6 0))), (10, .c (.a (.bp k10 0))), (12, .c (.a (.bp k12 0))), (11, .c (.a (.fn 41 [.bp kb 0]))), (47, .c (.a (.fn 41 [.bp kb 0])))] [] (upd (upd (upd (upd H46 k5 (some (.box [.t (.v (.int .u8 u))]))) k6 (some (.box [.t (.v (.bool false))]))) k10 (some (.box [.t (.sl .un 1 ((succs ltI (runE ops) (IntKind.i64.wrap n)).map i64T))]))) k12 (some (.box [.t (.v (.int .i64 ((0 : Nat) : Int)))]))) rfl ⟨rfl, rfl, rfl, rfl, rfl, rfl, trivial⟩ trivial (fun _ _ h => h) rfl) ?_
  refine AW.rangeF rfl (Fx.fn41) (fun d => rfl) (fun _ => rfl) (by decide) (succ1I kb (succs ltI (runE ops) (IntKind.i64.wrap n)) (by omega)) (fun H H' hs h => hs _ _ h) (fun (pre : List Int) H1 => H1 = upd (upd (upd (upd H46 k5 (some (.box [.t (.v (.int .u8 u))]))) k6 (some (.box [.t (.v (.bool false))]))) k10 (some (.box [.t (.sl .un 1 ((succs ltI (runE ops) (IntKind.i64.wrap n)).map i64T))]))) k12 (some (.box [.t (.v (.int .i64 ((pre.length : Nat) : Int)))])) ∧ pre.length ≤ m) (fun e H1 => e = Exit.exit 0 ∧ m + 1 ≤ (succs ltI (runE ops) (IntKind.i64.wrap n)).length ∧ H1 = upd (upd (upd (upd H46 k5 (some (.box [.t (.v (.int .u8 u))]))) k6 (some (.box [.t (.v (.bool false))]))) k10 (some (.box [.t (.sl .un 1 ((succs ltI (runE ops) (IntKind.i64.wrap n)).map i64T))]))) k12 (some (.box [.t (.v (.int .i64 (((m + 1) : Nat) : Int)))]))) (⟨rfl, Nat.zero_le _⟩) (fun pre H1 h => by rw [h.1, upd_ne _ _ hb12, upd_ne _ _ hb10, upd_ne _ _ hb6, upd_ne _ _ hb5]; exact hKB) (fun l xs pre x H1 hX hpre hJ => ?_) (fun xs H1 hX hJ => ?_) (fun e H1 hJx he => ?_)
  ·
    obtain ⟨rfl, hpm⟩ := hJ
    subst hX
    have hi : pre.length < (succs ltI (runE ops) (IntKind.i64.wrap n)).length := by
      have h1 := hpre.length_le
      simp at h1; omega
    have hx : (succs ltI (runE ops) (IntKind.i64.wrap n))[pre.length] = x := by
      obtain ⟨r, hr⟩ := hpre
      have h1 : (succs ltI (runE ops) (IntKind.i64.wrap n))[pre.length]? = some x := by rw [← hr]; simp
      exact (List.getElem?_eq_some_iff.1 h1).2
    refine AWR.reg (by kernel_rfl) ?_
    refine SeqK.q (q_asC rfl rfl) rfl rfl rfl ?_
    refine SeqK.nil ?_
    refine ⟨rfl, ?_⟩
    refine AWR.block ?_
    refine AWR.seq ?_
    refine AWR.seq ?_
    refine AWR.reg (by kernel_rfl) ?_
    refine SeqK.r (g_load (r := .a _) rfl Fx.ty3 rfl (by (repeat rw [upd_ne _ _ (by first | assumption | exact Ne.symm (by assumption))]); first | assumption | exact upd_same _ _ _) rfl rfl rfl rfl) rfl ?_
    refine SeqK.r (g_load (r := .a _) rfl Fx.ty30 rfl (by (repeat rw [upd_ne _ _ (by first | assumption | exact Ne.symm (by assumption))]); first | assumption | exact upd_same _ _ _) rfl rfl rfl rfl) rfl ?_
    refine SeqK.q (q_len rfl Fx.un30 rfl) rfl rfl rfl ?_
    refine SeqK.q (q_geq rfl rfl rfl) rfl rfl rfl ?_
    refine SeqK.qD (q_mvC rfl rfl) rfl rfl rfl (fun g53 => ?_) (fun g53 => ?_)
    ·
      exact absurd g53 (by simp; omega)
    ·
      refine SeqK.on (q_mvC rfl rfl) rfl rfl rfl rfl rfl ?_
      refine SeqK.rOn (g_load (r := .a _) rfl Fx.ty30 rfl (by (repeat rw [upd_ne _ _ (by first | assumption | exact Ne.symm (by assumption))]); first | assumption | exact upd_same _ _ _) rfl rfl rfl rfl) rfl rfl rfl ?_
      refine SeqK.rOn (g_load (r := .a _) rfl Fx.ty3 rfl (by (repeat rw [upd_ne _ _ (by first | assumption | exact Ne.symm (by assumption))]); first | assumption | exact upd_same _ _ _) rfl rfl rfl rfl) rfl rfl rfl ?_
      refine SeqK.on (q_index _ rfl Fx.sl30 rfl rfl (by omega) (idx_map (f := i64T) hi)) rfl rfl rfl rfl rfl ?_
      refine SeqK.on (q_load (.a _) rfl Fx.ty3 rfl rfl rfl) rfl rfl rfl rfl rfl ?_
      refine SeqK.on (q_neq rfl rfl rfl) rfl rfl rfl rfl rfl ?_
      refine SeqK.q (q_pkF rfl rfl rfl) rfl rfl rfl ?_
      refine SeqK.nil ?_
      refine AWR.condD rfl (fun h60 => ?_) (fun h60 => ?_)
      ·
        exact absurd hx.symm h60
      ·
        refine AWR.skip ?_
        refine AWR.seq ?_
        refine AWR.reg (by kernel_rfl) ?_
        refine SeqK.r (g_load (r := .a _) rfl Fx.ty3 rfl (by (repeat rw [upd_ne _ _ (by first | assumption | exact Ne.symm (by assumption))]); first | assumption | exact upd_same _ _ _) rfl rfl rfl rfl) rfl ?_
        refine SeqK.q (q_add _ rfl rfl rfl ((by rw [w64 (by omega) (by omega)]; omega : IntKind.i64.wrap _ = ((pre.length + 1 : Nat) : Int)))) rfl rfl rfl ?_
        refine SeqK.r (g_store rfl rfl Fx.ty3 rfl rfl (by (repeat rw [upd_ne _ _ (by first | assumption | exact Ne.symm (by assumption))]); first | assumption | exact upd_same _ _ _) rfl rfl rfl) rfl ?_
        refine SeqK.nil ?_
        refine AWR.seq ?_
        refine AWR.reg (by kernel_rfl) ?_
        refine SeqK.r (g_load (r := .a _) rfl Fx.ty3 rfl (by (repeat rw [upd_ne _ _ (by first | assumption | exact Ne.symm (by assumption))]); first | assumption | exact upd_same _ _ _) rfl rfl rfl rfl) rfl ?_
        refine SeqK.r (g_load (r := .a _) rfl Fx.ty5 rfl (by (repeat rw [upd_ne _ _ (by first | assumption | exact Ne.symm (by assumption))]); first | assumption | exact upd_same _ _ _) rfl rfl rfl rfl) rfl ?_
        refine SeqK.q (q_conv _ rfl Fx.un3 rfl (w64 (by omega) (by omega)) ⟨_, Fx.un5⟩) rfl rfl rfl ?_
        refine SeqK.q (q_remC (c := ((m : Nat) : Int)) rfl rfl rfl (by decide) hm) rfl rfl rfl ?_
        refine SeqK.q (q_gtr rfl rfl rfl) rfl rfl rfl ?_
        refine SeqK.nil ?_
        refine AWR.condD rfl (fun h67 => ?_) (fun h67 => ?_)
        ·
          refine AWR.exit ?_
          refine exit_pass ?_ rfl
          refine ⟨_, fun _ _ h => h, rfl, by simp at h67; omega, ?_⟩
          show upd (upd _ k12 _) k12 _ = _
          rw [upd_upd, show m = pre.length by simp at h67; omega]; rfl
        ·
          refine AWR.skip ?_
          refine ⟨_, fun _ _ h => h, ?_, by simp; simp at h67; omega⟩
          show upd (upd _ k12 _) k12 _ = _
          rw [upd_upd, List.length_append]; rfl
  ·
    obtain ⟨rfl, hpm⟩ := hJ
    subst hX
    have hmin : (((succs ltI (runE ops) (IntKind.i64.wrap n)).length : Nat) : Int) = min (((succs ltI (runE ops) (IntKind.i64.wrap n)).length : Nat) : Int) ((m + 1 : Nat) : Int) := by omega
    refine AW.seq ?_
    refine AW.reg ?_
    refine SeqK.r (b_alloc (r := [_]) rfl rfl Fx.ze30 rfl rfl rfl rfl) rfl ?_
    refine SeqK.nil ?_
    refine AW.seq ?_
    refine AW.seq ?_
    refine AW.tipL 14 0 3 1 rfl rfl (fun kt hkt => ?_)
    refine AW.exp 14 rfl (fun _ _ _ _ h => by cases h) (fun k14 hk14 => ?_)
    obtain ⟨n14t, hk14b⟩ := upd_lt hk14
    obtain ⟨n1412, h141⟩ := upd_lt hk14b
    obtain ⟨n1410, h142⟩ := upd_lt h141
    obtain ⟨n146, h143⟩ := upd_lt h142
    obtain ⟨n145, h144⟩ := upd_lt h143
    refine AW.reg ?_
    refine SeqK.q (q_mvC rfl rfl) rfl rfl rfl ?_
    refine SeqK.nil ?_
    refine AW.block ?_
    rw [upd_swap _ _ _ n14t.symm]
    refine AW.wk (Wk.keep 88 [(5, .c (.a (.bp k5 0))), (6, .c (.a (.bp k6 0))), (10, .c (.a (.bp k10 0))), (12, .c (.a (.bp k12 0))), (14, .c (.a (.bp k14 0))), (68, .c (.a (.fn 41 [.bp kb 0])))] [] (upd (upd (upd (upd (upd (upd H46 k5 (some (.box [.t (.v (.int .u8 u))]))) k6 (some (.box [.t (.v (.bool false))]))) k10 (some (.box [.t (.sl .un 1 ((succs ltI (runE ops) (IntKind.i64.wrap n)).map i64T))]))) k12 (some (.box [.t (.v (.int .i64 (((succs ltI (runE ops) (IntKind.i64.wrap n)).length : Nat) : Int)))]))) k14 (some (.box [.ts kt .ne 1 []]))) kt (some (.tip 3 1 0))) rfl ⟨rfl, rfl, rfl, rfl, rfl, rfl, trivial⟩ trivial (fun _ _ h => h) rfl) ?_
    refine AW.rangeF rfl (Fx.fn41) (fun d => rfl) (fun _ => rfl) (by decide) (succ1I kb (succs ltI (runE ops) (IntKind.i64.wrap n)) (by omega)) (fun H H' hs h => hs _ _ h) (fun (pre : List Int) H1 => ∃ k9 zs, zs = pre.map i64T ∧ upd (upd (upd (upd (upd H46 k5 (some (.box [.t (.v (.int .u8 u))]))) k6 (some (.box [.t (.v (.bool false))]))) k10 (some (.box [.t (.sl .un 1 ((succs ltI (runE ops) (IntKind.i64.wrap n)).map i64T))]))) k12 (some (.box [.t (.v (.int .i64 (((succs ltI (runE ops) (IntKind.i64.wrap n)).length : Nat) : Int)))]))) k14 (some (.box [])) k9 = none ∧ H1 = upd (upd (upd (upd (upd (upd H46 k5 (some (.box [.t (.v (.int .u8 u))]))) k6 (some (.box [.t (.v (.bool false))]))) k10 (some (.box [.t (.sl .un 1 ((succs ltI (runE ops) (IntKind.i64.wrap n)).map i64T))]))) k12 (some (.box [.t (.v (.int .i64 (((succs ltI (runE ops) (IntKind.i64.wrap n)).length : Nat) : Int)))]))) k14 (some (.box [.ts k9 .ne 1 zs]))) k9 (some (.tip 3 1 zs.length))) (fun _ _ => False) (⟨kt, [], rfl, by rw [upd_ne _ _ n14t.symm]; exact hkt, rfl⟩) (fun pre H1 ⟨k9, zs, _, h2, e⟩ => by
      subst e
      obtain ⟨h3, h4⟩ := upd_lt h2
      have hb9 : kb ≠ k9 := fun e => by subst e; rw [upd_ne _ _ hb12, upd_ne _ _ hb10, upd_ne _ _ hb6, upd_ne _ _ hb5, hKB] at h4; cases h4
      have hb14 : kb ≠ k14 := fun e => by subst e; rw [upd_ne _ _ hb12, upd_ne _ _ hb10, upd_ne _ _ hb6, upd_ne _ _ hb5, hKB] at hk14b; cases hk14b
      rw [upd_ne _ _ hb9, upd_ne _ _ hb14, upd_ne _ _ hb12, upd_ne _ _ hb10, upd_ne _ _ hb6, upd_ne _ _ hb5]; exact hKB) (fun l xs pre x H1 hX hpre hJ => ?_) (fun xs H1 hX hJ => ?_) (fun _ _ h => h.elim)
    ·
      obtain ⟨k1, zs, hzs, hk1, rfl⟩ := hJ
      subst hX
      have hlen : pre.length + 1 ≤ (succs ltI (runE ops) (IntKind.i64.wrap n)).length := by
        have h1 := hpre.length_le
        simp at h1; omega
      have hne : k14 ≠ k1 := (upd_lt hk1).1.symm
      replace hk1 : upd (upd (upd (upd (upd H46 k5 (some (.box [.t (.v (.int .u8 u))]))) k6 (some (.box [.t (.v (.bool false))]))) k10 (some (.box [.t (.sl .un 1 ((succs ltI (runE ops) (IntKind.i64.wrap n)).map i64T))]))) k12 (some (.box [.t (.v (.int .i64 (((succs ltI (runE ops) (IntKind.i64.wrap n)).length : Nat) : Int)))]))) k14 (some (.box [.ts k1 .ne 1 zs])) k1 = none := by rw [upd_ne _ _ hne.symm]; exact (upd_lt hk1).2
      refine AWR.reg (by kernel_rfl) ?_
      refine SeqK.q (q_asC rfl rfl) rfl rfl rfl ?_
      refine SeqK.nil ?_
      refine ⟨rfl, ?_⟩
      refine AWR.block ?_
      refine AWR.reg (by kernel_rfl) ?_
      refine SeqK.r (g_load (r := .a _) rfl Fx.ty30 rfl (by (repeat rw [upd_ne _ _ (by first | assumption | exact Ne.symm (by assumption))]); first | assumption | exact upd_same _ _ _) rfl rfl rfl rfl) rfl ?_
      refine SeqK.q (q_mvC rfl rfl) rfl rfl rfl ?_
      refine SeqK.q (q_buildSlice _ rfl Fx.el30 rfl (by decide) rfl) rfl rfl rfl ?_
      refine SeqK.app1 rfl (hk1) rfl Fx.el30 rfl rfl (by rw [hzs]; simp; omega) rfl rfl (fun k73 hk73 => ?_)
      refine SeqK.r (g_store rfl rfl Fx.ty30 rfl rfl (by rw [upd_ne _ _ (upd_lt hk73).1.symm]; exact upd_same _ _ _) rfl rfl rfl) rfl ?_
      refine SeqK.nil ?_
      refine ⟨_, fun _ _ h => h, k73, zs ++ [i64T x], by rw [hzs]; simp, by rw [upd_ne _ _ (upd_lt hk73).1]; exact (upd_lt hk73).2, ?_⟩
      show upd (upd (upd _ k14 _) k73 _) k14 _ = _
      rw [upd_swap _ _ _ (upd_lt hk73).1, upd_upd]; rfl
    ·
      obtain ⟨k9, zs, hzs, hk9, rfl⟩ := hJ
      subst hX
      subst hzs
      obtain ⟨n914, h91⟩ := upd_lt hk9
      obtain ⟨n912, h92⟩ := upd_lt h91
      obtain ⟨n910, h93⟩ := upd_lt h92
      obtain ⟨n96, h94⟩ := upd_lt h93
      obtain ⟨n95, h95⟩ := upd_lt h94
      refine AW.seq ?_
      refine AW.reg ?_
      refine SeqK.r (g_load (r := .a _) rfl Fx.ty3 rfl (by (repeat rw [upd_ne _ _ (by first | assumption | exact Ne.symm (by assumption))]); first | assumption | exact upd_same _ _ _) rfl rfl rfl rfl) rfl ?_
      refine SeqK.r (g_load (r := .a _) rfl Fx.ty30 rfl (by (repeat rw [upd_ne _ _ (by first | assumption | exact Ne.symm (by assumption))]); first | assumption | exact upd_same _ _ _) rfl rfl rfl rfl) rfl ?_
      refine SeqK.q (q_len rfl Fx.un30 rfl) rfl rfl rfl ?_
      refine SeqK.r (g_load (r := .a _) rfl Fx.ty5 rfl (by (repeat rw [upd_ne _ _ (by first | assumption | exact Ne.symm (by assumption))]); first | assumption | exact upd_same _ _ _) rfl rfl rfl rfl) rfl ?_
      refine SeqK.q (q_conv _ rfl Fx.un3 rfl (w64 (by omega) (by omega)) ⟨_, Fx.un5⟩) rfl rfl rfl ?_
      refine SeqK.q (q_remC (c := ((m : Nat) : Int)) rfl rfl rfl (by decide) hm) rfl rfl rfl ?_
      refine SeqK.q (q_add _ rfl rfl rfl ((by rw [w64 (by omega) (by omega)]; omega : IntKind.i64.wrap _ = ((m + 1 : Nat) : Int)))) rfl rfl rfl ?_
      refine SeqK.q (q_min rfl rfl rfl) rfl rfl rfl ?_
      refine SeqK.q (q_eql rfl rfl rfl) rfl rfl rfl ?_
      refine SeqK.qD (q_mvC rfl rfl) rfl rfl rfl (fun g83 => ?_) (fun g83 => ?_)
      ·
        refine SeqK.rOn (g_load (r := .a _) rfl Fx.ty30 rfl (by (repeat rw [upd_ne _ _ (by first | assumption | exact Ne.symm (by assumption))]); first | assumption | exact upd_same _ _ _) rfl rfl rfl rfl) rfl rfl rfl ?_
        refine SeqK.xw 84 rfl XW.ts ?_
        refine SeqK.rOn (g_load (r := .a _) rfl Fx.ty30 rfl (by (repeat rw [upd_ne _ _ (by first | assumption | exact Ne.symm (by assumption))]); first | assumption | exact upd_same _ _ _) rfl rfl rfl rfl) rfl rfl rfl ?_
        refine SeqK.on (q_call _ rfl Fx.fn14 rfl (same_eq (succs ltI (runE ops) (IntKind.i64.wrap n)) .ne .un (by omega)) rfl) rfl rfl rfl rfl rfl ?_
        refine SeqK.q (q_pkT rfl rfl rfl) rfl rfl rfl ?_
        refine SeqK.r (g_store rfl rfl Fx.ty4 rfl rfl (by (repeat rw [upd_ne _ _ (by first | assumption | exact Ne.symm (by assumption))]); first | assumption | exact upd_same _ _ _) rfl rfl rfl) rfl ?_
        refine SeqK.nil ?_
        refine AW.ret ?_
        exact fin_x (x := .c _) (_) (.cellH rfl (by (repeat rw [upd_ne _ _ (by first | assumption | exact Ne.symm (by assumption))]); first | assumption | exact upd_same _ _ _) Fx.ty4 rfl rfl .nil) rfl (fun _ _ h => h) (rfl)
      ·
        exact absurd hmin (by rw [List.length_map] at g83; exact g83)
  ·
    obtain ⟨rfl, hml, rfl⟩ := hJx
    have hmin : ((m + 1 : Nat) : Int) = min (((succs ltI (runE ops) (IntKind.i64.wrap n)).length : Nat) : Int) ((m + 1 : Nat) : Int) := by omega
    refine exit_here ?_
    refine AW.seq ?_
    refine AW.reg ?_
    refine SeqK.r (b_alloc (r := [_]) rfl rfl Fx.ze30 rfl rfl rfl rfl) rfl ?_
    refine SeqK.nil ?_
    refine AW.seq ?_
    refine AW.seq ?_
    refine AW.tipL 14 0 3 1 rfl rfl (fun kt hkt => ?_)
    refine AW.exp 14 rfl (fun _ _ _ _ h => by cases h) (fun k14 hk14 => ?_)
    obtain ⟨n14t, hk14b⟩ := upd_lt hk14
    obtain ⟨n1412, h141⟩ := upd_lt hk14b
    obtain ⟨n1410, h142⟩ := upd_lt h141
    obtain ⟨n146, h143⟩ := upd_lt h142
    obtain ⟨n145, h144⟩ := upd_lt h143
    refine AW.reg ?_
    refine SeqK.q (q_mvC rfl rfl) rfl rfl rfl ?_
    refine SeqK.nil ?_
    refine AW.block ?_
    rw [upd_swap _ _ _ n14t.symm]
    refine AW.wk (Wk.keep 88 [(5, .c (.a (.bp k5 0))), (6, .c (.a (.bp k6 0))), (10, .c (.a (.bp k10 0))), (12, .c (.a (.bp k12 0))), (14, .c (.a (.bp k14 0))), (68, .c (.a (.fn 41 [.bp kb 0])))] [] (upd (upd (upd (upd (upd (upd H46 k5 (some (.box [.t (.v (.int .u8 u))]))) k6 (some (.box [.t (.v (.bool false))]))) k10 (some (.box [.t (.sl .un 1 ((succs ltI (runE ops) (IntKind.i64.wrap n)).map i64T))]))) k12 (some (.box [.t (.v (.int .i64 (((m + 1) : Nat) : Int)))]))) k14 (some (.box [.ts kt .ne 1 []]))) kt (some (.tip 3 1 0))) rfl ⟨rfl, rfl, rfl, rfl, rfl, rfl, trivial⟩ trivial (fun _ _ h => h) rfl) ?_
    refine AW.rangeF rfl (Fx.fn41) (fun d => rfl) (fun _ => rfl) (by decide) (succ1I kb (succs ltI (runE ops) (IntKind.i64.wrap n)) (by omega)) (fun H H' hs h => hs _ _ h) (fun (pre : List Int) H1 => ∃ k9 zs, zs = pre.map i64T ∧ upd (upd (upd (upd (upd H46 k5 (some (.box [.t (.v (.int .u8 u))]))) k6 (some (.box [.t (.v (.bool false))]))) k10 (some (.box [.t (.sl .un 1 ((succs ltI (runE ops) (IntKind.i64.wrap n)).map i64T))]))) k12 (some (.box [.t (.v (.int .i64 (((m + 1) : Nat) : Int)))]))) k14 (some (.box [])) k9 = none ∧ H1 = upd (upd (upd (upd (upd (upd H46 k5 (some (.box [.t (.v (.int .u8 u))]))) k6 (some (.box [.t (.v (.bool false))]))) k10 (some (.box [.t (.sl .un 1 ((succs ltI (runE ops) (IntKind.i64.wrap n)).map i64T))]))) k12 (some (.box [.t (.v (.int .i64 (((m + 1) : Nat) : Int)))]))) k14 (some (.box [.ts k9 .ne 1 zs]))) k9 (some (.tip 3 1 zs.length))) (fun _ _ => False) (⟨kt, [], rfl, by rw [upd_ne _ _ n14t.symm]; exact hkt, rfl⟩) (fun pre H1 ⟨k9, zs, _, h2, e⟩ => by
      subst e
      obtain ⟨h3, h4⟩ := upd_lt h2
      have hb9 : kb ≠ k9 := fun e => by subst e; rw [upd_ne _ _ hb12, upd_ne _ _ hb10, upd_ne _ _ hb6, upd_ne _ _ hb5, hKB] at h4; cases h4
      have hb14 : kb ≠ k14 := fun e => by subst e; rw [upd_ne _ _ hb12, upd_ne _ _ hb10, upd_ne _ _ hb6, upd_ne _ _ hb5, hKB] at hk14b; cases hk14b
      rw [upd_ne _ _ hb9, upd_ne _ _ hb14, upd_ne _ _ hb12, upd_ne _ _ hb10, upd_ne _ _ hb6, upd_ne _ _ hb5]; exact hKB) (fun l xs pre x H1 hX hpre hJ => ?_) (fun xs H1 hX hJ => ?_) (fun _ _ h => h.elim)
    ·
      obtain ⟨k1, zs, hzs, hk1, rfl⟩ := hJ
      subst hX
      have hlen : pre.length + 1 ≤ (succs ltI (runE ops) (IntKind.i64.wrap n)).length := by
        have h1 := hpre.length_le
        simp at h1; omega
      have hne : k14 ≠ k1 := (upd_lt hk1).1.symm
      replace hk1 : upd (upd (upd (upd (upd H46 k5 (some (.box [.t (.v (.int .u8 u))]))) k6 (some (.box [.t (.v (.bool false))]))) k10 (some (.box [.t (.sl .un 1 ((succs ltI (runE ops) (IntKind.i64.wrap n)).map i64T))]))) k12 (some (.box [.t (.v (.int .i64 (((m + 1) : Nat) : Int)))]))) k14 (some (.box [.ts k1 .ne 1 zs])) k1 = none := by rw [upd_ne _ _ hne.symm]; exact (upd_lt hk1).2
      refine AWR.reg (by kernel_rfl) ?_
      refine SeqK.q (q_asC rfl rfl) rfl rfl rfl ?_
      refine SeqK.nil ?_
      refine ⟨rfl, ?_⟩
      refine AWR.block ?_
      refine AWR.reg (by kernel_rfl) ?_
      refine SeqK.r (g_load (r := .a _) rfl Fx.ty30 rfl (by (repeat rw [upd_ne _ _ (by first | assumption | exact Ne.symm (by assumption))]); first | assumption | exact upd_same _ _ _) rfl rfl rfl rfl) rfl ?_
      refine SeqK.q (q_mvC rfl rfl) rfl rfl rfl ?_
      refine SeqK.q (q_buildSlice _ rfl Fx.el30 rfl (by decide) rfl) rfl rfl rfl ?_
      refine SeqK.app1 rfl (hk1) rfl Fx.el30 rfl rfl (by rw [hzs]; simp; omega) rfl rfl (fun k73 hk73 => ?_)
      refine SeqK.r (g_store rfl rfl Fx.ty30 rfl rfl (by rw [upd_ne _ _ (upd_lt hk73).1.symm]; exact upd_same _ _ _) rfl rfl rfl) rfl ?_
      refine SeqK.nil ?_
      refine ⟨_, fun _ _ h => h, k73, zs ++ [i64T x], by rw [hzs]; simp, by rw [upd_ne _ _ (upd_lt hk73).1]; exact (upd_lt hk73).2, ?_⟩
      show upd (upd (upd _ k14 _) k73 _) k14 _ = _
      rw [upd_swap _ _ _ (upd_lt hk73).1, upd_upd]; rfl
    ·
      obtain ⟨k9, zs, hzs, hk9, rfl⟩ := hJ
      subst hX
      subst hzs
      obtain ⟨n914, h91⟩ := upd_lt hk9
      obtain ⟨n912, h92⟩ := upd_lt h91
      obtain ⟨n910, h93⟩ := upd_lt h92
      obtain ⟨n96, h94⟩ := upd_lt h93
      obtain ⟨n95, h95⟩ := upd_lt h94
      refine AW.seq ?_
      refine AW.reg ?_
      refine SeqK.r (g_load (r := .a _) rfl Fx.ty3 rfl (by (repeat rw [upd_ne _ _ (by first | assumption | exact Ne.symm (by assumption))]); first | assumption | exact upd_same _ _ _) rfl rfl rfl rfl) rfl ?_
      refine SeqK.r (g_load (r := .a _) rfl Fx.ty30 rfl (by (repeat rw [upd_ne _ _ (by first | assumption | exact Ne.symm (by assumption))]); first | assumption | exact upd_same _ _ _) rfl rfl rfl rfl) rfl ?_
      refine SeqK.q (q_len rfl Fx.un30 rfl) rfl rfl rfl ?_
      refine SeqK.r (g_load (r := .a _) rfl Fx.ty5 rfl (by (repeat rw [upd_ne _ _ (by first | assumption | exact Ne.symm (by assumption))]); first | assumption | exact upd_same _ _ _) rfl rfl rfl rfl) rfl ?_
      refine SeqK.q (q_conv _ rfl Fx.un3 rfl (w64 (by omega) (by omega)) ⟨_, Fx.un5⟩) rfl rfl rfl ?_
      refine SeqK.q (q_remC (c := ((m : Nat) : Int)) rfl rfl rfl (by decide) hm) rfl rfl rfl ?_
      refine SeqK.q (q_add _ rfl rfl rfl ((by rw [w64 (by omega) (by omega)]; omega : IntKind.i64.wrap _ = ((m + 1 : Nat) : Int)))) rfl rfl rfl ?_
      refine SeqK.q (q_min rfl rfl rfl) rfl rfl rfl ?_
      refine SeqK.q (q_eql rfl rfl rfl) rfl rfl rfl ?_
      refine SeqK.qD (q_mvC rfl rfl) rfl rfl rfl (fun g83 => ?_) (fun g83 => ?_)
      ·
        refine SeqK.rOn (g_load (r := .a _) rfl Fx.ty30 rfl (by (repeat rw [upd_ne _ _ (by first | assumption | exact Ne.symm (by assumption))]); first | assumption | exact upd_same _ _ _) rfl rfl rfl rfl) rfl rfl rfl ?_
        refine SeqK.xw 84 rfl XW.ts ?_
        refine SeqK.rOn (g_load (r := .a _) rfl Fx.ty30 rfl (by (repeat rw [upd_ne _ _ (by first | assumption | exact Ne.symm (by assumption))]); first | assumption | exact upd_same _ _ _) rfl rfl rfl rfl) rfl rfl rfl ?_
        refine SeqK.on (q_call _ rfl Fx.fn14 rfl (same_eq (succs ltI (runE ops) (IntKind.i64.wrap n)) .ne .un (by omega)) rfl) rfl rfl rfl rfl rfl ?_
        refine SeqK.q (q_pkT rfl rfl rfl) rfl rfl rfl ?_
        refine SeqK.r (g_store rfl rfl Fx.ty4 rfl rfl (by (repeat rw [upd_ne _ _ (by first | assumption | exact Ne.symm (by assumption))]); first | assumption | exact upd_same _ _ _) rfl rfl rfl) rfl ?_
        refine SeqK.nil ?_
        refine AW.ret ?_
        exact fin_x (x := .c _) (_) (.cellH rfl (by (repeat rw [upd_ne _ _ (by first | assumption | exact Ne.symm (by assumption))]); first | assumption | exact upd_same _ _ _) Fx.ty4 rfl rfl .nil) rfl (fun _ _ h => h) (rfl)
      ·
        exact absurd hmin (by rw [List.length_map] at g83; exact g83)

theorem successors_law (ops : List Act') (n u : Int) (hu : 0 ≤ u ∧ u ≤ 255) (H : Heap) : E.Spec Try.prog 4 [opsC .un ops, .a (.t (.v (.int .i8 n))), .a (.t (.v (.int .u8 u)))] H fun x H' => x = bX true := by
  by_cases hl : 30 < ops.length
  · exact successors_lawB H ops .un n u hu hl
  · exact successors_lawS H ops .un n u hu hl

end Go.Proofs.Ytikcmjamioopbaa.W
namespace Go.Proofs.Ytikcmjamioopbaa.W
open Go.RowKit E M
set_option linter.unusedVariables false
set_option linter.unusedSimpArgs false
set_option linter.unusedSectionVars false
theorem w8 {n : Int} (h : 0 ≤ n) (h' : n ≤ 255) : IntKind.u8.wrap n = n := by
  simp only [IntKind.wrap, IntKind.bits, IntKind.signed, Bool.false_and, Bool.false_eq_true, if_false]; omega
def nm (n : Int) : ByteArray := bStr [97 + n.tmod 20]
def fI (n : Fin 20) : Int := (n.val : Int)
def fS (n : Fin 20) : ByteArray := nm (fI n)
theorem embI : Emb (fun a b : Fin 20 => decide (a < b)) ltI fI := ⟨fun a b h => by unfold fI at h; omega, fun a b => by unfold fI ltI; simp only [decide_eq_decide]; omega⟩
theorem embS : Emb (fun a b : Fin 20 => decide (a < b)) ltS fS := ⟨by decide +kernel, by decide +kernel⟩
def q20 (n : Int) : Fin 20 := ⟨n.toNat % 20, Nat.mod_lt _ (by decide)⟩
theorem q20_I {n : Int} (h : 0 ≤ n) : n.tmod 20 = fI (q20 n) := by
  obtain ⟨m, rfl⟩ := Int.eq_ofNat_of_zero_le h
  rw [Int.tmod_eq_emod_of_nonneg h]
  simp [fI, q20]
theorem fI_lt (n : Fin 20) : 0 ≤ fI n ∧ fI n < 20 := by unfold fI; omega
theorem fI_mod (n : Fin 20) : (fI n).tmod 20 = fI n := by
  have := fI_lt n
  rw [Int.tmod_eq_emod_of_nonneg this.1]; omega
theorem q20_S {n : Int} (h : 0 ≤ n) : nm n = fS (q20 n) := by
  unfold fS nm
  rw [fI_mod, q20_I h]

set_option maxRecDepth 20000 in
theorem name_any (n : Int) (hn : 0 ≤ n ∧ n ≤ 255) : Pure Try.prog 31 [.a (.t (.v (.int .u8 n)))] (.c (sC (nm n))) := by
  intro H
  refine Spec.enter Try.func31 rfl ?_
  refine AW.wk (Wk.keep 8 [(0, .c (.a (.t (.v (.int .u8 n)))))] [] (H) rfl ⟨rfl, trivial⟩ trivial (fun _ _ h => h) rfl) ?_
  refine AW.seq ?_
  refine AW.reg ?_
  refine SeqK.q (q_asC rfl rfl) rfl rfl rfl ?_
  refine SeqK.nil ?_
  refine AW.seq ?_
  have hm0 : 0 ≤ n.tmod 20 := Int.tmod_nonneg _ hn.1
  have hm1 : n.tmod 20 < 20 := Int.tmod_lt_of_pos _ (by decide)
  refine AW.reg ?_
  refine SeqK.q (q_mvC rfl rfl) rfl rfl rfl ?_
  refine SeqK.q (q_remC (c := n.tmod 20) rfl rfl rfl (by decide) rfl) rfl rfl rfl ?_
  refine SeqK.q (q_add _ rfl rfl rfl ((by show IntKind.u8.wrap _ = 97 + n.tmod 20; exact w8 (by omega) (by omega)))) rfl rfl rfl ?_
  refine SeqK.q (q_buildSlice _ rfl Fx.el57 rfl (by decide) rfl) rfl rfl rfl ?_
  refine SeqK.q (q_convBS (l := [97 + n.tmod 20]) rfl Fx.un57 Fx.un5 Fx.un9 rfl) rfl rfl rfl ?_
  refine SeqK.q (q_asC rfl rfl) rfl rfl rfl ?_
  refine SeqK.nil ?_
  refine AW.ret ?_
  exact fin_x (x := .c _) H (.tmp rfl .nil) rfl (fun _ _ h => h) ⟨rfl, rfl⟩

end Go.Proofs.Ytikcmjamioopbaa.W
namespace Go.Proofs.Ytikcmjamioopbaa.W
open Go.RowKit E M
set_option linter.unusedVariables false
set_option linter.unusedSimpArgs false
set_option linter.unusedSectionVars false
section
variable {α : Type} [DecidableEq α]
theorem Gr.fullH {nd : Nd α} {H : Heap} {k : Nat} {L : List (α × α)} (h : Gr nd H k L) : Gr nd (E.full H) k L := h.mono fun j o hj he => full_some.2 ⟨hj, by
  rcases he with ⟨r, rfl⟩ | ⟨kk, es, c, rfl⟩ <;> exact fun h => h⟩
end
abbrev ltF : Fin 20 → Fin 20 → Bool := fun a b => decide (a < b)
abbrev GF := List (Fin 20 × Fin 20)
structure Two (H : Heap) (c c2 : Nat) (F F2 : GF) : Prop where
  p : ∃ A B, Gr ndS A c (F.map (both fS)) ∧ Gr ndI B c2 (F2.map (both fI)) ∧ Part H A B ∧ Part H B A
theorem part_flip {H A B : Heap} (h : Part H (E.full A) B) : Part H B (E.full A) := ⟨h.sub, fun k o hk => by
  refine ⟨h.left k o hk, ?_, (full_some.1 hk).2⟩
  cases hb : B k with
  | none => rfl
  | some y => have := (h.right k y hb).2.1; rw [this] at hk; cases hk⟩
theorem Two.S {H : Heap} {c c2 : Nat} {F F2 : GF} (h : Two H c c2 F F2) : Gr ndS H c (F.map (both fS)) := by
  obtain ⟨A, B, h1, h2, h3, h4⟩ := h.p
  exact h1.sub h3.left
theorem Two.I {H : Heap} {c c2 : Nat} {F F2 : GF} (h : Two H c c2 F F2) : Gr ndI H c2 (F2.map (both fI)) := by
  obtain ⟨A, B, h1, h2, h3, h4⟩ := h.p
  exact h2.sub h4.left
theorem two_new (H : Heap) (c : Nat) (G : Gr ndS H c []) : E.Spec Try.prog 30 [] H fun x H' => ∃ c2, x = .c (.a (.bp c2 0)) ∧ Two H' c c2 [] [] :=
  (E.Spec.frame2 (newI (fun _ => none)) (Part.start H)).mono fun x H' ⟨A', ⟨c2, h1, h2, _⟩, h3⟩ => ⟨c2, h1, ⟨E.full H, E.full A', G.fullH, h2.fullH, part_flip h3, h3⟩⟩
theorem hasE_map {α β : Type} [DecidableEq α] [DecidableEq β] {lt : α → α → Bool} {lt' : β → β → Bool} {f : α → β} (h : Emb lt lt' f) {L : List (α × α)} {a b : α} : hasE (L.map (both f)) (f a) (f b) = hasE L a b := by
  unfold hasE; simp only [h.memE]
theorem two_addS (H : Heap) (c c2 : Nat) (F F2 : GF) (a b : Fin 20) (T : Two H c c2 F F2) : E.Spec Try.prog 32 [.a (.bp c 0), sC (fS a), sC (fS b)] H fun x H' => x = bX (!hasE F a b) ∧ Two H' c c2 (addE F a b) F2 := by
  obtain ⟨A, B, h1, h2, h3, h4⟩ := T.p
  exact (E.Spec.frame2 (addS A c _ _ _ h1) h3).mono fun x H' ⟨A', ⟨h5, h6⟩, h7⟩ => ⟨by rw [h5, hasE_map embS], ⟨E.full A', B, by rw [← embS.addE]; exact h6.fullH, h2, h7, part_flip h7⟩⟩
theorem two_addI (H : Heap) (c c2 : Nat) (F F2 : GF) (a b : Fin 20) (T : Two H c c2 F F2) : E.Spec Try.prog 19 [.a (.bp c2 0), iC (fI a), iC (fI b)] H fun x H' => x = bX (!hasE F2 a b) ∧ Two H' c c2 F (addE F2 a b) := by
  obtain ⟨A, B, h1, h2, h3, h4⟩ := T.p
  exact (E.Spec.frame2 (addI B c2 _ _ _ h2) h4).mono fun x H' ⟨B', ⟨h5, h6⟩, h7⟩ => ⟨by rw [h5, hasE_map embI], ⟨A, E.full B', h1, by rw [← embI.addE]; exact h6.fullH, part_flip h7, h7⟩⟩
theorem two_cycS (H : Heap) (c : Nat) (F : GF) (n : Fin 20) (G : Gr ndS H c (F.map (both fS))) (hF : F.length ≤ 100) : E.Spec Try.prog 33 [.a (.bp c 0), sC (fS n)] H fun x H' => x = .c (.a (.t (.sl .un 1 ((cyc ltF F n).map fun x => strT (fS x))))) ∧ H' = H :=
  Spec.xw (cycleS H c _ _ G (by rw [List.length_map]; omega)) fun x H' ⟨h, h2⟩ => by
    rw [embS.dist, embS.cyc] at h
    rcases h with ⟨h1, h3⟩ | ⟨h1, h3⟩
    · exact ⟨_, by rw [h3]; exact XW.nilU (sz := 1), by rw [cyc_nil.2 h1]; rfl, h2⟩
    · exact ⟨_, by rw [h3]; exact XW.un, by rw [List.map_map]; rfl, h2⟩
theorem two_cycI (H : Heap) (c : Nat) (F : GF) (n : Fin 20) (G : Gr ndI H c (F.map (both fI))) (hF : F.length ≤ 100) : E.Spec Try.prog 22 [.a (.bp c 0), iC (fI n)] H fun x H' => x = .c (.a (.t (.sl .un 1 ((cyc ltF F n).map fun x => i64T (fI x))))) ∧ H' = H :=
  Spec.xw (cycleI H c _ _ G (by rw [List.length_map]; omega)) fun x H' ⟨h, h2⟩ => by
    rw [embI.dist, embI.cyc] at h
    rcases h with ⟨h1, h3⟩ | ⟨h1, h3⟩
    · exact ⟨_, by rw [h3]; exact XW.nilU (sz := 1), by rw [cyc_nil.2 h1]; rfl, h2⟩
    · exact ⟨_, by rw [h3]; exact XW.un, by rw [List.map_map]; rfl, h2⟩
theorem two_nodS (H : Heap) (c : Nat) (F : GF) (G : Gr ndS H c (F.map (both fS))) (hF : F.length ≤ 100) : E.Spec Try.prog 34 [.a (.bp c 0)] H fun x H' => x = .c (.a (.t (.sl .un 1 ((nodes ltF F).map fun x => strT (fS x))))) ∧ H' = H :=
  (nodesS H c _ G (by rw [List.length_map]; omega)).mono fun x H' ⟨h, h2⟩ => ⟨by rw [h, embS.nodes]; show X.c (C.a (A.t (T.sl Nz.un 1 (List.map strT (List.map fS _))))) = _; rw [List.map_map]; rfl, h2⟩
theorem two_nodI (H : Heap) (c : Nat) (F : GF) (G : Gr ndI H c (F.map (both fI))) (hF : F.length ≤ 100) : E.Spec Try.prog 17 [.a (.bp c 0)] H fun x H' => x = .c (.a (.t (.sl .un 1 ((nodes ltF F).map fun x => i64T (fI x))))) ∧ H' = H :=
  (nodesI H c _ G (by rw [List.length_map]; omega)).mono fun x H' ⟨h, h2⟩ => ⟨by rw [h, embI.nodes]; show X.c (C.a (A.t (T.sl Nz.un 1 (List.map i64T (List.map fI _))))) = _; rw [List.map_map]; rfl, h2⟩
theorem cycF_len {F : GF} {n : Fin 20} : (cyc ltF F n).length ≤ F.length + 1 := by
  cases h : dist F n n with
  | none => rw [cyc_nil.2 h]; simp
  | some d => rw [(cyc_facts h).1]; exact dist_le h
def runF (l : List (Int × Int)) : GF := l.foldl (fun F e => addE F (q20 e.1) (q20 e.2)) []
theorem runF_take {l : List (Int × Int)} {i : Nat} (h : i < l.length) : runF (l.take (i + 1)) = addE (runF (l.take i)) (q20 l[i].1) (q20 l[i].2) := by
  unfold runF; rw [List.take_add_one, List.getElem?_eq_getElem h]; simp only [List.foldl_append, Option.toList, List.foldl_cons, List.foldl_nil]
theorem runF_len {l : List (Int × Int)} : (runF l).length ≤ l.length := by
  induction l using snoc_ind with
  | h0 => simp [runF]
  | h1 l x ih =>
    have : runF (l ++ [x]) = addE (runF l) (q20 x.1) (q20 x.2) := by simp [runF]
    rw [this]
    have h2 : (addE (runF l) (q20 x.1) (q20 x.2)).length ≤ (runF l).length + 1 := by unfold addE; split <;> simp
    simp; omega
abbrev pT (e : Int × Int) : List E.T := [.v (.int .u8 e.1), .v (.int .u8 e.2)]
abbrev pC (z : Nz) (l : List (Int × Int)) : C := .a (.t (.sl z 2 (l.map pT)))
abbrev f31X : X := tv (.func (.func 31) #[] #[])
theorem name_q (n : Int) (h : 0 ≤ n ∧ n ≤ 255) : Pure Try.prog 31 [.a (.t (.v (.int .u8 n)))] (.c (sC (fS (q20 n)))) := by rw [← q20_S h.1]; exact name_any n h
theorem name_f (n : Fin 20) : Pure Try.prog 31 [.a (.t (.v (.int .u8 (fI n))))] (.c (sC (fS n))) := name_any (fI n) (by have := fI_lt n; omega)

set_option maxRecDepth 20000 in
theorem strings_law (H : Heap) (l : List (Int × Int)) (n : Int) (z : Nz) (hl : ∀ e ∈ l, (0 ≤ e.1 ∧ e.1 ≤ 255) ∧ 0 ≤ e.2 ∧ e.2 ≤ 255) (hn : 0 ≤ n ∧ n ≤ 255) : E.Spec Try.prog 10 [pC z l, .a (.t (.v (.int .u8 n)))] H fun x H' => x = bX true := by
  refine Spec.enter Try.func10 rfl ?_
  refine AW.wk (Wk.keep 104 [(0, .c (pC z l)), (1, .c (.a (.t (.v (.int .u8 n)))))] [] (H) rfl ⟨rfl, rfl, trivial⟩ trivial (fun _ _ h => h) rfl) ?_
  refine AW.seq ?_
  refine AW.reg ?_
  refine SeqK.q (q_asC rfl rfl) rfl rfl rfl ?_
  refine SeqK.nil ?_
  refine AW.seq ?_
  refine AW.seq ?_
  refine AW.reg ?_
  refine SeqK.callE rfl rfl rfl rfl Fx.fn12 rfl (awakeF _) (fun _ _ h => by rw [h.1]; rfl) (fun x13 H13 q13 => ?_)
  obtain ⟨rfl, hF13⟩ := q13
  refine SeqK.q (q_not rfl rfl) rfl rfl rfl ?_
  refine SeqK.q (q_mvC rfl rfl) rfl rfl rfl ?_
  refine SeqK.on (q_mvC rfl rfl) rfl rfl rfl rfl rfl ?_
  refine SeqK.on (q_len rfl Fx.un53 rfl) rfl rfl rfl rfl rfl ?_
  refine SeqK.on (q_gtr rfl rfl rfl) rfl rfl rfl rfl rfl ?_
  refine SeqK.q (q_pkF rfl rfl rfl) rfl rfl rfl ?_
  refine SeqK.nil ?_
  refine AW.condD rfl (fun h19 => ?_) (fun h19 => ?_)
  ·
    refine AW.seq ?_
    refine AW.reg ?_
    refine SeqK.callE rfl rfl rfl rfl Fx.fn12 rfl (awakeF _) (fun _ _ h => by rw [h.1]; rfl) (fun x20 H20 q20 => ?_)
    obtain ⟨rfl, hF20⟩ := q20
    refine SeqK.q (q_asC rfl rfl) rfl rfl rfl ?_
    refine SeqK.nil ?_
    refine AW.ret ?_
    exact fin_x (x := .c _) (_) (.tmp rfl .nil) rfl (fun _ _ h => h) (rfl)
  ·
    have hol : l.length ≤ 30 := by simp at h19; omega
    refine AW.skip ?_
    refine AW.seq ?_
    refine AW.reg ?_
    refine SeqK.callE rfl rfl rfl rfl Fx.fn29 rfl (newS _) (fun _ _ ⟨_, h, _⟩ => by rw [h]; rfl) (fun x21 H21 q21 => ?_)
    obtain ⟨c, rfl, G0, _⟩ := q21
    refine SeqK.callE rfl rfl rfl rfl Fx.fn30 rfl (two_new _ c G0) (fun _ _ ⟨_, h, _⟩ => by rw [h]; rfl) (fun x22 H22 q22 => ?_)
    obtain ⟨c2, rfl, T0⟩ := q22
    refine SeqK.q (q_asC rfl rfl) rfl rfl rfl ?_
    refine SeqK.q (q_asC rfl rfl) rfl rfl rfl ?_
    refine SeqK.nil ?_
    refine AW.seq ?_
    refine AW.seq ?_
    refine AW.reg ?_
    refine SeqK.q (q_mvC rfl rfl) rfl rfl rfl ?_
    refine SeqK.q (q_eqlN rfl rfl rfl Fx.nk54) rfl rfl rfl ?_
    refine SeqK.q (q_mvC rfl rfl) rfl rfl rfl ?_
    refine SeqK.on (q_mvC rfl rfl) rfl rfl rfl rfl rfl ?_
    refine SeqK.on (q_eqlN rfl rfl rfl Fx.nk23) rfl rfl rfl rfl rfl ?_
    refine SeqK.q (q_pkF rfl rfl rfl) rfl rfl rfl ?_
    refine SeqK.nil ?_
    refine AW.condF rfl ?_
    refine AW.skip ?_
    refine AW.seq ?_
    refine AW.reg ?_
    refine SeqK.q (q_asC rfl rfl) rfl rfl rfl ?_
    refine SeqK.nil ?_
    refine AW.seq ?_
    refine AW.seq ?_
    refine AW.reg ?_
    refine SeqK.q (q_mvC rfl rfl) rfl rfl rfl ?_
    refine SeqK.q (q_len rfl Fx.un53 rfl) rfl rfl rfl ?_
    refine SeqK.q (q_mvC rfl rfl) rfl rfl rfl ?_
    refine SeqK.nil ?_
    refine AW.block ?_
    refine AW.loop (fun (i : Nat) s => ∃ (Hx : Heap) (F : GF), (i ≤ l.length ∧ F = runF (l.take i) ∧ Two Hx c c2 F F) ∧ s = ⟨104, sp [(4, bX false), (5, .c (.a (.bp c 0))), (6, .c (.a (.bp c2 0))), (7, f31X), (1, .c (.a (.t (.v (.int .u8 n))))), (29, .c (pC z l)), (30, iX .i64 (((l.map pT).length : Nat) : Int)), (31, iX .i64 ((i : Nat) : Int))], lv [], Hx⟩) (fun i => l.length - i) 0 ⟨_, Wk.keep 104 [(4, bX false), (5, .c (.a (.bp c 0))), (6, .c (.a (.bp c2 0))), (7, f31X), (1, .c (.a (.t (.v (.int .u8 n))))), (29, .c (pC z l)), (30, iX .i64 (((l.map pT).length : Nat) : Int)), (31, iX .i64 ((((0 : Nat)) : Nat) : Int))] [] ((_)) rfl ⟨rfl, rfl, rfl, rfl, rfl, rfl, rfl, rfl, trivial⟩ trivial (fun _ _ h => h) rfl, _, [], ⟨Nat.zero_le _, rfl, T0⟩, rfl⟩ (fun i s hs => ?_)
    obtain ⟨Hx, F, ⟨hi0, hL, T⟩, rfl⟩ := hs
    refine AW.seq ?_
    refine AW.reg ?_
    refine SeqK.q (q_lss rfl rfl rfl) rfl rfl rfl ?_
    refine SeqK.nil ?_
    refine AW.seq ?_
    refine AW.condD rfl (fun h32 => ?_) (fun h32 => ?_)
    ·
      have hi : i < l.length := by simpa using h32
      have he := hl l[i] (List.getElem_mem hi)
      refine AW.skip ?_
      refine AW.seq ?_
      refine AW.block ?_
      refine AW.seq ?_
      refine AW.reg ?_
      refine SeqK.q (q_index _ rfl Fx.sl53 rfl rfl (by omega) (idx_map (f := pT) hi)) rfl rfl rfl ?_
      refine SeqK.q (q_load (.g [_, _]) rfl Fx.ty59 rfl rfl rfl) rfl rfl rfl ?_
      refine SeqK.r (b_alloc (r := [_, _]) rfl rfl Fx.ze59 rfl rfl rfl rfl) rfl ?_
      refine SeqK.r (b_store (r := [_, _]) rfl rfl Fx.ty59 rfl rfl rfl rfl rfl rfl) rfl ?_
      refine SeqK.nil ?_
      refine AW.seq ?_
      refine AW.drawO [0, 1, 2, 3, 5, 6, 7, 10, 11, 12, 13, 14, 15, 16, 17, 18, 4, 8, 9, 19, 20] Fx.mo (by kernel_rfl) ?_
      refine LexO.q rfl (by kernel_rfl) (q_mvC rfl rfl) rfl rfl rfl ?_
      refine LexO.q rfl (by kernel_rfl) (q_mvC rfl rfl) rfl rfl rfl ?_
      refine LexO.q rfl (by kernel_rfl) (q_indexL _ rfl Fx.ar59 rfl rfl (by omega) (by omega) rfl) rfl rfl rfl ?_
      refine LexO.r rfl (by kernel_rfl) (b_load (r := .a _) rfl Fx.ty5 rfl rfl rfl rfl rfl rfl) rfl ?_
      refine LexO.q rfl (by kernel_rfl) (q_mvC rfl rfl) rfl rfl rfl ?_
      refine LexO.q rfl (by kernel_rfl) (q_indexL _ rfl Fx.ar59 rfl rfl (by omega) (by omega) rfl) rfl rfl rfl ?_
      refine LexO.r rfl (by kernel_rfl) (b_load (r := .a _) rfl Fx.ty5 rfl rfl rfl rfl rfl rfl) rfl ?_
      refine LexO.q rfl (by kernel_rfl) (q_mvC rfl rfl) rfl rfl rfl ?_
      refine LexO.q rfl (by kernel_rfl) (q_indexL _ rfl Fx.ar59 rfl rfl (by omega) (by omega) rfl) rfl rfl rfl ?_
      refine LexO.r rfl (by kernel_rfl) (b_load (r := .a _) rfl Fx.ty5 rfl rfl rfl rfl rfl rfl) rfl ?_
      refine LexO.q rfl (by kernel_rfl) (q_remC (c := fI (q20 l[i].1)) rfl rfl rfl (by decide) (q20_I (by omega))) rfl rfl rfl ?_
      refine LexO.q rfl (by kernel_rfl) (q_conv _ rfl Fx.un3 rfl (w64 (by have := fI_lt (q20 l[i].1); omega) (by have := fI_lt (q20 l[i].1); omega)) ⟨_, Fx.un5⟩) rfl rfl rfl ?_
      refine LexO.q rfl (by kernel_rfl) (q_indexL _ rfl Fx.ar59 rfl rfl (by omega) (by omega) rfl) rfl rfl rfl ?_
      refine LexO.r rfl (by kernel_rfl) (b_load (r := .a _) rfl Fx.ty5 rfl rfl rfl rfl rfl rfl) rfl ?_
      refine LexO.q rfl (by kernel_rfl) (q_remC (c := fI (q20 l[i].2)) rfl rfl rfl (by decide) (q20_I (by omega))) rfl rfl rfl ?_
      refine LexO.q rfl (by kernel_rfl) (q_conv _ rfl Fx.un3 rfl (w64 (by have := fI_lt (q20 l[i].2); omega) (by have := fI_lt (q20 l[i].2); omega)) ⟨_, Fx.un5⟩) rfl rfl rfl ?_
      refine LexO.q rfl (by kernel_rfl) (q_callV [.a (.t (.v (.int .u8 l[i].1)))] rfl rfl Fx.fn31 rfl (name_q _ he.1) rfl) rfl rfl rfl ?_
      refine LexO.q rfl (by kernel_rfl) (q_callV [.a (.t (.v (.int .u8 l[i].2)))] rfl rfl Fx.fn31 rfl (name_q _ he.2) rfl) rfl rfl rfl ?_
      refine LexO.callE rfl (by kernel_rfl) (by kernel_rfl) (by kernel_rfl) rfl rfl rfl rfl Fx.fn32 rfl (two_addS _ c c2 F F _ _ T) (fun _ _ h => by rw [h.1]; rfl) (fun x44 H44 q44 => ?_)
      obtain ⟨rfl, T1⟩ := q44
      refine LexO.callE rfl (by kernel_rfl) (by kernel_rfl) (by kernel_rfl) rfl rfl rfl rfl Fx.fn19 rfl (two_addI _ c c2 _ F _ _ T1) (fun _ _ h => by rw [h.1]; rfl) (fun x54 H54 q54 => ?_)
      obtain ⟨rfl, T2⟩ := q54
      refine LexO.q rfl (by kernel_rfl) (q_neqB rfl Fx.un4 rfl rfl) rfl rfl rfl ?_
      refine LexO.nil (by kernel_rfl) ?_
      refine AW.condD rfl (fun h55 => ?_) (fun h55 => ?_)
      ·
        exact absurd rfl h55
      ·
        refine AW.skip ?_
        refine AW.reg ?_
        refine SeqK.q (q_add _ rfl rfl rfl (w64 (by omega) (by omega))) rfl rfl rfl ?_
        refine SeqK.q (q_mvC rfl rfl) rfl rfl rfl ?_
        refine SeqK.nil ?_
        exact ⟨i + 1, _, Wk.keep 104 [(4, bX false), (5, .c (.a (.bp c 0))), (6, .c (.a (.bp c2 0))), (7, f31X), (1, .c (.a (.t (.v (.int .u8 n))))), (29, .c (pC z l)), (30, iX .i64 (((l.map pT).length : Nat) : Int)), (31, iX .i64 (((i + 1) : Nat) : Int))] [] ((_)) rfl ⟨rfl, rfl, rfl, rfl, rfl, rfl, rfl, rfl, trivial⟩ trivial (fun _ _ h => h) rfl, by omega, _, addE F (q20 l[i].1) (q20 l[i].2), ⟨hi, by rw [runF_take hi, ← hL], T2⟩, rfl⟩
    ·
      refine AW.exit ?_
      refine eth_e ?_
      refine eth_e ?_
      refine exit_here ?_
      refine AW.seq ?_
      obtain rfl : i = l.length := by simp at h32; omega
      rw [List.take_length] at hL
      have hF : F.length ≤ 100 := by rw [hL]; have := runF_len (l := l); omega
      refine AW.reg ?_
      refine SeqK.q (q_mvC rfl rfl) rfl rfl rfl ?_
      refine SeqK.q (q_mvC rfl rfl) rfl rfl rfl ?_
      refine SeqK.q (q_mvC rfl rfl) rfl rfl rfl ?_
      refine SeqK.q (q_callV [.a (.t (.v (.int .u8 n)))] rfl rfl Fx.fn31 rfl (name_q _ hn) rfl) rfl rfl rfl ?_
      refine SeqK.callE rfl rfl rfl rfl Fx.fn33 rfl (two_cycS _ c F (q20 n) T.S hF) (fun _ _ h => by rw [h.1]; rfl) (fun x61 H61 q61 => ?_)
      obtain ⟨rfl, hH⟩ := q61
      replace hH := hH.symm
      subst hH
      refine SeqK.q (q_mvC rfl rfl) rfl rfl rfl ?_
      refine SeqK.q (q_mvC rfl rfl) rfl rfl rfl ?_
      refine SeqK.q (q_remC (c := fI (q20 n)) rfl rfl rfl (by decide) (q20_I (by omega))) rfl rfl rfl ?_
      refine SeqK.q (q_conv _ rfl Fx.un3 rfl (w64 (by have := fI_lt (q20 n); omega) (by have := fI_lt (q20 n); omega)) ⟨_, Fx.un5⟩) rfl rfl rfl ?_
      refine SeqK.callE rfl rfl rfl rfl Fx.fn22 rfl (two_cycI _ c2 F (q20 n) T.I hF) (fun _ _ h => by rw [h.1]; rfl) (fun x66 H66 q66 => ?_)
      obtain ⟨rfl, hH⟩ := q66
      replace hH := hH.symm
      subst hH
      refine SeqK.q (q_asC rfl rfl) rfl rfl rfl ?_
      refine SeqK.q (q_asC rfl rfl) rfl rfl rfl ?_
      refine SeqK.nil ?_
      refine AW.seq ?_
      refine AW.seq ?_
      have hcl := cycF_len (F := F) (n := q20 n)
      refine AW.reg ?_
      refine SeqK.q (q_mvC rfl rfl) rfl rfl rfl ?_
      refine SeqK.q (q_len rfl Fx.un61 rfl) rfl rfl rfl ?_
      refine SeqK.q (q_mvC rfl rfl) rfl rfl rfl ?_
      refine SeqK.q (q_len rfl Fx.un30 rfl) rfl rfl rfl ?_
      refine SeqK.q (q_neq rfl rfl rfl) rfl rfl rfl ?_
      refine SeqK.nil ?_
      refine AW.condD rfl (fun h71 => ?_) (fun h71 => ?_)
      ·
        exact absurd (by simp) h71
      ·
        refine AW.skip ?_
        refine AW.seq ?_
        refine AW.seq ?_
        refine AW.reg ?_
        refine SeqK.q (q_mvC rfl rfl) rfl rfl rfl ?_
        refine SeqK.q (q_len rfl Fx.un61 rfl) rfl rfl rfl ?_
        refine SeqK.q (q_mvC rfl rfl) rfl rfl rfl ?_
        refine SeqK.nil ?_
        refine AW.block ?_
        refine AW.loop (fun (j : Nat) s => (j ≤ (cyc ltF F (q20 n)).length) ∧ s = ⟨104, sp [(4, bX false), (5, .c (.a (.bp c 0))), (6, .c (.a (.bp c2 0))), (7, f31X), (10, .c (.a (.t (.sl .un 1 ((cyc ltF F (q20 n)).map fun x => strT (fS x)))))), (11, .c (.a (.t (.sl .un 1 ((cyc ltF F (q20 n)).map fun x => i64T (fI x)))))), (73, iX .i64 ((((cyc ltF F (q20 n)).map fun x => strT (fS x)).length : Nat) : Int)), (74, iX .i64 ((j : Nat) : Int))], lv [], Hx⟩) (fun j => (cyc ltF F (q20 n)).length - j) 0 ⟨_, Wk.keep 104 [(4, bX false), (5, .c (.a (.bp c 0))), (6, .c (.a (.bp c2 0))), (7, f31X), (10, .c (.a (.t (.sl .un 1 ((cyc ltF F (q20 n)).map fun x => strT (fS x)))))), (11, .c (.a (.t (.sl .un 1 ((cyc ltF F (q20 n)).map fun x => i64T (fI x)))))), (73, iX .i64 ((((cyc ltF F (q20 n)).map fun x => strT (fS x)).length : Nat) : Int)), (74, iX .i64 ((((0 : Nat)) : Nat) : Int))] [] (Hx) rfl ⟨rfl, rfl, rfl, rfl, rfl, rfl, rfl, rfl, trivial⟩ trivial (fun _ _ h => h) rfl, Nat.zero_le _, rfl⟩ (fun j s hs => ?_)
        obtain ⟨hj0, rfl⟩ := hs
        refine AW.seq ?_
        refine AW.reg ?_
        refine SeqK.q (q_lss rfl rfl rfl) rfl rfl rfl ?_
        refine SeqK.nil ?_
        refine AW.seq ?_
        refine AW.condD rfl (fun h75 => ?_) (fun h75 => ?_)
        ·
          have hj : j < (cyc ltF F (q20 n)).length := by simpa using h75
          refine AW.skip ?_
          refine AW.seq ?_
          refine AW.block ?_
          refine AW.seq ?_
          refine AW.reg ?_
          refine SeqK.q (q_mvC rfl rfl) rfl rfl rfl ?_
          refine SeqK.q (q_asC rfl rfl) rfl rfl rfl ?_
          refine SeqK.nil ?_
          refine AW.seq ?_
          refine AW.draw Fx.mo ?_
          refine LexK.q (q_mvC rfl rfl) rfl rfl rfl ?_
          refine LexK.q (q_mvC rfl rfl) rfl rfl rfl ?_
          refine LexK.q (q_index _ rfl Fx.sl30 rfl rfl (by omega) (idx_map (f := fun x => i64T (fI x)) hj)) rfl rfl rfl ?_
          refine LexK.q (q_load (.a _) rfl Fx.ty3 rfl rfl rfl) rfl rfl rfl ?_
          refine LexK.q (q_lss rfl rfl rfl) rfl rfl rfl ?_
          refine LexK.qD (q_mvC rfl rfl) rfl rfl rfl (fun g82 => ?_) (fun g82 => ?_)
          ·
            exact absurd g82 (by have := fI_lt (cyc ltF F (q20 n))[j]; omega)
          ·
            refine LexK.on (q_mvC rfl rfl) rfl rfl rfl rfl rfl ?_
            refine LexK.on (q_mvC rfl rfl) rfl rfl rfl rfl rfl ?_
            refine LexK.on (q_index _ rfl Fx.sl61 rfl rfl (by omega) (idx_map (f := fun x => strT (fS x)) hj)) rfl rfl rfl rfl rfl ?_
            refine LexK.on (q_load (.a _) rfl Fx.ty9 rfl rfl rfl) rfl rfl rfl rfl rfl ?_
            refine LexK.on (q_mvC rfl rfl) rfl rfl rfl rfl rfl ?_
            refine LexK.on (q_mvC rfl rfl) rfl rfl rfl rfl rfl ?_
            refine LexK.on (q_mvC rfl rfl) rfl rfl rfl rfl rfl ?_
            refine LexK.on (q_index _ rfl Fx.sl30 rfl rfl (by omega) (idx_map (f := fun x => i64T (fI x)) hj)) rfl rfl rfl rfl rfl ?_
            refine LexK.on (q_load (.a _) rfl Fx.ty3 rfl rfl rfl) rfl rfl rfl rfl rfl ?_
            refine LexK.on (q_conv _ rfl Fx.un5 rfl (w8 (by have := fI_lt (cyc ltF F (q20 n))[j]; omega) (by have := fI_lt (cyc ltF F (q20 n))[j]; omega)) ⟨_, Fx.un3⟩) rfl rfl rfl rfl rfl ?_
            refine LexK.on (q_callV [.a (.t (.v (.int .u8 (fI (cyc ltF F (q20 n))[j]))))] rfl rfl Fx.fn31 rfl (name_f _) rfl) rfl rfl rfl rfl rfl ?_
            refine LexK.on (q_neqS rfl rfl rfl) rfl rfl rfl rfl rfl ?_
            refine LexK.q (q_pkF rfl rfl rfl) rfl rfl rfl ?_
            refine LexK.nil (by kernel_rfl) ?_
            refine AW.condD rfl (fun h95 => ?_) (fun h95 => ?_)
            ·
              exact absurd rfl h95
            ·
              refine AW.skip ?_
              refine AW.reg ?_
              refine SeqK.q (q_add _ rfl rfl rfl (w64 (by omega) (by omega))) rfl rfl rfl ?_
              refine SeqK.q (q_mvC rfl rfl) rfl rfl rfl ?_
              refine SeqK.nil ?_
              exact ⟨j + 1, _, Wk.keep 104 [(4, bX false), (5, .c (.a (.bp c 0))), (6, .c (.a (.bp c2 0))), (7, f31X), (10, .c (.a (.t (.sl .un 1 ((cyc ltF F (q20 n)).map fun x => strT (fS x)))))), (11, .c (.a (.t (.sl .un 1 ((cyc ltF F (q20 n)).map fun x => i64T (fI x)))))), (73, iX .i64 ((((cyc ltF F (q20 n)).map fun x => strT (fS x)).length : Nat) : Int)), (74, iX .i64 (((j + 1) : Nat) : Int))] [] (Hx) rfl ⟨rfl, rfl, rfl, rfl, rfl, rfl, rfl, rfl, trivial⟩ trivial (fun _ _ h => h) rfl, by omega, hj, rfl⟩
        ·
          refine AW.exit ?_
          refine eth_e ?_
          refine eth_e ?_
          refine exit_here ?_
          refine AW.seq ?_
          refine AW.reg ?_
          refine SeqK.q (q_mvC rfl rfl) rfl rfl rfl ?_
          refine SeqK.callE rfl rfl rfl rfl Fx.fn34 rfl (two_nodS _ c F T.S hF) (fun _ _ h => by rw [h.1]; rfl) (fun x98 H98 q98 => ?_)
          obtain ⟨rfl, hH⟩ := q98
          replace hH := hH.symm
          subst hH
          refine SeqK.q (q_len rfl Fx.un61 rfl) rfl rfl rfl ?_
          refine SeqK.q (q_mvC rfl rfl) rfl rfl rfl ?_
          refine SeqK.callE rfl rfl rfl rfl Fx.fn17 rfl (two_nodI _ c2 F T.I hF) (fun _ _ h => by rw [h.1]; rfl) (fun x101 H101 q101 => ?_)
          obtain ⟨rfl, hH⟩ := q101
          replace hH := hH.symm
          subst hH
          refine SeqK.q (q_len rfl Fx.un30 rfl) rfl rfl rfl ?_
          refine SeqK.q (q_eql rfl rfl rfl) rfl rfl rfl ?_
          refine SeqK.q (q_asC rfl rfl) rfl rfl rfl ?_
          refine SeqK.nil ?_
          refine AW.ret ?_
          exact fin_x (x := .c _) (_) (.tmp rfl .nil) rfl (fun _ _ h => h) (by simp)

theorem strings_any (ls : List (List Int)) (n : Int) (hl : ∀ x ∈ ls, x.length = 2 ∧ ∀ i ∈ x, (Lit.int .u8 i).wf = true) (hn : 0 ≤ n ∧ n ≤ 255) (H : Heap) : E.Spec Try.prog 10 [.a (.t (.sl .un 2 (ls.map fun x => (x.map (fun x : Int => ([.v (.int .u8 x)] : List E.T))).flatten))), .a (.t (.v (.int .u8 n)))] H fun x H' => x = bX true := by
  have e : ls.map (fun x => (x.map (fun x : Int => ([.v (.int .u8 x)] : List E.T))).flatten) = (ls.map fun x => (x.getD 0 0, x.getD 1 0)).map pT := by
    rw [List.map_map]
    refine List.map_congr_left fun x hx => ?_
    match x, (hl x hx).1 with
    | [a, b], _ => rfl
  rw [e]
  refine strings_law H _ n .un (fun e he => ?_) hn
  obtain ⟨x, hx, rfl⟩ := List.mem_map.1 he
  match x, hl x hx with
  | [a, b], ⟨_, h⟩ =>
    have ha := h a (by simp)
    have hb := h b (by simp)
    exact ⟨⟨of_decide_eq_true (Bool.and_eq_true_iff.1 ha).1, of_decide_eq_true (Bool.and_eq_true_iff.1 ha).2⟩, of_decide_eq_true (Bool.and_eq_true_iff.1 hb).1, of_decide_eq_true (Bool.and_eq_true_iff.1 hb).2⟩

end Go.Proofs.Ytikcmjamioopbaa.W
