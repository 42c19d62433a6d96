/- Parts of the proof, one after the other: W20, W21. No condition. -/
import Derived.Test.YtikcmjamioopbaaM12
namespace Go.Proofs.Ytikcmjamioopbaa.W
open Go.RowKit E M
set_option linter.unusedVariables false
set_option linter.unusedSimpArgs false
set_option linter.unusedSectionVars false
theorem dist_gone' {L : GE} {n : Int} (h : ∀ e ∈ L, e.1 ≠ n) : (dist L n n).isSome = false := by rw [dist_gone h]; rfl
theorem isSome_trans {L : GE} {a b c : Int} (h1 : (dist L a b).isSome = true) (h2 : (dist L b c).isSome = true) : (dist L a c).isSome = true := by
  have := dist_trans (L := L) (a := a) (b := b) (c := c) (fun e => by rw [e] at h1; cases h1) (fun e => by rw [e] at h2; cases h2)
  cases h : dist L a c with
  | none => exact absurd h this
  | some d => rfl
theorem far_ge {L : GE} {a b : Int} : decide (0 ≤ farZ L a b) = (dist L a b).isSome := by
  unfold farZ
  cases dist L a b with
  | none => rfl
  | some d => simp

set_option maxRecDepth 20000 in
theorem reaches_lawB (H : Heap) (ops : List Act') (z : Nz) (a b c9 : Int) (hl : 30 < ops.length) : E.Spec Try.prog 5 [opsC z ops, .g [.t (.v (.int .i8 a)), .t (.v (.int .i8 b)), .t (.v (.int .i8 c9))]] H fun x H' => x = bX true := by
  refine Spec.enter Try.func5 rfl ?_
  refine AW.wk (Wk.keep 60 [(0, .c (opsC z ops)), (1, .c (.g [.t (.v (.int .i8 a)), .t (.v (.int .i8 b)), .t (.v (.int .i8 c9))]))] [] (H) rfl ⟨rfl, rfl, trivial⟩ trivial (fun _ _ h => h) rfl) ?_
  refine AW.seq ?_
  refine AW.reg ?_
  refine SeqK.r (b_box (r := [_, _, _]) rfl rfl rfl rfl rfl rfl) rfl ?_
  refine SeqK.q (q_asC rfl rfl) rfl rfl rfl ?_
  refine SeqK.nil ?_
  refine AW.seq ?_
  refine AW.reg ?_
  refine SeqK.q (q_mvC rfl rfl) rfl rfl rfl ?_
  refine SeqK.callE rfl rfl rfl rfl Fx.fn11 rfl (runB _ ops z hl) (fun _ _ h => by rw [h]; rfl) (fun x13 H13 q13 => ?_)
  have h13 := q13
  subst h13
  refine SeqK.q (q_mvT rfl rfl) rfl rfl rfl ?_
  refine SeqK.q (q_extract _ rfl rfl rfl) rfl rfl rfl ?_
  refine SeqK.q (q_extract _ rfl rfl rfl) rfl rfl rfl ?_
  refine SeqK.q (q_extract _ rfl rfl rfl) rfl rfl rfl ?_
  refine SeqK.r (b_alloc (r := [_]) rfl rfl Fx.ze26 rfl rfl rfl rfl) rfl ?_
  refine SeqK.q (q_asC rfl rfl) rfl rfl rfl ?_
  refine SeqK.r (b_store (r := [_]) rfl rfl Fx.ty26 rfl rfl rfl rfl rfl rfl) rfl ?_
  refine SeqK.q (q_asC rfl rfl) rfl rfl rfl ?_
  refine SeqK.nil ?_
  refine AW.seq ?_
  refine AW.seq ?_
  refine AW.reg ?_
  refine SeqK.callE rfl rfl rfl rfl Fx.fn12 rfl (awakeF _) (fun _ _ h => by rw [h.1]; rfl) (fun x17 H17 q17 => ?_)
  obtain ⟨rfl, hF17⟩ := q17
  refine SeqK.q (q_not rfl rfl) rfl rfl rfl ?_
  refine SeqK.q (q_mvC rfl rfl) rfl rfl rfl ?_
  refine SeqK.on (q_mvC rfl rfl) rfl rfl rfl rfl rfl ?_
  refine SeqK.on (q_eqlN rfl rfl rfl Fx.nk23) rfl rfl rfl rfl rfl ?_
  refine SeqK.q (q_pkF rfl rfl rfl) rfl rfl rfl ?_
  refine SeqK.nil ?_
  refine AW.condT rfl ?_
  refine AW.seq ?_
  refine AW.reg ?_
  refine SeqK.callE rfl rfl rfl rfl Fx.fn12 rfl (awakeF _) (fun _ _ h => by rw [h.1]; rfl) (fun x23 H23 q23 => ?_)
  obtain ⟨rfl, hF23⟩ := q23
  refine SeqK.q (q_asC rfl rfl) rfl rfl rfl ?_
  refine SeqK.nil ?_
  refine AW.ret ?_
  exact fin_x (x := .c _) (_) (.tmp rfl .nil) rfl (fun _ _ h => h) (rfl)
set_option maxRecDepth 20000 in
theorem reaches_lawS (H : Heap) (ops : List Act') (z : Nz) (a b c9 : Int) (hl : ¬ 30 < ops.length) : E.Spec Try.prog 5 [opsC z ops, .g [.t (.v (.int .i8 a)), .t (.v (.int .i8 b)), .t (.v (.int .i8 c9))]] H fun x H' => x = bX true := by
  refine Spec.enter Try.func5 rfl ?_
  refine AW.wk (Wk.keep 60 [(0, .c (opsC z ops)), (1, .c (.g [.t (.v (.int .i8 a)), .t (.v (.int .i8 b)), .t (.v (.int .i8 c9))]))] [] (H) rfl ⟨rfl, rfl, trivial⟩ trivial (fun _ _ h => h) rfl) ?_
  refine AW.seq ?_
  refine AW.reg ?_
  refine SeqK.r (b_box (r := [_, _, _]) rfl rfl rfl rfl rfl rfl) rfl ?_
  refine SeqK.q (q_asC rfl rfl) rfl rfl rfl ?_
  refine SeqK.nil ?_
  refine AW.seq ?_
  refine AW.reg ?_
  refine SeqK.q (q_mvC rfl rfl) rfl rfl rfl ?_
  refine SeqK.callE rfl rfl rfl rfl Fx.fn11 rfl (runS _ ops z hl) (fun _ _ ⟨_, h, _⟩ => by rw [h]; rfl) (fun x13 H13 q13 => ?_)
  obtain ⟨c, rfl, G⟩ := q13
  refine SeqK.q (q_mvT rfl rfl) rfl rfl rfl ?_
  refine SeqK.q (q_extract _ rfl rfl rfl) rfl rfl rfl ?_
  refine SeqK.q (q_extract _ rfl rfl rfl) rfl rfl rfl ?_
  refine SeqK.q (q_extract _ rfl rfl rfl) rfl rfl rfl ?_
  refine SeqK.r (b_alloc (r := [_]) rfl rfl Fx.ze26 rfl rfl rfl rfl) rfl ?_
  refine SeqK.q (q_asC rfl rfl) rfl rfl rfl ?_
  refine SeqK.r (b_store (r := [_]) rfl rfl Fx.ty26 rfl rfl rfl rfl rfl rfl) rfl ?_
  refine SeqK.q (q_asC rfl rfl) rfl rfl rfl ?_
  refine SeqK.nil ?_
  refine AW.seq ?_
  refine AW.seq ?_
  refine AW.reg ?_
  refine SeqK.callE rfl rfl rfl rfl Fx.fn12 rfl (awakeF _) (fun _ _ h => by rw [h.1]; rfl) (fun x17 H17 q17 => ?_)
  obtain ⟨rfl, hF17⟩ := q17
  replace G := G.full hF17
  refine SeqK.q (q_not rfl rfl) rfl rfl rfl ?_
  refine SeqK.q (q_mvC rfl rfl) rfl rfl rfl ?_
  refine SeqK.on (q_mvC rfl rfl) rfl rfl rfl rfl rfl ?_
  refine SeqK.on (q_eqlN rfl rfl rfl Fx.nk23) rfl rfl rfl rfl rfl ?_
  refine SeqK.q (q_pkF rfl rfl rfl) rfl rfl rfl ?_
  refine SeqK.nil ?_
  refine AW.condF rfl ?_
  refine AW.skip ?_
  refine AW.seq ?_
  have hrl := runE_len (ops := ops)
  refine AW.draw Fx.mo ?_
  refine LexK.q (q_indexL _ rfl Fx.ar43 rfl rfl (by omega) (by omega) rfl) rfl rfl rfl ?_
  refine LexK.r (b_load (r := .a _) rfl Fx.ty37 rfl rfl rfl rfl rfl rfl) rfl ?_
  refine LexK.q (q_conv _ rfl Fx.un3 rfl (rfl) ⟨_, Fx.un37⟩) rfl rfl rfl ?_
  refine LexK.q (q_indexL _ rfl Fx.ar43 rfl rfl (by omega) (by omega) rfl) rfl rfl rfl ?_
  refine LexK.r (b_load (r := .a _) rfl Fx.ty37 rfl rfl rfl rfl rfl rfl) rfl ?_
  refine LexK.q (q_conv _ rfl Fx.un3 rfl (rfl) ⟨_, Fx.un37⟩) rfl rfl rfl ?_
  refine LexK.q (q_indexL _ rfl Fx.ar43 rfl rfl (by omega) (by omega) rfl) rfl rfl rfl ?_
  refine LexK.r (b_load (r := .a _) rfl Fx.ty37 rfl rfl rfl rfl rfl rfl) rfl ?_
  refine LexK.q (q_conv _ rfl Fx.un3 rfl (rfl) ⟨_, Fx.un37⟩) rfl rfl rfl ?_
  refine LexK.q (q_asC rfl rfl) rfl rfl rfl ?_
  refine LexK.q (q_asC rfl rfl) rfl rfl rfl ?_
  refine LexK.q (q_asC rfl rfl) rfl rfl rfl ?_
  refine LexK.nil (by kernel_rfl) ?_
  refine AW.seq ?_
  refine AW.seq ?_
  refine AW.reg ?_
  refine SeqK.q (q_mvC rfl rfl) rfl rfl rfl ?_
  refine SeqK.q (q_mvC rfl rfl) rfl rfl rfl ?_
  refine SeqK.q (q_mvC rfl rfl) rfl rfl rfl ?_
  refine SeqK.r (g_call rfl Fx.fn20 rfl (reachesI _ c _ _ _ G (by omega)) rfl rfl rfl) rfl ?_
  refine SeqK.qB (q_mvC rfl rfl) rfl rfl rfl (fun g37 => ?_) (fun g37 => ?_)
  ·
    refine SeqK.on (q_mvC rfl rfl) rfl rfl rfl rfl rfl ?_
    refine SeqK.on (q_mvC rfl rfl) rfl rfl rfl rfl rfl ?_
    refine SeqK.on (q_mvC rfl rfl) rfl rfl rfl rfl rfl ?_
    refine SeqK.rOn (g_call rfl Fx.fn20 rfl (reachesI _ c _ _ _ G (by omega)) rfl rfl rfl) rfl rfl rfl ?_
    refine SeqK.q (q_pkT rfl rfl rfl) rfl rfl rfl ?_
    refine SeqK.qB (q_mvC rfl rfl) rfl rfl rfl (fun g43 => ?_) (fun g43 => ?_)
    ·
      refine SeqK.on (q_mvC rfl rfl) rfl rfl rfl rfl rfl ?_
      refine SeqK.on (q_mvC rfl rfl) rfl rfl rfl rfl rfl ?_
      refine SeqK.on (q_mvC rfl rfl) rfl rfl rfl rfl rfl ?_
      refine SeqK.rOn (g_call rfl Fx.fn20 rfl (reachesI _ c _ _ _ G (by omega)) rfl rfl rfl) rfl rfl rfl ?_
      refine SeqK.on (q_not rfl rfl) rfl rfl rfl rfl rfl ?_
      refine SeqK.q (q_pkT rfl rfl rfl) rfl rfl rfl ?_
      refine SeqK.nil ?_
      refine AW.cond _ rfl (fun h49 => ?_) (fun h49 => ?_)
      ·
        exfalso
        have h8 : (dist (runE ops) (i8 a) (i8 c9)).isSome = false := by simpa using h49
        rw [isSome_trans g37 g43] at h8
        cases h8
      ·
        refine AW.skip ?_
        refine AW.seq ?_
        refine AW.draw Fx.mo ?_
        refine LexK.q (q_mvC rfl rfl) rfl rfl rfl ?_
        refine LexK.q (q_mvC rfl rfl) rfl rfl rfl ?_
        refine LexK.q (q_mvC rfl rfl) rfl rfl rfl ?_
        refine LexK.r (g_call rfl Fx.fn20 rfl (reachesI _ c _ _ _ G (by omega)) rfl rfl rfl) rfl ?_
        refine LexK.r (b_load (r := .g [_]) rfl Fx.ty26 rfl rfl rfl rfl rfl rfl) rfl ?_
        refine LexK.q (q_mvC rfl rfl) rfl rfl rfl ?_
        refine LexK.q (q_mvC rfl rfl) rfl rfl rfl ?_
        refine LexK.q (q_call _ rfl Fx.fn21 rfl (far_any _ _ _ (by omega)) rfl) rfl rfl rfl ?_
        refine LexK.q (q_geq rfl rfl rfl) rfl rfl rfl ?_
        refine LexK.q (q_eqlB rfl Fx.un4 rfl rfl) rfl rfl rfl ?_
        refine LexK.q (q_asC rfl rfl) rfl rfl rfl ?_
        refine LexK.nil (by kernel_rfl) ?_
        refine AW.ret ?_
        exact fin_x (x := .c _) (_) (.tmp rfl .nil) rfl (fun _ _ h => h) (by first | rfl | (congr 5; rw [← far_ge]; simp))
    ·
      refine SeqK.off rfl rfl rfl rfl rfl rfl ?_
      refine SeqK.off rfl rfl rfl rfl rfl rfl ?_
      refine SeqK.off rfl rfl rfl rfl rfl rfl ?_
      refine SeqK.off rfl rfl rfl rfl rfl rfl ?_
      refine SeqK.off rfl rfl rfl rfl rfl rfl ?_
      refine SeqK.q (q_pkF rfl rfl rfl) rfl rfl rfl ?_
      refine SeqK.nil ?_
      refine AW.condF rfl ?_
      refine AW.skip ?_
      refine AW.seq ?_
      refine AW.draw Fx.mo ?_
      refine LexK.q (q_mvC rfl rfl) rfl rfl rfl ?_
      refine LexK.q (q_mvC rfl rfl) rfl rfl rfl ?_
      refine LexK.q (q_mvC rfl rfl) rfl rfl rfl ?_
      refine LexK.r (g_call rfl Fx.fn20 rfl (reachesI _ c _ _ _ G (by omega)) rfl rfl rfl) rfl ?_
      refine LexK.r (b_load (r := .g [_]) rfl Fx.ty26 rfl rfl rfl rfl rfl rfl) rfl ?_
      refine LexK.q (q_mvC rfl rfl) rfl rfl rfl ?_
      refine LexK.q (q_mvC rfl rfl) rfl rfl rfl ?_
      refine LexK.q (q_call _ rfl Fx.fn21 rfl (far_any _ _ _ (by omega)) rfl) rfl rfl rfl ?_
      refine LexK.q (q_geq rfl rfl rfl) rfl rfl rfl ?_
      refine LexK.q (q_eqlB rfl Fx.un4 rfl rfl) rfl rfl rfl ?_
      refine LexK.q (q_asC rfl rfl) rfl rfl rfl ?_
      refine LexK.nil (by kernel_rfl) ?_
      refine AW.ret ?_
      exact fin_x (x := .c _) (_) (.tmp rfl .nil) rfl (fun _ _ h => h) (by first | rfl | (congr 5; rw [← far_ge]; simp))
  ·
    refine SeqK.off rfl rfl rfl rfl rfl rfl ?_
    refine SeqK.off rfl rfl rfl rfl rfl rfl ?_
    refine SeqK.off rfl rfl rfl rfl rfl rfl ?_
    refine SeqK.off rfl rfl rfl rfl rfl rfl ?_
    refine SeqK.q (q_pkF rfl rfl rfl) rfl rfl rfl ?_
    refine SeqK.q (q_mvC rfl rfl) rfl rfl rfl ?_
    refine SeqK.off rfl rfl rfl rfl rfl rfl ?_
    refine SeqK.off rfl rfl rfl rfl rfl rfl ?_
    refine SeqK.off rfl rfl rfl rfl rfl rfl ?_
    refine SeqK.off rfl rfl rfl rfl rfl rfl ?_
    refine SeqK.off rfl rfl rfl rfl rfl rfl ?_
    refine SeqK.q (q_pkF rfl rfl rfl) rfl rfl rfl ?_
    refine SeqK.nil ?_
    refine AW.condF rfl ?_
    refine AW.skip ?_
    refine AW.seq ?_
    refine AW.draw Fx.mo ?_
    refine LexK.q (q_mvC rfl rfl) rfl rfl rfl ?_
    refine LexK.q (q_mvC rfl rfl) rfl rfl rfl ?_
    refine LexK.q (q_mvC rfl rfl) rfl rfl rfl ?_
    refine LexK.r (g_call rfl Fx.fn20 rfl (reachesI _ c _ _ _ G (by omega)) rfl rfl rfl) rfl ?_
    refine LexK.r (b_load (r := .g [_]) rfl Fx.ty26 rfl rfl rfl rfl rfl rfl) rfl ?_
    refine LexK.q (q_mvC rfl rfl) rfl rfl rfl ?_
    refine LexK.q (q_mvC rfl rfl) rfl rfl rfl ?_
    refine LexK.q (q_call _ rfl Fx.fn21 rfl (far_any _ _ _ (by omega)) rfl) rfl rfl rfl ?_
    refine LexK.q (q_geq rfl rfl rfl) rfl rfl rfl ?_
    refine LexK.q (q_eqlB rfl Fx.un4 rfl rfl) rfl rfl rfl ?_
    refine LexK.q (q_asC rfl rfl) rfl rfl rfl ?_
    refine LexK.nil (by kernel_rfl) ?_
    refine AW.ret ?_
    exact fin_x (x := .c _) (_) (.tmp rfl .nil) rfl (fun _ _ h => h) (by first | rfl | (congr 5; rw [← far_ge]; simp))

set_option maxRecDepth 20000 in
theorem cycle_lawB (H : Heap) (ops : List Act') (z : Nz) (n : Int) (hl : 30 < ops.length) : E.Spec Try.prog 6 [opsC z ops, .a (.t (.v (.int .i8 n)))] H fun x H' => x = bX true := by
  refine Spec.enter Try.func6 rfl ?_
  refine AW.wk (Wk.keep 40 [(0, .c (opsC z ops)), (1, .c (.a (.t (.v (.int .i8 n)))))] [] (H) rfl ⟨rfl, rfl, trivial⟩ trivial (fun _ _ h => h) rfl) ?_
  refine AW.seq ?_
  refine AW.reg ?_
  refine SeqK.q (q_asC rfl rfl) rfl rfl rfl ?_
  refine SeqK.nil ?_
  refine AW.seq ?_
  refine AW.reg ?_
  refine SeqK.q (q_mvC rfl rfl) rfl rfl rfl ?_
  refine SeqK.callE rfl rfl rfl rfl Fx.fn11 rfl (runB _ ops z hl) (fun _ _ h => by rw [h]; rfl) (fun x11 H11 q11 => ?_)
  have h11 := q11
  subst h11
  refine SeqK.q (q_mvT rfl rfl) rfl rfl rfl ?_
  refine SeqK.q (q_extract _ rfl rfl rfl) rfl rfl rfl ?_
  refine SeqK.q (q_extract _ rfl rfl rfl) rfl rfl rfl ?_
  refine SeqK.q (q_extract _ rfl rfl rfl) rfl rfl rfl ?_
  refine SeqK.r (b_alloc (r := [_]) rfl rfl Fx.ze26 rfl rfl rfl rfl) rfl ?_
  refine SeqK.q (q_asC rfl rfl) rfl rfl rfl ?_
  refine SeqK.r (b_store (r := [_]) rfl rfl Fx.ty26 rfl rfl rfl rfl rfl rfl) rfl ?_
  refine SeqK.q (q_asC rfl rfl) rfl rfl rfl ?_
  refine SeqK.nil ?_
  refine AW.seq ?_
  refine AW.seq ?_
  refine AW.reg ?_
  refine SeqK.callE rfl rfl rfl rfl Fx.fn12 rfl (awakeF _) (fun _ _ h => by rw [h.1]; rfl) (fun x15 H15 q15 => ?_)
  obtain ⟨rfl, hF15⟩ := q15
  refine SeqK.q (q_not rfl rfl) rfl rfl rfl ?_
  refine SeqK.q (q_mvC rfl rfl) rfl rfl rfl ?_
  refine SeqK.on (q_mvC rfl rfl) rfl rfl rfl rfl rfl ?_
  refine SeqK.on (q_eqlN rfl rfl rfl Fx.nk23) rfl rfl rfl rfl rfl ?_
  refine SeqK.q (q_pkF rfl rfl rfl) rfl rfl rfl ?_
  refine SeqK.nil ?_
  refine AW.condT rfl ?_
  refine AW.seq ?_
  refine AW.reg ?_
  refine SeqK.callE rfl rfl rfl rfl Fx.fn12 rfl (awakeF _) (fun _ _ h => by rw [h.1]; rfl) (fun x21 H21 q21 => ?_)
  obtain ⟨rfl, hF21⟩ := q21
  refine SeqK.q (q_asC rfl rfl) rfl rfl rfl ?_
  refine SeqK.nil ?_
  refine AW.ret ?_
  exact fin_x (x := .c _) (_) (.tmp rfl .nil) rfl (fun _ _ h => h) (rfl)
set_option maxRecDepth 20000 in
theorem cycle_lawS (H : Heap) (ops : List Act') (z : Nz) (n : Int) (hl : ¬ 30 < ops.length) : E.Spec Try.prog 6 [opsC z ops, .a (.t (.v (.int .i8 n)))] H fun x H' => x = bX true := by
  refine Spec.enter Try.func6 rfl ?_
  refine AW.wk (Wk.keep 40 [(0, .c (opsC z ops)), (1, .c (.a (.t (.v (.int .i8 n)))))] [] (H) rfl ⟨rfl, rfl, trivial⟩ trivial (fun _ _ h => h) rfl) ?_
  refine AW.seq ?_
  refine AW.reg ?_
  refine SeqK.q (q_asC rfl rfl) rfl rfl rfl ?_
  refine SeqK.nil ?_
  refine AW.seq ?_
  refine AW.reg ?_
  refine SeqK.q (q_mvC rfl rfl) rfl rfl rfl ?_
  refine SeqK.callE rfl rfl rfl rfl Fx.fn11 rfl (runS _ ops z hl) (fun _ _ ⟨_, h, _⟩ => by rw [h]; rfl) (fun x11 H11 q11 => ?_)
  obtain ⟨c, rfl, G⟩ := q11
  refine SeqK.q (q_mvT rfl rfl) rfl rfl rfl ?_
  refine SeqK.q (q_extract _ rfl rfl rfl) rfl rfl rfl ?_
  refine SeqK.q (q_extract _ rfl rfl rfl) rfl rfl rfl ?_
  refine SeqK.q (q_extract _ rfl rfl rfl) rfl rfl rfl ?_
  refine SeqK.r (b_alloc (r := [_]) rfl rfl Fx.ze26 rfl rfl rfl rfl) rfl ?_
  refine SeqK.q (q_asC rfl rfl) rfl rfl rfl ?_
  refine SeqK.r (b_store (r := [_]) rfl rfl Fx.ty26 rfl rfl rfl rfl rfl rfl) rfl ?_
  refine SeqK.q (q_asC rfl rfl) rfl rfl rfl ?_
  refine SeqK.nil ?_
  refine AW.seq ?_
  refine AW.seq ?_
  refine AW.reg ?_
  refine SeqK.callE rfl rfl rfl rfl Fx.fn12 rfl (awakeF _) (fun _ _ h => by rw [h.1]; rfl) (fun x15 H15 q15 => ?_)
  obtain ⟨rfl, hF15⟩ := q15
  replace G := G.full hF15
  refine SeqK.q (q_not rfl rfl) rfl rfl rfl ?_
  refine SeqK.q (q_mvC rfl rfl) rfl rfl rfl ?_
  refine SeqK.on (q_mvC rfl rfl) rfl rfl rfl rfl rfl ?_
  refine SeqK.on (q_eqlN rfl rfl rfl Fx.nk23) rfl rfl rfl rfl rfl ?_
  refine SeqK.q (q_pkF rfl rfl rfl) rfl rfl rfl ?_
  refine SeqK.nil ?_
  refine AW.condF rfl ?_
  refine AW.skip ?_
  refine AW.seq ?_
  rcases hd : dist (runE ops) (IntKind.i64.wrap n) (IntKind.i64.wrap n) with _ | d
  ·
    have hrl := runE_len (ops := ops)
    have hcl : (cyc ltI (runE ops) (IntKind.i64.wrap n)).length ≤ 40 := by
      cases hd9 : dist (runE ops) (IntKind.i64.wrap n) (IntKind.i64.wrap n) with
      | none => rw [cyc_nil.2 hd9]; simp
      | some d => rw [(cyc_facts (lt := ltI) hd9).1]; have := dist_le hd9; omega
    refine AW.reg ?_
    refine SeqK.q (q_mvC rfl rfl) rfl rfl rfl ?_
    refine SeqK.q (q_mvC rfl rfl) rfl rfl rfl ?_
    refine SeqK.q (q_conv _ rfl Fx.un3 rfl (rfl) ⟨_, Fx.un37⟩) rfl rfl rfl ?_
    refine SeqK.r (g_call rfl Fx.fn22 rfl (cycN _ c _ _ G (by omega) hd) rfl rfl rfl) rfl ?_
    refine SeqK.q (q_asC rfl rfl) rfl rfl rfl ?_
    refine SeqK.nil ?_
    refine AW.seq ?_
    refine AW.xw 8 rfl (XW.nil (sz := 1)) ?_
    have hc := cyc_nil (lt := ltI).2 hd
    refine AW.reg ?_
    refine SeqK.q (q_mvC rfl rfl) rfl rfl rfl ?_
    refine SeqK.r (b_load (r := .g [_]) rfl Fx.ty26 rfl rfl rfl rfl rfl rfl) rfl ?_
    refine SeqK.q (q_mvC rfl rfl) rfl rfl rfl ?_
    refine SeqK.q (q_conv _ rfl Fx.un3 rfl (rfl) ⟨_, Fx.un37⟩) rfl rfl rfl ?_
    refine SeqK.q (q_call _ rfl Fx.fn23 rfl (cycle_any _ _ (by omega)) rfl) rfl rfl rfl ?_
    refine SeqK.q (q_call _ rfl Fx.fn14 rfl (by rw [hc]; exact same_eq [] .ne .un (by simp)) rfl) rfl rfl rfl ?_
    refine SeqK.q (q_mvC rfl rfl) rfl rfl rfl ?_
    refine SeqK.on (q_mvC rfl rfl) rfl rfl rfl rfl rfl ?_
    refine SeqK.on (q_neqN rfl rfl rfl Fx.nk30) rfl rfl rfl rfl rfl ?_
    refine SeqK.on (q_mvC rfl rfl) rfl rfl rfl rfl rfl ?_
    refine SeqK.on (q_len rfl Fx.un30 rfl) rfl rfl rfl rfl rfl ?_
    refine SeqK.on (q_gtr rfl rfl rfl) rfl rfl rfl rfl rfl ?_
    refine SeqK.on (q_eqlB rfl Fx.un4 rfl rfl) rfl rfl rfl rfl rfl ?_
    refine SeqK.q (q_pkT rfl rfl rfl) rfl rfl rfl ?_
    refine SeqK.q (q_asC rfl rfl) rfl rfl rfl ?_
    refine SeqK.nil ?_
    refine AW.ret ?_
    exact fin_x (x := .c _) (_) (.tmp rfl .nil) rfl (fun _ _ h => h) (by first | rfl | (simp; omega))
  ·
    have hrl := runE_len (ops := ops)
    have hcl : (cyc ltI (runE ops) (IntKind.i64.wrap n)).length ≤ 40 := by
      cases hd9 : dist (runE ops) (IntKind.i64.wrap n) (IntKind.i64.wrap n) with
      | none => rw [cyc_nil.2 hd9]; simp
      | some d => rw [(cyc_facts (lt := ltI) hd9).1]; have := dist_le hd9; omega
    refine AW.reg ?_
    refine SeqK.q (q_mvC rfl rfl) rfl rfl rfl ?_
    refine SeqK.q (q_mvC rfl rfl) rfl rfl rfl ?_
    refine SeqK.q (q_conv _ rfl Fx.un3 rfl (rfl) ⟨_, Fx.un37⟩) rfl rfl rfl ?_
    refine SeqK.r (g_call rfl Fx.fn22 rfl (cycS _ c _ _ _ G (by omega) rfl (fun e => by rw [cyc_nil.1 e] at hd; cases hd)) rfl rfl rfl) rfl ?_
    refine SeqK.q (q_asC rfl rfl) rfl rfl rfl ?_
    refine SeqK.nil ?_
    refine AW.seq ?_
    have hd1 := (dist_some.1 hd).pos
    have hc := (cyc_facts (lt := ltI) hd).1
    refine AW.reg ?_
    refine SeqK.q (q_mvC rfl rfl) rfl rfl rfl ?_
    refine SeqK.r (b_load (r := .g [_]) rfl Fx.ty26 rfl rfl rfl rfl rfl rfl) rfl ?_
    refine SeqK.q (q_mvC rfl rfl) rfl rfl rfl ?_
    refine SeqK.q (q_conv _ rfl Fx.un3 rfl (rfl) ⟨_, Fx.un37⟩) rfl rfl rfl ?_
    refine SeqK.q (q_call _ rfl Fx.fn23 rfl (cycle_any _ _ (by omega)) rfl) rfl rfl rfl ?_
    refine SeqK.q (q_call _ rfl Fx.fn14 rfl (same_eq _ .nn .un (by omega)) rfl) rfl rfl rfl ?_
    refine SeqK.q (q_mvC rfl rfl) rfl rfl rfl ?_
    refine SeqK.on (q_mvC rfl rfl) rfl rfl rfl rfl rfl ?_
    refine SeqK.on (q_neqN rfl rfl rfl Fx.nk30) rfl rfl rfl rfl rfl ?_
    refine SeqK.on (q_mvC rfl rfl) rfl rfl rfl rfl rfl ?_
    refine SeqK.on (q_len rfl Fx.un30 rfl) rfl rfl rfl rfl rfl ?_
    refine SeqK.on (q_gtr rfl rfl rfl) rfl rfl rfl rfl rfl ?_
    refine SeqK.on (q_eqlB rfl Fx.un4 rfl rfl) rfl rfl rfl rfl rfl ?_
    refine SeqK.q (q_pkT rfl rfl rfl) rfl rfl rfl ?_
    refine SeqK.q (q_asC rfl rfl) rfl rfl rfl ?_
    refine SeqK.nil ?_
    refine AW.ret ?_
    exact fin_x (x := .c _) (_) (.tmp rfl .nil) rfl (fun _ _ h => h) (by first | rfl | (simp; omega))

set_option maxRecDepth 20000 in
theorem remove_lawTB (H : Heap) (ops : List Act') (z : Nz) (n : Int) (hl : 30 < ops.length) : E.Spec Try.prog 9 [opsC z ops, .a (.t (.v (.int .i8 n))), .a (.t (.v (.bool true)))] H fun x H' => x = bX true := by
  refine Spec.enter Try.func9 rfl ?_
  refine AW.wk (Wk.keep 73 [(0, .c (opsC z ops)), (1, .c (.a (.t (.v (.int .i8 n))))), (2, .c (.a (.t (.v (.bool true)))))] [] (H) rfl ⟨rfl, rfl, rfl, trivial⟩ trivial (fun _ _ h => h) rfl) ?_
  refine AW.seq ?_
  refine AW.reg ?_
  refine SeqK.q (q_asC rfl rfl) rfl rfl rfl ?_
  refine SeqK.nil ?_
  refine AW.seq ?_
  refine AW.reg ?_
  refine SeqK.q (q_mvC rfl rfl) rfl rfl rfl ?_
  refine SeqK.callE rfl rfl rfl rfl Fx.fn11 rfl (runB _ ops z hl) (fun _ _ h => by rw [h]; rfl) (fun x15 H15 q15 => ?_)
  have h15 := q15
  subst h15
  refine SeqK.q (q_mvT rfl rfl) rfl rfl rfl ?_
  refine SeqK.q (q_extract _ rfl rfl rfl) rfl rfl rfl ?_
  refine SeqK.q (q_extract _ rfl rfl rfl) rfl rfl rfl ?_
  refine SeqK.q (q_extract _ rfl rfl rfl) rfl rfl rfl ?_
  refine SeqK.r (b_alloc (r := [_]) rfl rfl Fx.ze26 rfl rfl rfl rfl) rfl ?_
  refine SeqK.q (q_asC rfl rfl) rfl rfl rfl ?_
  refine SeqK.r (b_store (r := [_]) rfl rfl Fx.ty26 rfl rfl rfl rfl rfl rfl) rfl ?_
  refine SeqK.q (q_asC rfl rfl) rfl rfl rfl ?_
  refine SeqK.nil ?_
  refine AW.seq ?_
  refine AW.seq ?_
  refine AW.reg ?_
  refine SeqK.callE rfl rfl rfl rfl Fx.fn12 rfl (awakeF _) (fun _ _ h => by rw [h.1]; rfl) (fun x19 H19 q19 => ?_)
  obtain ⟨rfl, hF19⟩ := q19
  refine SeqK.q (q_not rfl rfl) rfl rfl rfl ?_
  refine SeqK.q (q_mvC rfl rfl) rfl rfl rfl ?_
  refine SeqK.on (q_mvC rfl rfl) rfl rfl rfl rfl rfl ?_
  refine SeqK.on (q_eqlN rfl rfl rfl Fx.nk23) rfl rfl rfl rfl rfl ?_
  refine SeqK.q (q_pkF rfl rfl rfl) rfl rfl rfl ?_
  refine SeqK.nil ?_
  refine AW.condT rfl ?_
  refine AW.seq ?_
  refine AW.reg ?_
  refine SeqK.callE rfl rfl rfl rfl Fx.fn12 rfl (awakeF _) (fun _ _ h => by rw [h.1]; rfl) (fun x25 H25 q25 => ?_)
  obtain ⟨rfl, hF25⟩ := q25
  refine SeqK.q (q_asC rfl rfl) rfl rfl rfl ?_
  refine SeqK.nil ?_
  refine AW.ret ?_
  exact fin_x (x := .c _) (_) (.tmp rfl .nil) rfl (fun _ _ h => h) (rfl)
set_option maxRecDepth 20000 in
theorem remove_lawTS (H : Heap) (ops : List Act') (z : Nz) (n : Int) (hl : ¬ 30 < ops.length) : E.Spec Try.prog 9 [opsC z ops, .a (.t (.v (.int .i8 n))), .a (.t (.v (.bool true)))] H fun x H' => x = bX true := by
  refine Spec.enter Try.func9 rfl ?_
  refine AW.wk (Wk.keep 73 [(0, .c (opsC z ops)), (1, .c (.a (.t (.v (.int .i8 n))))), (2, .c (.a (.t (.v (.bool true)))))] [] (H) rfl ⟨rfl, rfl, rfl, trivial⟩ trivial (fun _ _ h => h) rfl) ?_
  refine AW.seq ?_
  refine AW.reg ?_
  refine SeqK.q (q_asC rfl rfl) rfl rfl rfl ?_
  refine SeqK.nil ?_
  refine AW.seq ?_
  refine AW.reg ?_
  refine SeqK.q (q_mvC rfl rfl) rfl rfl rfl ?_
  refine SeqK.callE rfl rfl rfl rfl Fx.fn11 rfl (runS _ ops z hl) (fun _ _ ⟨_, h, _⟩ => by rw [h]; rfl) (fun x15 H15 q15 => ?_)
  obtain ⟨c, rfl, G⟩ := q15
  refine SeqK.q (q_mvT rfl rfl) rfl rfl rfl ?_
  refine SeqK.q (q_extract _ rfl rfl rfl) rfl rfl rfl ?_
  refine SeqK.q (q_extract _ rfl rfl rfl) rfl rfl rfl ?_
  refine SeqK.q (q_extract _ rfl rfl rfl) rfl rfl rfl ?_
  refine SeqK.r (b_alloc (r := [_]) rfl rfl Fx.ze26 rfl rfl rfl rfl) rfl ?_
  refine SeqK.q (q_asC rfl rfl) rfl rfl rfl ?_
  refine SeqK.r (b_store (r := [_]) rfl rfl Fx.ty26 rfl rfl rfl rfl rfl rfl) rfl ?_
  refine SeqK.q (q_asC rfl rfl) rfl rfl rfl ?_
  refine SeqK.nil ?_
  refine AW.seq ?_
  refine AW.seq ?_
  refine AW.reg ?_
  refine SeqK.callE rfl rfl rfl rfl Fx.fn12 rfl (awakeF _) (fun _ _ h => by rw [h.1]; rfl) (fun x19 H19 q19 => ?_)
  obtain ⟨rfl, hF19⟩ := q19
  replace G := G.full hF19
  refine SeqK.q (q_not rfl rfl) rfl rfl rfl ?_
  refine SeqK.q (q_mvC rfl rfl) rfl rfl rfl ?_
  refine SeqK.on (q_mvC rfl rfl) rfl rfl rfl rfl rfl ?_
  refine SeqK.on (q_eqlN rfl rfl rfl Fx.nk23) rfl rfl rfl rfl rfl ?_
  refine SeqK.q (q_pkF rfl rfl rfl) rfl rfl rfl ?_
  refine SeqK.nil ?_
  refine AW.condF rfl ?_
  refine AW.skip ?_
  refine AW.seq ?_
  have hrl := runE_len (ops := ops)
  have hnl := nodes_len (lt := ltI) (L := runE ops)
  refine AW.reg ?_
  refine SeqK.r (b_load (r := .g [_]) rfl Fx.ty26 rfl rfl rfl rfl rfl rfl) rfl ?_
  refine SeqK.q (q_mvC rfl rfl) rfl rfl rfl ?_
  refine SeqK.q (q_conv _ rfl Fx.un3 rfl (rfl) ⟨_, Fx.un37⟩) rfl rfl rfl ?_
  refine SeqK.q (q_call _ rfl Fx.fn26 rfl (lv_any _ _ (by omega)) rfl) rfl rfl rfl ?_
  refine SeqK.r (b_alloc (r := [_]) rfl rfl Fx.ze26 rfl rfl rfl rfl) rfl ?_
  refine SeqK.r (b_store (r := [_]) rfl rfl Fx.ty26 rfl rfl rfl rfl rfl rfl) rfl ?_
  refine SeqK.nil ?_
  refine AW.seq ?_
  refine AW.seq ?_
  refine AW.reg ?_
  refine SeqK.q (q_mvC rfl rfl) rfl rfl rfl ?_
  refine SeqK.nil ?_
  refine AW.condT rfl ?_
  refine AW.seq ?_
  refine AW.reg ?_
  refine SeqK.q (q_mvC rfl rfl) rfl rfl rfl ?_
  refine SeqK.q (q_mvC rfl rfl) rfl rfl rfl ?_
  refine SeqK.q (q_conv _ rfl Fx.un3 rfl (rfl) ⟨_, Fx.un37⟩) rfl rfl rfl ?_
  refine SeqK.callE rfl rfl rfl rfl Fx.fn25 rfl (removeI _ c _ _ G) (fun _ _ h => by rw [h.1]; rfl) (fun x34 H34 q34 => ?_)
  obtain ⟨rfl, G2⟩ := q34
  refine SeqK.nil ?_
  refine AW.reg ?_
  refine SeqK.r (b_load (r := .g [_]) rfl Fx.ty26 rfl rfl rfl rfl rfl rfl) rfl ?_
  refine SeqK.q (q_mvC rfl rfl) rfl rfl rfl ?_
  refine SeqK.q (q_conv _ rfl Fx.un3 rfl (rfl) ⟨_, Fx.un37⟩) rfl rfl rfl ?_
  refine SeqK.q (q_call _ rfl Fx.fn27 rfl (rm_any _ _ (by omega)) rfl) rfl rfl rfl ?_
  refine SeqK.r (b_store (r := [_]) rfl rfl Fx.ty26 rfl rfl rfl rfl rfl rfl) rfl ?_
  refine SeqK.nil ?_
  refine AW.seq ?_
  refine AW.seq ?_
  have hL2 : (rmE (runE ops) (IntKind.i64.wrap n)).length ≤ 30 := Nat.le_trans rmE_len (by omega)
  have hnl2 := nodes_len (lt := ltI) (L := (rmE (runE ops) (IntKind.i64.wrap n)))
  refine AW.reg ?_
  refine SeqK.r (b_load (r := .g [_]) rfl Fx.ty26 rfl rfl rfl rfl rfl rfl) rfl ?_
  refine SeqK.q (q_call _ rfl Fx.fn13 rfl (nodes_any _ (by omega)) rfl) rfl rfl rfl ?_
  refine SeqK.q (q_len rfl Fx.un30 rfl) rfl rfl rfl ?_
  refine SeqK.q (q_mvC rfl rfl) rfl rfl rfl ?_
  refine SeqK.nil ?_
  refine AW.block ?_
  refine AW.loop (fun (i : Nat) s => (i ≤ (nodes ltI (runE ops)).length) ∧ s = ⟨73, sp [(1, .c (.a (.t (.v (.int .i8 n))))), (7, .c (.a (.bp c 0))), (10, .lp 10 0), (44, .c (iL .un (nodes ltI (runE ops)))), (45, iX .i64 ((((nodes ltI (runE ops)).map i64T).length : Nat) : Int)), (46, iX .i64 ((i : Nat) : Int))], lv [(10, .box [.t (.sl .un 2 ((rmE (runE ops) (IntKind.i64.wrap n)).map eT))])], H34⟩) (fun i => (nodes ltI (runE ops)).length - i) 0 ⟨_, Wk.keep 73 [(1, .c (.a (.t (.v (.int .i8 n))))), (7, .c (.a (.bp c 0))), (10, .lp 10 0), (44, .c (iL .un (nodes ltI (runE ops)))), (45, iX .i64 ((((nodes ltI (runE ops)).map i64T).length : Nat) : Int)), (46, iX .i64 ((((0 : Nat)) : Nat) : Int))] [(10, .box [.t (.sl .un 2 ((rmE (runE ops) (IntKind.i64.wrap n)).map eT))])] (H34) rfl ⟨rfl, rfl, rfl, rfl, rfl, rfl, trivial⟩ ⟨rfl, trivial⟩ (fun _ _ h => h) rfl, Nat.zero_le _, rfl⟩ (fun i s hs => ?_)
  obtain ⟨hi0, rfl⟩ := hs
  refine AW.seq ?_
  refine AW.reg ?_
  refine SeqK.q (q_lss rfl rfl rfl) rfl rfl rfl ?_
  refine SeqK.nil ?_
  refine AW.seq ?_
  refine AW.condD rfl (fun h47 => ?_) (fun h47 => ?_)
  ·
    have hi : i < (nodes ltI (runE ops)).length := by simpa using h47
    refine AW.skip ?_
    refine AW.seq ?_
    refine AW.block ?_
    refine AW.seq ?_
    refine AW.reg ?_
    refine SeqK.q (q_index _ rfl Fx.sl30 rfl rfl (by omega) (idx_map (f := i64T) hi)) rfl rfl rfl ?_
    refine SeqK.q (q_load (.a _) rfl Fx.ty3 rfl rfl rfl) rfl rfl rfl ?_
    refine SeqK.q (q_asC rfl rfl) rfl rfl rfl ?_
    refine SeqK.nil ?_
    refine AW.seq ?_
    refine AW.draw Fx.mo ?_
    refine LexK.q (q_mvC rfl rfl) rfl rfl rfl ?_
    refine LexK.q (q_mvC rfl rfl) rfl rfl rfl ?_
    refine LexK.r (g_call rfl Fx.fn15 rfl (listI _ c _ _ G2 (by omega)) rfl rfl rfl) rfl ?_
    refine LexK.r (b_load (r := .g [_]) rfl Fx.ty26 rfl rfl rfl rfl rfl rfl) rfl ?_
    refine LexK.q (q_mvC rfl rfl) rfl rfl rfl ?_
    refine LexK.q (q_call _ rfl Fx.fn16 rfl (succs_any _ _ (by omega)) rfl) rfl rfl rfl ?_
    refine LexK.q (q_call _ rfl Fx.fn14 rfl (same_eq _ .un .un (by have := succs_len (lt := ltI) (L := (rmE (runE ops) (IntKind.i64.wrap n))) (a := (nodes ltI (runE ops))[i]); omega)) rfl) rfl rfl rfl ?_
    refine LexK.q (q_not rfl rfl) rfl rfl rfl ?_
    refine LexK.nil (by kernel_rfl) ?_
    refine AW.condF rfl ?_
    refine AW.skip ?_
    refine AW.reg ?_
    refine SeqK.q (q_add _ rfl rfl rfl (w64 (by omega) (by omega))) rfl rfl rfl ?_
    refine SeqK.q (q_mvC rfl rfl) rfl rfl rfl ?_
    refine SeqK.nil ?_
    exact ⟨i + 1, _, Wk.keep 73 [(1, .c (.a (.t (.v (.int .i8 n))))), (7, .c (.a (.bp c 0))), (10, .lp 10 0), (44, .c (iL .un (nodes ltI (runE ops)))), (45, iX .i64 ((((nodes ltI (runE ops)).map i64T).length : Nat) : Int)), (46, iX .i64 (((i + 1) : Nat) : Int))] [(10, .box [.t (.sl .un 2 ((rmE (runE ops) (IntKind.i64.wrap n)).map eT))])] (H34) rfl ⟨rfl, rfl, rfl, rfl, rfl, rfl, trivial⟩ ⟨rfl, trivial⟩ (fun _ _ h => h) rfl, by omega, hi, rfl⟩
  ·
    refine AW.exit ?_
    refine eth_e ?_
    refine eth_e ?_
    refine exit_here ?_
    refine AW.seq ?_
    refine AW.draw Fx.mo ?_
    refine LexK.q (q_mvC rfl rfl) rfl rfl rfl ?_
    refine LexK.r (g_call rfl Fx.fn17 rfl (nodesI _ c _ G2 (by omega)) rfl rfl rfl) rfl ?_
    refine LexK.r (b_load (r := .g [_]) rfl Fx.ty26 rfl rfl rfl rfl rfl rfl) rfl ?_
    refine LexK.q (q_call _ rfl Fx.fn13 rfl (nodes_any _ (by omega)) rfl) rfl rfl rfl ?_
    refine LexK.q (q_call _ rfl Fx.fn14 rfl (same_eq _ .un .un (by omega)) rfl) rfl rfl rfl ?_
    refine LexK.q (q_mvC rfl rfl) rfl rfl rfl ?_
    refine LexK.on (q_mvC rfl rfl) rfl rfl rfl rfl rfl ?_
    refine LexK.on (q_mvC rfl rfl) rfl rfl rfl rfl rfl ?_
    refine LexK.on (q_conv _ rfl Fx.un3 rfl (rfl) ⟨_, Fx.un37⟩) rfl rfl rfl rfl rfl ?_
    refine LexK.on (q_mvC rfl rfl) rfl rfl rfl rfl rfl ?_
    refine LexK.on (q_conv _ rfl Fx.un3 rfl (rfl) ⟨_, Fx.un37⟩) rfl rfl rfl rfl rfl ?_
    refine LexK.rOn (g_call rfl Fx.fn20 rfl (reachesI _ c _ _ _ G2 (by omega)) rfl rfl rfl) rfl rfl rfl ?_
    refine LexK.on (q_not rfl rfl) rfl rfl rfl rfl rfl ?_
    refine LexK.q (q_pkT rfl rfl rfl) rfl rfl rfl ?_
    refine LexK.q (q_asC rfl rfl) rfl rfl rfl ?_
    refine LexK.nil (by kernel_rfl) ?_
    refine AW.ret ?_
    exact fin_x (x := .c _) (_) (.tmp rfl .nil) rfl (fun _ _ h => h) (by rw [dist_gone' (fun e he => (mem_rmE.1 he).2.1)]; rfl)

set_option maxRecDepth 20000 in
theorem remove_lawFB (H : Heap) (ops : List Act') (z : Nz) (n : Int) (hl : 30 < ops.length) : E.Spec Try.prog 9 [opsC z ops, .a (.t (.v (.int .i8 n))), .a (.t (.v (.bool false)))] H fun x H' => x = bX true := by
  refine Spec.enter Try.func9 rfl ?_
  refine AW.wk (Wk.keep 73 [(0, .c (opsC z ops)), (1, .c (.a (.t (.v (.int .i8 n))))), (2, .c (.a (.t (.v (.bool false)))))] [] (H) rfl ⟨rfl, rfl, rfl, trivial⟩ trivial (fun _ _ h => h) rfl) ?_
  refine AW.seq ?_
  refine AW.reg ?_
  refine SeqK.q (q_asC rfl rfl) rfl rfl rfl ?_
  refine SeqK.nil ?_
  refine AW.seq ?_
  refine AW.reg ?_
  refine SeqK.q (q_mvC rfl rfl) rfl rfl rfl ?_
  refine SeqK.callE rfl rfl rfl rfl Fx.fn11 rfl (runB _ ops z hl) (fun _ _ h => by rw [h]; rfl) (fun x15 H15 q15 => ?_)
  have h15 := q15
  subst h15
  refine SeqK.q (q_mvT rfl rfl) rfl rfl rfl ?_
  refine SeqK.q (q_extract _ rfl rfl rfl) rfl rfl rfl ?_
  refine SeqK.q (q_extract _ rfl rfl rfl) rfl rfl rfl ?_
  refine SeqK.q (q_extract _ rfl rfl rfl) rfl rfl rfl ?_
  refine SeqK.r (b_alloc (r := [_]) rfl rfl Fx.ze26 rfl rfl rfl rfl) rfl ?_
  refine SeqK.q (q_asC rfl rfl) rfl rfl rfl ?_
  refine SeqK.r (b_store (r := [_]) rfl rfl Fx.ty26 rfl rfl rfl rfl rfl rfl) rfl ?_
  refine SeqK.q (q_asC rfl rfl) rfl rfl rfl ?_
  refine SeqK.nil ?_
  refine AW.seq ?_
  refine AW.seq ?_
  refine AW.reg ?_
  refine SeqK.callE rfl rfl rfl rfl Fx.fn12 rfl (awakeF _) (fun _ _ h => by rw [h.1]; rfl) (fun x19 H19 q19 => ?_)
  obtain ⟨rfl, hF19⟩ := q19
  refine SeqK.q (q_not rfl rfl) rfl rfl rfl ?_
  refine SeqK.q (q_mvC rfl rfl) rfl rfl rfl ?_
  refine SeqK.on (q_mvC rfl rfl) rfl rfl rfl rfl rfl ?_
  refine SeqK.on (q_eqlN rfl rfl rfl Fx.nk23) rfl rfl rfl rfl rfl ?_
  refine SeqK.q (q_pkF rfl rfl rfl) rfl rfl rfl ?_
  refine SeqK.nil ?_
  refine AW.condT rfl ?_
  refine AW.seq ?_
  refine AW.reg ?_
  refine SeqK.callE rfl rfl rfl rfl Fx.fn12 rfl (awakeF _) (fun _ _ h => by rw [h.1]; rfl) (fun x25 H25 q25 => ?_)
  obtain ⟨rfl, hF25⟩ := q25
  refine SeqK.q (q_asC rfl rfl) rfl rfl rfl ?_
  refine SeqK.nil ?_
  refine AW.ret ?_
  exact fin_x (x := .c _) (_) (.tmp rfl .nil) rfl (fun _ _ h => h) (rfl)
set_option maxRecDepth 20000 in
theorem remove_lawFS (H : Heap) (ops : List Act') (z : Nz) (n : Int) (hl : ¬ 30 < ops.length) : E.Spec Try.prog 9 [opsC z ops, .a (.t (.v (.int .i8 n))), .a (.t (.v (.bool false)))] H fun x H' => x = bX true := by
  refine Spec.enter Try.func9 rfl ?_
  refine AW.wk (Wk.keep 73 [(0, .c (opsC z ops)), (1, .c (.a (.t (.v (.int .i8 n))))), (2, .c (.a (.t (.v (.bool false)))))] [] (H) rfl ⟨rfl, rfl, rfl, trivial⟩ trivial (fun _ _ h => h) rfl) ?_
  refine AW.seq ?_
  refine AW.reg ?_
  refine SeqK.q (q_asC rfl rfl) rfl rfl rfl ?_
  refine SeqK.nil ?_
  refine AW.seq ?_
  refine AW.reg ?_
  refine SeqK.q (q_mvC rfl rfl) rfl rfl rfl ?_
  refine SeqK.callE rfl rfl rfl rfl Fx.fn11 rfl (runS _ ops z hl) (fun _ _ ⟨_, h, _⟩ => by rw [h]; rfl) (fun x15 H15 q15 => ?_)
  obtain ⟨c, rfl, G⟩ := q15
  refine SeqK.q (q_mvT rfl rfl) rfl rfl rfl ?_
  refine SeqK.q (q_extract _ rfl rfl rfl) rfl rfl rfl ?_
  refine SeqK.q (q_extract _ rfl rfl rfl) rfl rfl rfl ?_
  refine SeqK.q (q_extract _ rfl rfl rfl) rfl rfl rfl ?_
  refine SeqK.r (b_alloc (r := [_]) rfl rfl Fx.ze26 rfl rfl rfl rfl) rfl ?_
  refine SeqK.q (q_asC rfl rfl) rfl rfl rfl ?_
  refine SeqK.r (b_store (r := [_]) rfl rfl Fx.ty26 rfl rfl rfl rfl rfl rfl) rfl ?_
  refine SeqK.q (q_asC rfl rfl) rfl rfl rfl ?_
  refine SeqK.nil ?_
  refine AW.seq ?_
  refine AW.seq ?_
  refine AW.reg ?_
  refine SeqK.callE rfl rfl rfl rfl Fx.fn12 rfl (awakeF _) (fun _ _ h => by rw [h.1]; rfl) (fun x19 H19 q19 => ?_)
  obtain ⟨rfl, hF19⟩ := q19
  replace G := G.full hF19
  refine SeqK.q (q_not rfl rfl) rfl rfl rfl ?_
  refine SeqK.q (q_mvC rfl rfl) rfl rfl rfl ?_
  refine SeqK.on (q_mvC rfl rfl) rfl rfl rfl rfl rfl ?_
  refine SeqK.on (q_eqlN rfl rfl rfl Fx.nk23) rfl rfl rfl rfl rfl ?_
  refine SeqK.q (q_pkF rfl rfl rfl) rfl rfl rfl ?_
  refine SeqK.nil ?_
  refine AW.condF rfl ?_
  refine AW.skip ?_
  refine AW.seq ?_
  have hrl := runE_len (ops := ops)
  have hnl := nodes_len (lt := ltI) (L := runE ops)
  refine AW.reg ?_
  refine SeqK.r (b_load (r := .g [_]) rfl Fx.ty26 rfl rfl rfl rfl rfl rfl) rfl ?_
  refine SeqK.q (q_mvC rfl rfl) rfl rfl rfl ?_
  refine SeqK.q (q_conv _ rfl Fx.un3 rfl (rfl) ⟨_, Fx.un37⟩) rfl rfl rfl ?_
  refine SeqK.q (q_call _ rfl Fx.fn26 rfl (lv_any _ _ (by omega)) rfl) rfl rfl rfl ?_
  refine SeqK.r (b_alloc (r := [_]) rfl rfl Fx.ze26 rfl rfl rfl rfl) rfl ?_
  refine SeqK.r (b_store (r := [_]) rfl rfl Fx.ty26 rfl rfl rfl rfl rfl rfl) rfl ?_
  refine SeqK.nil ?_
  refine AW.seq ?_
  refine AW.seq ?_
  refine AW.reg ?_
  refine SeqK.q (q_mvC rfl rfl) rfl rfl rfl ?_
  refine SeqK.nil ?_
  refine AW.condF rfl ?_
  refine AW.reg ?_
  refine SeqK.q (q_mvC rfl rfl) rfl rfl rfl ?_
  refine SeqK.q (q_mvC rfl rfl) rfl rfl rfl ?_
  refine SeqK.q (q_conv _ rfl Fx.un3 rfl (rfl) ⟨_, Fx.un37⟩) rfl rfl rfl ?_
  refine SeqK.callE rfl rfl rfl rfl Fx.fn28 rfl (leaveI _ c _ _ G) (fun _ _ h => by rw [h.1]; rfl) (fun x42 H42 q42 => ?_)
  obtain ⟨rfl, G2⟩ := q42
  refine SeqK.nil ?_
  refine AW.seq ?_
  refine AW.seq ?_
  have hL2 : (lvE (runE ops) (IntKind.i64.wrap n)).length ≤ 30 := Nat.le_trans lvE_len (by omega)
  have hnl2 := nodes_len (lt := ltI) (L := (lvE (runE ops) (IntKind.i64.wrap n)))
  refine AW.reg ?_
  refine SeqK.r (b_load (r := .g [_]) rfl Fx.ty26 rfl rfl rfl rfl rfl rfl) rfl ?_
  refine SeqK.q (q_call _ rfl Fx.fn13 rfl (nodes_any _ (by omega)) rfl) rfl rfl rfl ?_
  refine SeqK.q (q_len rfl Fx.un30 rfl) rfl rfl rfl ?_
  refine SeqK.q (q_mvC rfl rfl) rfl rfl rfl ?_
  refine SeqK.nil ?_
  refine AW.block ?_
  refine AW.loop (fun (i : Nat) s => (i ≤ (nodes ltI (runE ops)).length) ∧ s = ⟨73, sp [(1, .c (.a (.t (.v (.int .i8 n))))), (7, .c (.a (.bp c 0))), (10, .lp 10 0), (44, .c (iL .un (nodes ltI (runE ops)))), (45, iX .i64 ((((nodes ltI (runE ops)).map i64T).length : Nat) : Int)), (46, iX .i64 ((i : Nat) : Int))], lv [(10, .box [.t (.sl .un 2 ((lvE (runE ops) (IntKind.i64.wrap n)).map eT))])], H42⟩) (fun i => (nodes ltI (runE ops)).length - i) 0 ⟨_, Wk.keep 73 [(1, .c (.a (.t (.v (.int .i8 n))))), (7, .c (.a (.bp c 0))), (10, .lp 10 0), (44, .c (iL .un (nodes ltI (runE ops)))), (45, iX .i64 ((((nodes ltI (runE ops)).map i64T).length : Nat) : Int)), (46, iX .i64 ((((0 : Nat)) : Nat) : Int))] [(10, .box [.t (.sl .un 2 ((lvE (runE ops) (IntKind.i64.wrap n)).map eT))])] (H42) rfl ⟨rfl, rfl, rfl, rfl, rfl, rfl, trivial⟩ ⟨rfl, trivial⟩ (fun _ _ h => h) rfl, Nat.zero_le _, rfl⟩ (fun i s hs => ?_)
  obtain ⟨hi0, rfl⟩ := hs
  refine AW.seq ?_
  refine AW.reg ?_
  refine SeqK.q (q_lss rfl rfl rfl) rfl rfl rfl ?_
  refine SeqK.nil ?_
  refine AW.seq ?_
  refine AW.condD rfl (fun h47 => ?_) (fun h47 => ?_)
  ·
    have hi : i < (nodes ltI (runE ops)).length := by simpa using h47
    refine AW.skip ?_
    refine AW.seq ?_
    refine AW.block ?_
    refine AW.seq ?_
    refine AW.reg ?_
    refine SeqK.q (q_index _ rfl Fx.sl30 rfl rfl (by omega) (idx_map (f := i64T) hi)) rfl rfl rfl ?_
    refine SeqK.q (q_load (.a _) rfl Fx.ty3 rfl rfl rfl) rfl rfl rfl ?_
    refine SeqK.q (q_asC rfl rfl) rfl rfl rfl ?_
    refine SeqK.nil ?_
    refine AW.seq ?_
    refine AW.draw Fx.mo ?_
    refine LexK.q (q_mvC rfl rfl) rfl rfl rfl ?_
    refine LexK.q (q_mvC rfl rfl) rfl rfl rfl ?_
    refine LexK.r (g_call rfl Fx.fn15 rfl (listI _ c _ _ G2 (by omega)) rfl rfl rfl) rfl ?_
    refine LexK.r (b_load (r := .g [_]) rfl Fx.ty26 rfl rfl rfl rfl rfl rfl) rfl ?_
    refine LexK.q (q_mvC rfl rfl) rfl rfl rfl ?_
    refine LexK.q (q_call _ rfl Fx.fn16 rfl (succs_any _ _ (by omega)) rfl) rfl rfl rfl ?_
    refine LexK.q (q_call _ rfl Fx.fn14 rfl (same_eq _ .un .un (by have := succs_len (lt := ltI) (L := (lvE (runE ops) (IntKind.i64.wrap n))) (a := (nodes ltI (runE ops))[i]); omega)) rfl) rfl rfl rfl ?_
    refine LexK.q (q_not rfl rfl) rfl rfl rfl ?_
    refine LexK.nil (by kernel_rfl) ?_
    refine AW.condF rfl ?_
    refine AW.skip ?_
    refine AW.reg ?_
    refine SeqK.q (q_add _ rfl rfl rfl (w64 (by omega) (by omega))) rfl rfl rfl ?_
    refine SeqK.q (q_mvC rfl rfl) rfl rfl rfl ?_
    refine SeqK.nil ?_
    exact ⟨i + 1, _, Wk.keep 73 [(1, .c (.a (.t (.v (.int .i8 n))))), (7, .c (.a (.bp c 0))), (10, .lp 10 0), (44, .c (iL .un (nodes ltI (runE ops)))), (45, iX .i64 ((((nodes ltI (runE ops)).map i64T).length : Nat) : Int)), (46, iX .i64 (((i + 1) : Nat) : Int))] [(10, .box [.t (.sl .un 2 ((lvE (runE ops) (IntKind.i64.wrap n)).map eT))])] (H42) rfl ⟨rfl, rfl, rfl, rfl, rfl, rfl, trivial⟩ ⟨rfl, trivial⟩ (fun _ _ h => h) rfl, by omega, hi, rfl⟩
  ·
    refine AW.exit ?_
    refine eth_e ?_
    refine eth_e ?_
    refine exit_here ?_
    refine AW.seq ?_
    refine AW.draw Fx.mo ?_
    refine LexK.q (q_mvC rfl rfl) rfl rfl rfl ?_
    refine LexK.r (g_call rfl Fx.fn17 rfl (nodesI _ c _ G2 (by omega)) rfl rfl rfl) rfl ?_
    refine LexK.r (b_load (r := .g [_]) rfl Fx.ty26 rfl rfl rfl rfl rfl rfl) rfl ?_
    refine LexK.q (q_call _ rfl Fx.fn13 rfl (nodes_any _ (by omega)) rfl) rfl rfl rfl ?_
    refine LexK.q (q_call _ rfl Fx.fn14 rfl (same_eq _ .un .un (by omega)) rfl) rfl rfl rfl ?_
    refine LexK.q (q_mvC rfl rfl) rfl rfl rfl ?_
    refine LexK.on (q_mvC rfl rfl) rfl rfl rfl rfl rfl ?_
    refine LexK.on (q_mvC rfl rfl) rfl rfl rfl rfl rfl ?_
    refine LexK.on (q_conv _ rfl Fx.un3 rfl (rfl) ⟨_, Fx.un37⟩) rfl rfl rfl rfl rfl ?_
    refine LexK.on (q_mvC rfl rfl) rfl rfl rfl rfl rfl ?_
    refine LexK.on (q_conv _ rfl Fx.un3 rfl (rfl) ⟨_, Fx.un37⟩) rfl rfl rfl rfl rfl ?_
    refine LexK.rOn (g_call rfl Fx.fn20 rfl (reachesI _ c _ _ _ G2 (by omega)) rfl rfl rfl) rfl rfl rfl ?_
    refine LexK.on (q_not rfl rfl) rfl rfl rfl rfl rfl ?_
    refine LexK.q (q_pkT rfl rfl rfl) rfl rfl rfl ?_
    refine LexK.q (q_asC rfl rfl) rfl rfl rfl ?_
    refine LexK.nil (by kernel_rfl) ?_
    refine AW.ret ?_
    exact fin_x (x := .c _) (_) (.tmp rfl .nil) rfl (fun _ _ h => h) (by rw [dist_gone' (fun e he => (mem_lvE.1 he).2)]; rfl)

end Go.Proofs.Ytikcmjamioopbaa.W
namespace Go.Proofs.Ytikcmjamioopbaa.W
open Go.RowKit E M
set_option linter.unusedVariables false
set_option linter.unusedSimpArgs false
set_option linter.unusedSectionVars false
theorem reaches_law (ops : List Act') (xs : List Int) (hx : xs.length = 3) (H : Heap) : E.Spec Try.prog 5 [opsC .un ops, .g (((xs.map (fun x : Int => ([.v (.int .i8 x)] : List E.T))).flatten).map A.t)] H fun x _ => x = bX true := by
  match xs, hx with
  | [a, b, c], _ =>
    by_cases hl : 30 < ops.length
    · exact reaches_lawB H ops .un a b c hl
    · exact reaches_lawS H ops .un a b c hl
theorem cycle_law (ops : List Act') (n : Int) (H : Heap) : E.Spec Try.prog 6 [opsC .un ops, .a (.t (.v (.int .i8 n)))] H fun x _ => x = bX true := by
  by_cases hl : 30 < ops.length
  · exact cycle_lawB H ops .un n hl
  · exact cycle_lawS H ops .un n hl
theorem remove_law (ops : List Act') (n : Int) (b : Bool) (H : Heap) : E.Spec Try.prog 9 [opsC .un ops, .a (.t (.v (.int .i8 n))), .a (.t (.v (.bool b)))] H fun x _ => x = bX true := by
  cases b
  · by_cases hl : 30 < ops.length
    · exact remove_lawFB H ops .un n hl
    · exact remove_lawFS H ops .un n hl
  · by_cases hl : 30 < ops.length
    · exact remove_lawTB H ops .un n hl
    · exact remove_lawTS H ops .un n hl

end Go.Proofs.Ytikcmjamioopbaa.W
