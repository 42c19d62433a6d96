/- Parts of the proof, one after the other: W28, W29, W30. No condition. -/
import Derived.Test.YtnmfjojhgfipcaaM16
namespace Go.Proofs.Ytnmfjojhgfipcaa.W
open Go.RowKit E
set_option linter.unusedVariables false
set_option linter.unusedSimpArgs false
set_option linter.unusedSectionVars false
abbrev clA (c : Cl) : List A := [.t (.sl .un 1 (c.nl.map i64T)), .t (.sl .un 1 (c.nn.map i64T)), .t (.sl .un 4 (c.ax.map axT)), .t (.sl .un 3 (c.is.map ctT)), .t (.sl .un 4 (c.ts.map tsT)), .t (.sl .un 2 (c.sm.map prT)), .t (.sl .un 2 (c.df.map prT))]
abbrev hvP (v ty : Int) (nn : List Int) (l : List Vr) : Prop := (0 ≤ v ∧ v < l.length) ∧ vty l v = ty ∧ v ∈ nn

set_option maxRecDepth 20000 in
theorem has2_any (H : Heap) (kn kd kc : Nat) (c : Cl) (l : List Vr) (z : Nz) (h1 : H kn = some (.box [.t (.v (.int .i64 ((l.length : Nat) : Int)))])) (h2 : H kd = some (.box [.t (.sl z 5 (l.map vrT))])) (h3 : H kc = some (.box (clA c))) (hn : c.nn.length ≤ 17592186044000) (hl : l.length ≤ 17592186044000) (v ty : Int) : E.Spec Try.prog 55 [iC v, iC ty, .a (.bp kn 0), .a (.bp kd 0), .a (.bp kc 0)] H fun x H' => x = .c (bC (decide (hvP v ty c.nn l))) ∧ H' = H := by
  refine Spec.enter Try.func55 rfl ?_
  refine AW.wk (Wk.keep 30 [(0, .c (iC v)), (1, .c (iC ty)), (2, .c (.a (.bp kn 0))), (3, .c (.a (.bp kd 0))), (4, .c (.a (.bp kc 0)))] [] (H) rfl ⟨rfl, rfl, rfl, rfl, rfl, trivial⟩ trivial (fun _ _ h => h) rfl) ?_
  refine AW.seq ?_
  refine AW.reg ?_
  refine SeqK.q (q_asC rfl rfl) rfl rfl rfl ?_
  refine SeqK.nil ?_
  refine AW.seq ?_
  refine AW.reg ?_
  refine SeqK.q (q_mvC rfl rfl) rfl rfl rfl ?_
  refine SeqK.q (q_geq rfl rfl rfl) rfl rfl rfl ?_
  refine SeqK.qD (q_mvC rfl rfl) rfl rfl rfl (fun g10 => ?_) (fun g10 => ?_)
  ·
    refine SeqK.on (q_mvC rfl rfl) rfl rfl rfl rfl rfl ?_
    refine SeqK.rOn (g_load (r := .a _) rfl Fx.ty3 rfl (by (repeat rw [upd_ne _ _ (by first | assumption | exact Ne.symm (by assumption))]); first | assumption | exact upd_same _ _ _) rfl rfl rfl rfl) rfl rfl rfl ?_
    refine SeqK.on (q_lss rfl rfl rfl) rfl rfl rfl rfl rfl ?_
    refine SeqK.q (q_pkT rfl rfl rfl) rfl rfl rfl ?_
    refine SeqK.qD (q_mvC rfl rfl) rfl rfl rfl (fun g15 => ?_) (fun g15 => ?_)
    ·
      have hv : v.toNat < l.length := by omega
      have hty := vty_at hv
      refine SeqK.rOn (g_load (r := .a _) rfl Fx.ty29 rfl (by (repeat rw [upd_ne _ _ (by first | assumption | exact Ne.symm (by assumption))]); first | assumption | exact upd_same _ _ _) rfl rfl rfl rfl) rfl rfl rfl ?_
      refine SeqK.on (q_mvC rfl rfl) rfl rfl rfl rfl rfl ?_
      refine SeqK.on (q_index _ rfl Fx.sl29 rfl rfl (by omega) (idx_map (f := vrT) hv)) rfl rfl rfl rfl rfl ?_
      refine SeqK.on (q_fieldP _ rfl Fx.fl53_0 rfl rfl) rfl rfl rfl rfl rfl ?_
      refine SeqK.on (q_load (.a _) rfl Fx.ty3 rfl rfl rfl) rfl rfl rfl rfl rfl ?_
      refine SeqK.on (q_mvC rfl rfl) rfl rfl rfl rfl rfl ?_
      refine SeqK.on (q_eql rfl rfl rfl) rfl rfl rfl rfl rfl ?_
      refine SeqK.q (q_pkT rfl rfl rfl) rfl rfl rfl ?_
      refine SeqK.qD (q_mvC rfl rfl) rfl rfl rfl (fun g24 => ?_) (fun g24 => ?_)
      ·
        refine SeqK.on (q_fieldH _ rfl Fx.fl28_1 rfl rfl) rfl rfl rfl rfl rfl ?_
        refine SeqK.rOn (g_load (r := .a _) rfl Fx.ty22 rfl (by (repeat rw [upd_ne _ _ (by first | assumption | exact Ne.symm (by assumption))]); first | assumption | exact upd_same _ _ _) rfl rfl rfl rfl) rfl rfl rfl ?_
        refine SeqK.on (q_mvC rfl rfl) rfl rfl rfl rfl rfl ?_
        refine SeqK.on (q_call _ rfl Fx.fn56 rfl (dhas_any _ _ _ hn) rfl) rfl rfl rfl rfl rfl ?_
        refine SeqK.q (q_pkT rfl rfl rfl) rfl rfl rfl ?_
        refine SeqK.q (q_asC rfl rfl) rfl rfl rfl ?_
        refine SeqK.nil ?_
        refine AW.ret ?_
        exact fin_x (x := .c _) (H) (.tmp rfl .nil) rfl (fun _ _ h => h) (⟨bCe (by first | exact dF (by rintro ⟨⟨a, b⟩, c, d⟩; first | omega | (rw [hty] at c; omega)) | exact dI ⟨fun h => ⟨⟨by omega, by omega⟩, by rw [hty]; assumption, h⟩, fun h => h.2.2⟩), rfl⟩)
      ·
        refine SeqK.off rfl rfl rfl rfl rfl rfl ?_
        refine SeqK.off rfl rfl rfl rfl rfl rfl ?_
        refine SeqK.off rfl rfl rfl rfl rfl rfl ?_
        refine SeqK.off rfl rfl rfl rfl rfl rfl ?_
        refine SeqK.q (q_pkF rfl rfl rfl) rfl rfl rfl ?_
        refine SeqK.q (q_asC rfl rfl) rfl rfl rfl ?_
        refine SeqK.nil ?_
        refine AW.ret ?_
        exact fin_x (x := .c _) (H) (.tmp rfl .nil) rfl (fun _ _ h => h) (⟨bCe (by first | exact dF (by rintro ⟨⟨a, b⟩, c, d⟩; first | omega | (rw [hty] at c; omega)) | exact dI ⟨fun h => ⟨⟨by omega, by omega⟩, by rw [hty]; assumption, h⟩, fun h => h.2.2⟩), rfl⟩)
    ·
      refine SeqK.off rfl rfl rfl rfl rfl rfl ?_
      refine SeqK.off rfl rfl rfl rfl rfl rfl ?_
      refine SeqK.off rfl rfl rfl rfl rfl rfl ?_
      refine SeqK.off rfl rfl rfl rfl rfl rfl ?_
      refine SeqK.off rfl rfl rfl rfl rfl rfl ?_
      refine SeqK.off rfl rfl rfl rfl rfl rfl ?_
      refine SeqK.off rfl rfl rfl rfl rfl rfl ?_
      refine SeqK.q (q_pkF rfl rfl rfl) rfl rfl rfl ?_
      refine SeqK.q (q_mvC rfl rfl) rfl rfl rfl ?_
      refine SeqK.off rfl rfl rfl rfl rfl rfl ?_
      refine SeqK.off rfl rfl rfl rfl rfl rfl ?_
      refine SeqK.off rfl rfl rfl rfl rfl rfl ?_
      refine SeqK.off rfl rfl rfl rfl rfl rfl ?_
      refine SeqK.q (q_pkF rfl rfl rfl) rfl rfl rfl ?_
      refine SeqK.q (q_asC rfl rfl) rfl rfl rfl ?_
      refine SeqK.nil ?_
      refine AW.ret ?_
      exact fin_x (x := .c _) (H) (.tmp rfl .nil) rfl (fun _ _ h => h) (⟨bCe (by first | exact dF (by rintro ⟨⟨a, b⟩, c, d⟩; first | omega | (rw [hty] at c; omega)) | exact dI ⟨fun h => ⟨⟨by omega, by omega⟩, by rw [hty]; assumption, h⟩, fun h => h.2.2⟩), rfl⟩)
  ·
    refine SeqK.off rfl rfl rfl rfl rfl rfl ?_
    refine SeqK.off rfl rfl rfl rfl rfl rfl ?_
    refine SeqK.off rfl rfl rfl rfl rfl rfl ?_
    refine SeqK.q (q_pkF rfl rfl rfl) rfl rfl rfl ?_
    refine SeqK.q (q_mvC rfl rfl) rfl rfl rfl ?_
    refine SeqK.off rfl rfl rfl rfl rfl rfl ?_
    refine SeqK.off rfl rfl rfl rfl rfl rfl ?_
    refine SeqK.off rfl rfl rfl rfl rfl rfl ?_
    refine SeqK.off rfl rfl rfl rfl rfl rfl ?_
    refine SeqK.off rfl rfl rfl rfl rfl rfl ?_
    refine SeqK.off rfl rfl rfl rfl rfl rfl ?_
    refine SeqK.off rfl rfl rfl rfl rfl rfl ?_
    refine SeqK.q (q_pkF rfl rfl rfl) rfl rfl rfl ?_
    refine SeqK.q (q_mvC rfl rfl) rfl rfl rfl ?_
    refine SeqK.off rfl rfl rfl rfl rfl rfl ?_
    refine SeqK.off rfl rfl rfl rfl rfl rfl ?_
    refine SeqK.off rfl rfl rfl rfl rfl rfl ?_
    refine SeqK.off rfl rfl rfl rfl rfl rfl ?_
    refine SeqK.q (q_pkF rfl rfl rfl) rfl rfl rfl ?_
    refine SeqK.q (q_asC rfl rfl) rfl rfl rfl ?_
    refine SeqK.nil ?_
    refine AW.ret ?_
    exact fin_x (x := .c _) (H) (.tmp rfl .nil) rfl (fun _ _ h => h) (⟨bCe (by first | exact dF (by rintro ⟨⟨a, b⟩, c, d⟩; first | omega | (rw [hty] at c; omega)) | exact dI ⟨fun h => ⟨⟨by omega, by omega⟩, by rw [hty]; assumption, h⟩, fun h => h.2.2⟩), rfl⟩)

set_option maxHeartbeats 8000000 in
set_option maxRecDepth 20000 in
theorem form2_any (H : Heap) (kn kd kc : Nat) (c : Cl) (l : List Vr) (z : Nz) (h1 : H kn = some (.box [.t (.v (.int .i64 ((l.length : Nat) : Int)))])) (h2 : H kd = some (.box [.t (.sl z 5 (l.map vrT))])) (h3 : H kc = some (.box (clA c))) (hn : c.nn.length ≤ 17592186044000) (hl : l.length ≤ 17592186044000) (kf : Nat) (h4 : H kf = some (.box [.fn 55 [.bp kn 0, .bp kd 0, .bp kc 0]])) (f : Lf) (m : Nat) (hm : m ≤ c.ax.length) (hal : c.ax.length ≤ 17592186044000) (hfl : f.cs.length ≤ 17592186044000) (hfR : R64 f.c ∧ ∀ k ∈ f.cs, R64 k.n) (hax : ∀ j (h : j < c.ax.length), j < m → okX l.length c.ax j h) : E.Spec Try.prog 57 [lfC f, iC (m : Int), .a (.bp kf 0), .a (.bp kn 0), .a (.bp kc 0)] H fun x H' => x = .c (bC (decide (formP f c.nn l (bsF l.length (c.ax.take m))))) ∧ H' = H := by
  have hB : (bsF l.length (c.ax.take m)).length = m := by rw [bsF_len, List.length_take]; omega
  have hfc := hfR.1
  refine Spec.enter Try.func57 rfl ?_
  refine AW.wk (Wk.keep 79 [(0, .c (lfC f)), (1, .c (iC (m : Int))), (2, .c (.a (.bp kf 0))), (3, .c (.a (.bp kn 0))), (4, .c (.a (.bp kc 0)))] [] (H) rfl ⟨rfl, rfl, rfl, rfl, rfl, trivial⟩ trivial (fun _ _ h => h) rfl) ?_
  refine AW.seq ?_
  refine AW.reg ?_
  refine SeqK.r (b_box (r := [_, _]) rfl rfl rfl rfl rfl rfl) rfl ?_
  refine SeqK.q (q_asC rfl rfl) rfl rfl rfl ?_
  refine SeqK.nil ?_
  refine AW.seq ?_
  refine AW.seq ?_
  refine AW.reg ?_
  refine SeqK.q (q_fieldL _ rfl Fx.fl74_1 rfl rfl) rfl rfl rfl ?_
  refine SeqK.r (b_load (r := .a _) rfl Fx.ty72 rfl rfl rfl rfl rfl rfl) rfl ?_
  refine SeqK.q (q_len rfl Fx.un72 rfl) rfl rfl rfl ?_
  refine SeqK.q (q_mvC rfl rfl) rfl rfl rfl ?_
  refine SeqK.nil ?_
  refine AW.block ?_
  refine AW.loop (fun (i : Nat) s => (i ≤ f.cs.length ∧ ∀ j (h : j < f.cs.length), j < i → cfQ f c.nn l m j h) ∧ s = ⟨79, sp [(1, .c (iC (m : Int))), (2, .c (.a (.bp kf 0))), (3, .c (.a (.bp kn 0))), (4, .c (.a (.bp kc 0))), (5, .lp 5 0), (7, .c (bC false)), (12, .c (cfsC .un f.cs)), (13, iX .i64 (((f.cs.map cfT).length : Nat) : Int)), (14, iX .i64 ((i : Nat) : Int))], lv [(5, .box [.t (.v (.int .i64 f.c)), .t (.sl .un 2 (f.cs.map cfT))])], H⟩) (fun i => f.cs.length - i) 0 ⟨_, Wk.keep 79 [(1, .c (iC (m : Int))), (2, .c (.a (.bp kf 0))), (3, .c (.a (.bp kn 0))), (4, .c (.a (.bp kc 0))), (5, .lp 5 0), (7, .c (bC false)), (12, .c (cfsC .un f.cs)), (13, iX .i64 (((f.cs.map cfT).length : Nat) : Int)), (14, iX .i64 ((((0 : Nat)) : Nat) : Int))] [(5, .box [.t (.v (.int .i64 f.c)), .t (.sl .un 2 (f.cs.map cfT))])] (H) rfl ⟨rfl, rfl, rfl, rfl, rfl, rfl, rfl, rfl, rfl, trivial⟩ ⟨rfl, trivial⟩ (fun _ _ h => h) rfl, ⟨Nat.zero_le _, up0⟩, rfl⟩ (fun i s hs => ?_)
  obtain ⟨⟨hi0, hU⟩, rfl⟩ := hs
  refine AW.seq ?_
  refine AW.reg ?_
  refine SeqK.q (q_lss rfl rfl rfl) rfl rfl rfl ?_
  refine SeqK.nil ?_
  refine AW.seq ?_
  refine AW.condD rfl (fun h15 => ?_) (fun h15 => ?_)
  ·
    have hi : i < f.cs.length := by rw [List.length_map] at h15; omega
    refine AW.skip ?_
    refine AW.seq ?_
    refine AW.block ?_
    refine AW.seq ?_
    refine AW.reg ?_
    refine SeqK.q (q_mvC rfl rfl) rfl rfl rfl ?_
    refine SeqK.q (q_index _ rfl Fx.sl72 rfl rfl (by omega) (idx_map (f := cfT) hi)) rfl rfl rfl ?_
    refine SeqK.q (q_load (.g [_, _]) rfl Fx.ty106 rfl rfl rfl) rfl rfl rfl ?_
    refine SeqK.r (b_alloc (r := [_, _]) rfl rfl Fx.ze106 rfl rfl rfl rfl) rfl ?_
    refine SeqK.q (q_asC rfl rfl) rfl rfl rfl ?_
    refine SeqK.r (b_store (r := [_, _]) rfl rfl Fx.ty106 rfl rfl rfl rfl rfl rfl) rfl ?_
    refine SeqK.nil ?_
    refine AW.seq ?_
    refine AW.reg ?_
    refine SeqK.r (g_load (r := .a _) rfl Fx.ty104 rfl (by (repeat rw [upd_ne _ _ (by first | assumption | exact Ne.symm (by assumption))]); first | assumption | exact upd_same _ _ _) rfl rfl rfl rfl) rfl ?_
    refine SeqK.q (q_fieldL _ rfl Fx.fl106_0 rfl rfl) rfl rfl rfl ?_
    refine SeqK.r (b_load (r := .a _) rfl Fx.ty3 rfl rfl rfl rfl rfl rfl) rfl ?_
    refine SeqK.callV (f := 55) (cs := [.bp kn 0, .bp kd 0, .bp kc 0]) rfl rfl rfl rfl rfl Fx.fn55 rfl (has2_any _ kn kd kc c l z h1 h2 h3 hn hl _ 1) (fun _ _ h => by rw [h.1]; rfl) (fun x22 H22 q22 => ?_)
    obtain ⟨rfl, hHs⟩ := q22
    replace hHs := hHs.symm
    subst hHs
    refine SeqK.qB (q_mvC rfl rfl) rfl rfl rfl (fun g23 => ?_) (fun g23 => ?_)
    ·
      obtain ⟨⟨hA1, hA2⟩, hA3, hA4⟩ := of_decide_eq_true g23
      refine SeqK.off rfl rfl rfl rfl rfl rfl ?_
      refine SeqK.off rfl rfl rfl rfl rfl rfl ?_
      refine SeqK.off rfl rfl rfl rfl rfl rfl ?_
      refine SeqK.off rfl rfl rfl rfl rfl rfl ?_
      refine SeqK.off rfl rfl rfl rfl rfl rfl ?_
      refine SeqK.offU rfl rfl rfl rfl rfl ?_
      refine SeqK.offU rfl rfl rfl rfl rfl ?_
      refine SeqK.offU rfl rfl rfl rfl rfl ?_
      refine SeqK.offU rfl rfl rfl rfl rfl ?_
      refine SeqK.offU rfl rfl rfl rfl rfl ?_
      refine SeqK.offU rfl rfl rfl rfl rfl ?_
      refine SeqK.off rfl rfl rfl rfl rfl rfl ?_
      refine SeqK.q (q_pkT rfl rfl rfl) rfl rfl rfl ?_
      refine SeqK.q (q_asC rfl rfl) rfl rfl rfl ?_
      refine SeqK.nil ?_
      refine AW.seq ?_
      refine AW.draw Fx.mo ?_
      refine LexK.q (q_mvC rfl rfl) rfl rfl rfl ?_
      refine LexK.q (q_not rfl rfl) rfl rfl rfl ?_
      refine LexK.q (q_mvC rfl rfl) rfl rfl rfl ?_
      refine LexK.on (q_mvC rfl rfl) rfl rfl rfl rfl rfl ?_
      refine LexK.on (q_gtr rfl rfl rfl) rfl rfl rfl rfl rfl ?_
      refine LexK.onD (q_mvC rfl rfl) rfl rfl rfl rfl rfl (fun g42 => ?_) (fun g42 => ?_)
      ·
        refine LexK.on (q_fieldL _ rfl Fx.fl106_0 rfl rfl) rfl rfl rfl rfl rfl ?_
        refine LexK.rOn (b_load (r := .a _) rfl Fx.ty3 rfl rfl rfl rfl rfl rfl) rfl rfl rfl ?_
        refine LexK.on (q_fieldL _ rfl Fx.fl74_1 rfl rfl) rfl rfl rfl rfl rfl ?_
        refine LexK.rOn (b_load (r := .a _) rfl Fx.ty72 rfl rfl rfl rfl rfl rfl) rfl rfl rfl ?_
        refine LexK.on (q_mvC rfl rfl) rfl rfl rfl rfl rfl ?_
        refine LexK.on (q_sub _ rfl rfl rfl ((by rw [w64 (by omega) (by omega)]; omega : IntKind.i64.wrap _ = ((i - 1 : Nat) : Int)))) rfl rfl rfl rfl rfl ?_
        refine LexK.on (q_index _ rfl Fx.sl72 rfl rfl (by omega) (idx_map (f := cfT) (show i - 1 < f.cs.length by omega))) rfl rfl rfl rfl rfl ?_
        refine LexK.on (q_fieldP _ rfl Fx.fl106_0 rfl rfl) rfl rfl rfl rfl rfl ?_
        refine LexK.on (q_load (.a _) rfl Fx.ty3 rfl rfl rfl) rfl rfl rfl rfl rfl ?_
        refine LexK.on (q_leq rfl rfl rfl) rfl rfl rfl rfl rfl ?_
        refine LexK.on (q_pkT rfl rfl rfl) rfl rfl rfl rfl rfl ?_
        refine LexK.q (q_pkF rfl rfl rfl) rfl rfl rfl ?_
        refine LexK.qD (q_mvC rfl rfl) rfl rfl rfl (fun g55 => ?_) (fun g55 => ?_)
        ·
          refine LexK.off rfl rfl rfl rfl rfl rfl ?_
          refine LexK.off rfl rfl rfl rfl rfl rfl ?_
          refine LexK.off rfl rfl rfl rfl rfl rfl ?_
          refine LexK.q (q_pkT rfl rfl rfl) rfl rfl rfl ?_
          refine LexK.q (q_mvC rfl rfl) rfl rfl rfl ?_
          refine LexK.off rfl rfl rfl rfl rfl rfl ?_
          refine LexK.off rfl rfl rfl rfl rfl rfl ?_
          refine LexK.off rfl rfl rfl rfl rfl rfl ?_
          refine LexK.off rfl rfl rfl rfl rfl rfl ?_
          refine LexK.q (q_pkT rfl rfl rfl) rfl rfl rfl ?_
          refine LexK.nil (by kernel_rfl) ?_
          refine AW.condT rfl ?_
          refine AW.seq ?_
          refine AW.reg ?_
          refine SeqK.q (q_asC rfl rfl) rfl rfl rfl ?_
          refine SeqK.nil ?_
          refine AW.ret ?_
          exact fin_x (x := .c _) (H) (.tmp rfl .nil) rfl (fun _ _ h => h) (⟨bCe (dF (fun hp => by
            have hq := hp.2.1 i hi
            rw [hB] at hq
            obtain ⟨⟨a1, a2⟩, b, c1, ⟨d1, d2⟩, e⟩ := hq
            first | omega | (have := b (by omega); omega) | exact of_decide_eq_false g23 ⟨⟨a1, by omega⟩, e (by omega)⟩ | (have := nd_t g39; omega))), rfl⟩)
        ·
          refine LexK.on (q_fieldL _ rfl Fx.fl106_1 rfl rfl) rfl rfl rfl rfl rfl ?_
          refine LexK.rOn (b_load (r := .a _) rfl Fx.ty2 rfl rfl rfl rfl rfl rfl) rfl rfl rfl ?_
          refine LexK.on (q_eql rfl rfl rfl) rfl rfl rfl rfl rfl ?_
          refine LexK.q (q_pkF rfl rfl rfl) rfl rfl rfl ?_
          refine LexK.qD (q_mvC rfl rfl) rfl rfl rfl (fun g60 => ?_) (fun g60 => ?_)
          ·
            refine LexK.off rfl rfl rfl rfl rfl rfl ?_
            refine LexK.off rfl rfl rfl rfl rfl rfl ?_
            refine LexK.off rfl rfl rfl rfl rfl rfl ?_
            refine LexK.off rfl rfl rfl rfl rfl rfl ?_
            refine LexK.q (q_pkT rfl rfl rfl) rfl rfl rfl ?_
            refine LexK.nil (by kernel_rfl) ?_
            refine AW.condT rfl ?_
            refine AW.seq ?_
            refine AW.reg ?_
            refine SeqK.q (q_asC rfl rfl) rfl rfl rfl ?_
            refine SeqK.nil ?_
            refine AW.ret ?_
            exact fin_x (x := .c _) (H) (.tmp rfl .nil) rfl (fun _ _ h => h) (⟨bCe (dF (fun hp => by
              have hq := hp.2.1 i hi
              rw [hB] at hq
              obtain ⟨⟨a1, a2⟩, b, c1, ⟨d1, d2⟩, e⟩ := hq
              first | omega | (have := b (by omega); omega) | exact of_decide_eq_false g23 ⟨⟨a1, by omega⟩, e (by omega)⟩ | (have := nd_t g39; omega))), rfl⟩)
          ·
            refine LexK.on (q_fieldL _ rfl Fx.fl106_1 rfl rfl) rfl rfl rfl rfl rfl ?_
            refine LexK.rOn (b_load (r := .a _) rfl Fx.ty2 rfl rfl rfl rfl rfl rfl) rfl rfl rfl ?_
            refine LexK.on (q_call _ rfl Fx.fn58 rfl (dabs_any _ (by first | assumption | exact hfR.2 _ (List.getElem_mem hi))) rfl) rfl rfl rfl rfl rfl ?_
            refine LexK.on (q_gtr rfl rfl rfl) rfl rfl rfl rfl rfl ?_
            refine LexK.q (q_pkF rfl rfl rfl) rfl rfl rfl ?_
            refine LexK.nil (by kernel_rfl) ?_
            refine AW.condD rfl (fun h65 => ?_) (fun h65 => ?_)
            ·
              have h65x : ((f.cs[i].n.natAbs : Nat) : Int) > 1048576 := h65
              refine AW.seq ?_
              refine AW.reg ?_
              refine SeqK.q (q_asC rfl rfl) rfl rfl rfl ?_
              refine SeqK.nil ?_
              refine AW.ret ?_
              exact fin_x (x := .c _) (H) (.tmp rfl .nil) rfl (fun _ _ h => h) (⟨bCe (dF (fun hp => by
                have hq := hp.2.1 i hi
                rw [hB] at hq
                obtain ⟨⟨a1, a2⟩, b, c1, ⟨d1, d2⟩, e⟩ := hq
                first | omega | (have := b (by omega); omega) | exact of_decide_eq_false g23 ⟨⟨a1, by omega⟩, e (by omega)⟩ | (have := nd_t g39; omega))), rfl⟩)
            ·
              have h65x : ¬ ((f.cs[i].n.natAbs : Nat) : Int) > 1048576 := h65
              refine AW.skip ?_
              refine AW.reg ?_
              refine SeqK.q (q_add _ rfl rfl rfl (w64 (by omega) (by omega))) rfl rfl rfl ?_
              refine SeqK.q (q_mvC rfl rfl) rfl rfl rfl ?_
              refine SeqK.nil ?_
              exact ⟨i + 1, _, Wk.keep 79 [(1, .c (iC (m : Int))), (2, .c (.a (.bp kf 0))), (3, .c (.a (.bp kn 0))), (4, .c (.a (.bp kc 0))), (5, .lp 5 0), (7, .c (bC false)), (12, .c (cfsC .un f.cs)), (13, iX .i64 (((f.cs.map cfT).length : Nat) : Int)), (14, iX .i64 (((i + 1) : Nat) : Int))] [(5, .box [.t (.v (.int .i64 f.c)), .t (.sl .un 2 (f.cs.map cfT))])] (H) rfl ⟨rfl, rfl, rfl, rfl, rfl, rfl, rfl, rfl, rfl, trivial⟩ ⟨rfl, trivial⟩ (fun _ _ h => h) rfl, by omega, ⟨hi, upS (Q := fun j h => cfQ f c.nn l m j h) hi hU (by
                refine ⟨⟨?_, ?_⟩, fun h0 => ?_, ?_, ⟨?_, ?_⟩, fun hll => ?_⟩ <;> first | omega | exact ⟨hA3, hA4⟩ | (have := nd_f g39; omega))⟩, rfl⟩
      ·
        refine LexK.off rfl rfl rfl rfl rfl rfl ?_
        refine LexK.off rfl rfl rfl rfl rfl rfl ?_
        refine LexK.off rfl rfl rfl rfl rfl rfl ?_
        refine LexK.off rfl rfl rfl rfl rfl rfl ?_
        refine LexK.off rfl rfl rfl rfl rfl rfl ?_
        refine LexK.off rfl rfl rfl rfl rfl rfl ?_
        refine LexK.off rfl rfl rfl rfl rfl rfl ?_
        refine LexK.off rfl rfl rfl rfl rfl rfl ?_
        refine LexK.off rfl rfl rfl rfl rfl rfl ?_
        refine LexK.off rfl rfl rfl rfl rfl rfl ?_
        refine LexK.on (q_pkF rfl rfl rfl) rfl rfl rfl rfl rfl ?_
        refine LexK.q (q_pkF rfl rfl rfl) rfl rfl rfl ?_
        refine LexK.q (q_mvC rfl rfl) rfl rfl rfl ?_
        refine LexK.on (q_fieldL _ rfl Fx.fl106_1 rfl rfl) rfl rfl rfl rfl rfl ?_
        refine LexK.rOn (b_load (r := .a _) rfl Fx.ty2 rfl rfl rfl rfl rfl rfl) rfl rfl rfl ?_
        refine LexK.on (q_eql rfl rfl rfl) rfl rfl rfl rfl rfl ?_
        refine LexK.q (q_pkF rfl rfl rfl) rfl rfl rfl ?_
        refine LexK.qD (q_mvC rfl rfl) rfl rfl rfl (fun g60 => ?_) (fun g60 => ?_)
        ·
          refine LexK.off rfl rfl rfl rfl rfl rfl ?_
          refine LexK.off rfl rfl rfl rfl rfl rfl ?_
          refine LexK.off rfl rfl rfl rfl rfl rfl ?_
          refine LexK.off rfl rfl rfl rfl rfl rfl ?_
          refine LexK.q (q_pkT rfl rfl rfl) rfl rfl rfl ?_
          refine LexK.nil (by kernel_rfl) ?_
          refine AW.condT rfl ?_
          refine AW.seq ?_
          refine AW.reg ?_
          refine SeqK.q (q_asC rfl rfl) rfl rfl rfl ?_
          refine SeqK.nil ?_
          refine AW.ret ?_
          exact fin_x (x := .c _) (H) (.tmp rfl .nil) rfl (fun _ _ h => h) (⟨bCe (dF (fun hp => by
            have hq := hp.2.1 i hi
            rw [hB] at hq
            obtain ⟨⟨a1, a2⟩, b, c1, ⟨d1, d2⟩, e⟩ := hq
            first | omega | (have := b (by omega); omega) | exact of_decide_eq_false g23 ⟨⟨a1, by omega⟩, e (by omega)⟩ | (have := nd_t g39; omega))), rfl⟩)
        ·
          refine LexK.on (q_fieldL _ rfl Fx.fl106_1 rfl rfl) rfl rfl rfl rfl rfl ?_
          refine LexK.rOn (b_load (r := .a _) rfl Fx.ty2 rfl rfl rfl rfl rfl rfl) rfl rfl rfl ?_
          refine LexK.on (q_call _ rfl Fx.fn58 rfl (dabs_any _ (by first | assumption | exact hfR.2 _ (List.getElem_mem hi))) rfl) rfl rfl rfl rfl rfl ?_
          refine LexK.on (q_gtr rfl rfl rfl) rfl rfl rfl rfl rfl ?_
          refine LexK.q (q_pkF rfl rfl rfl) rfl rfl rfl ?_
          refine LexK.nil (by kernel_rfl) ?_
          refine AW.condD rfl (fun h65 => ?_) (fun h65 => ?_)
          ·
            have h65x : ((f.cs[i].n.natAbs : Nat) : Int) > 1048576 := h65
            refine AW.seq ?_
            refine AW.reg ?_
            refine SeqK.q (q_asC rfl rfl) rfl rfl rfl ?_
            refine SeqK.nil ?_
            refine AW.ret ?_
            exact fin_x (x := .c _) (H) (.tmp rfl .nil) rfl (fun _ _ h => h) (⟨bCe (dF (fun hp => by
              have hq := hp.2.1 i hi
              rw [hB] at hq
              obtain ⟨⟨a1, a2⟩, b, c1, ⟨d1, d2⟩, e⟩ := hq
              first | omega | (have := b (by omega); omega) | exact of_decide_eq_false g23 ⟨⟨a1, by omega⟩, e (by omega)⟩ | (have := nd_t g39; omega))), rfl⟩)
          ·
            have h65x : ¬ ((f.cs[i].n.natAbs : Nat) : Int) > 1048576 := h65
            refine AW.skip ?_
            refine AW.reg ?_
            refine SeqK.q (q_add _ rfl rfl rfl (w64 (by omega) (by omega))) rfl rfl rfl ?_
            refine SeqK.q (q_mvC rfl rfl) rfl rfl rfl ?_
            refine SeqK.nil ?_
            exact ⟨i + 1, _, Wk.keep 79 [(1, .c (iC (m : Int))), (2, .c (.a (.bp kf 0))), (3, .c (.a (.bp kn 0))), (4, .c (.a (.bp kc 0))), (5, .lp 5 0), (7, .c (bC false)), (12, .c (cfsC .un f.cs)), (13, iX .i64 (((f.cs.map cfT).length : Nat) : Int)), (14, iX .i64 (((i + 1) : Nat) : Int))] [(5, .box [.t (.v (.int .i64 f.c)), .t (.sl .un 2 (f.cs.map cfT))])] (H) rfl ⟨rfl, rfl, rfl, rfl, rfl, rfl, rfl, rfl, rfl, trivial⟩ ⟨rfl, trivial⟩ (fun _ _ h => h) rfl, by omega, ⟨hi, upS (Q := fun j h => cfQ f c.nn l m j h) hi hU (by
              refine ⟨⟨?_, ?_⟩, fun h0 => ?_, ?_, ⟨?_, ?_⟩, fun hll => ?_⟩ <;> first | omega | exact ⟨hA3, hA4⟩ | (have := nd_f g39; omega))⟩, rfl⟩
    ·
      refine SeqK.on (q_fieldL _ rfl Fx.fl106_0 rfl rfl) rfl rfl rfl rfl rfl ?_
      refine SeqK.rOn (b_load (r := .a _) rfl Fx.ty3 rfl rfl rfl rfl rfl rfl) rfl rfl rfl ?_
      refine SeqK.rOn (g_load (r := .a _) rfl Fx.ty3 rfl (by (repeat rw [upd_ne _ _ (by first | assumption | exact Ne.symm (by assumption))]); first | assumption | exact upd_same _ _ _) rfl rfl rfl rfl) rfl rfl rfl ?_
      refine SeqK.on (q_geq rfl rfl rfl) rfl rfl rfl rfl rfl ?_
      refine SeqK.onD (q_mvC rfl rfl) rfl rfl rfl rfl rfl (fun g28 => ?_) (fun g28 => ?_)
      ·
        refine SeqK.on (q_fieldL _ rfl Fx.fl106_0 rfl rfl) rfl rfl rfl rfl rfl ?_
        refine SeqK.rOn (b_load (r := .a _) rfl Fx.ty3 rfl rfl rfl rfl rfl rfl) rfl rfl rfl ?_
        refine SeqK.rOn (g_load (r := .a _) rfl Fx.ty3 rfl (by (repeat rw [upd_ne _ _ (by first | assumption | exact Ne.symm (by assumption))]); first | assumption | exact upd_same _ _ _) rfl rfl rfl rfl) rfl rfl rfl ?_
        refine SeqK.on (q_mvC rfl rfl) rfl rfl rfl rfl rfl ?_
        refine SeqK.on (q_add _ rfl rfl rfl (w64 (by omega) (by omega))) rfl rfl rfl rfl rfl ?_
        refine SeqK.on (q_lss rfl rfl rfl) rfl rfl rfl rfl rfl ?_
        refine SeqK.on (q_pkT rfl rfl rfl) rfl rfl rfl rfl rfl ?_
        refine SeqK.q (q_pkF rfl rfl rfl) rfl rfl rfl ?_
        refine SeqK.q (q_asC rfl rfl) rfl rfl rfl ?_
        refine SeqK.nil ?_
        refine AW.seq ?_
        refine AW.draw Fx.mo ?_
        refine LexK.q (q_mvC rfl rfl) rfl rfl rfl ?_
        refine LexK.q (q_not rfl rfl) rfl rfl rfl ?_
        refine LexK.qB (q_mvC rfl rfl) rfl rfl rfl (fun g39 => ?_) (fun g39 => ?_)
        ·
          refine LexK.off rfl rfl rfl rfl rfl rfl ?_
          refine LexK.off rfl rfl rfl rfl rfl rfl ?_
          refine LexK.off rfl rfl rfl rfl rfl rfl ?_
          refine LexK.offU rfl rfl rfl rfl rfl ?_
          refine LexK.offU rfl rfl rfl rfl rfl ?_
          refine LexK.offU rfl rfl rfl rfl rfl ?_
          refine LexK.offU rfl rfl rfl rfl rfl ?_
          refine LexK.offU rfl rfl rfl rfl rfl ?_
          refine LexK.offU rfl rfl rfl rfl rfl ?_
          refine LexK.offU rfl rfl rfl rfl rfl ?_
          refine LexK.offU rfl rfl rfl rfl rfl ?_
          refine LexK.offU rfl rfl rfl rfl rfl ?_
          refine LexK.offU rfl rfl rfl rfl rfl ?_
          refine LexK.off rfl rfl rfl rfl rfl rfl ?_
          refine LexK.q (q_pkT rfl rfl rfl) rfl rfl rfl ?_
          refine LexK.q (q_mvC rfl rfl) rfl rfl rfl ?_
          refine LexK.off rfl rfl rfl rfl rfl rfl ?_
          refine LexK.off rfl rfl rfl rfl rfl rfl ?_
          refine LexK.off rfl rfl rfl rfl rfl rfl ?_
          refine LexK.q (q_pkT rfl rfl rfl) rfl rfl rfl ?_
          refine LexK.q (q_mvC rfl rfl) rfl rfl rfl ?_
          refine LexK.off rfl rfl rfl rfl rfl rfl ?_
          refine LexK.off rfl rfl rfl rfl rfl rfl ?_
          refine LexK.off rfl rfl rfl rfl rfl rfl ?_
          refine LexK.off rfl rfl rfl rfl rfl rfl ?_
          refine LexK.q (q_pkT rfl rfl rfl) rfl rfl rfl ?_
          refine LexK.nil (by kernel_rfl) ?_
          refine AW.condT rfl ?_
          refine AW.seq ?_
          refine AW.reg ?_
          refine SeqK.q (q_asC rfl rfl) rfl rfl rfl ?_
          refine SeqK.nil ?_
          refine AW.ret ?_
          exact fin_x (x := .c _) (H) (.tmp rfl .nil) rfl (fun _ _ h => h) (⟨bCe (dF (fun hp => by
            have hq := hp.2.1 i hi
            rw [hB] at hq
            obtain ⟨⟨a1, a2⟩, b, c1, ⟨d1, d2⟩, e⟩ := hq
            first | omega | (have := b (by omega); omega) | exact of_decide_eq_false g23 ⟨⟨a1, by omega⟩, e (by omega)⟩ | (have := nd_t g39; omega))), rfl⟩)
        ·
          refine LexK.on (q_mvC rfl rfl) rfl rfl rfl rfl rfl ?_
          refine LexK.on (q_gtr rfl rfl rfl) rfl rfl rfl rfl rfl ?_
          refine LexK.onD (q_mvC rfl rfl) rfl rfl rfl rfl rfl (fun g42 => ?_) (fun g42 => ?_)
          ·
            refine LexK.on (q_fieldL _ rfl Fx.fl106_0 rfl rfl) rfl rfl rfl rfl rfl ?_
            refine LexK.rOn (b_load (r := .a _) rfl Fx.ty3 rfl rfl rfl rfl rfl rfl) rfl rfl rfl ?_
            refine LexK.on (q_fieldL _ rfl Fx.fl74_1 rfl rfl) rfl rfl rfl rfl rfl ?_
            refine LexK.rOn (b_load (r := .a _) rfl Fx.ty72 rfl rfl rfl rfl rfl rfl) rfl rfl rfl ?_
            refine LexK.on (q_mvC rfl rfl) rfl rfl rfl rfl rfl ?_
            refine LexK.on (q_sub _ rfl rfl rfl ((by rw [w64 (by omega) (by omega)]; omega : IntKind.i64.wrap _ = ((i - 1 : Nat) : Int)))) rfl rfl rfl rfl rfl ?_
            refine LexK.on (q_index _ rfl Fx.sl72 rfl rfl (by omega) (idx_map (f := cfT) (show i - 1 < f.cs.length by omega))) rfl rfl rfl rfl rfl ?_
            refine LexK.on (q_fieldP _ rfl Fx.fl106_0 rfl rfl) rfl rfl rfl rfl rfl ?_
            refine LexK.on (q_load (.a _) rfl Fx.ty3 rfl rfl rfl) rfl rfl rfl rfl rfl ?_
            refine LexK.on (q_leq rfl rfl rfl) rfl rfl rfl rfl rfl ?_
            refine LexK.on (q_pkT rfl rfl rfl) rfl rfl rfl rfl rfl ?_
            refine LexK.q (q_pkF rfl rfl rfl) rfl rfl rfl ?_
            refine LexK.qD (q_mvC rfl rfl) rfl rfl rfl (fun g55 => ?_) (fun g55 => ?_)
            ·
              refine LexK.off rfl rfl rfl rfl rfl rfl ?_
              refine LexK.off rfl rfl rfl rfl rfl rfl ?_
              refine LexK.off rfl rfl rfl rfl rfl rfl ?_
              refine LexK.q (q_pkT rfl rfl rfl) rfl rfl rfl ?_
              refine LexK.q (q_mvC rfl rfl) rfl rfl rfl ?_
              refine LexK.off rfl rfl rfl rfl rfl rfl ?_
              refine LexK.off rfl rfl rfl rfl rfl rfl ?_
              refine LexK.off rfl rfl rfl rfl rfl rfl ?_
              refine LexK.off rfl rfl rfl rfl rfl rfl ?_
              refine LexK.q (q_pkT rfl rfl rfl) rfl rfl rfl ?_
              refine LexK.nil (by kernel_rfl) ?_
              refine AW.condT rfl ?_
              refine AW.seq ?_
              refine AW.reg ?_
              refine SeqK.q (q_asC rfl rfl) rfl rfl rfl ?_
              refine SeqK.nil ?_
              refine AW.ret ?_
              exact fin_x (x := .c _) (H) (.tmp rfl .nil) rfl (fun _ _ h => h) (⟨bCe (dF (fun hp => by
                have hq := hp.2.1 i hi
                rw [hB] at hq
                obtain ⟨⟨a1, a2⟩, b, c1, ⟨d1, d2⟩, e⟩ := hq
                first | omega | (have := b (by omega); omega) | exact of_decide_eq_false g23 ⟨⟨a1, by omega⟩, e (by omega)⟩ | (have := nd_t g39; omega))), rfl⟩)
            ·
              refine LexK.on (q_fieldL _ rfl Fx.fl106_1 rfl rfl) rfl rfl rfl rfl rfl ?_
              refine LexK.rOn (b_load (r := .a _) rfl Fx.ty2 rfl rfl rfl rfl rfl rfl) rfl rfl rfl ?_
              refine LexK.on (q_eql rfl rfl rfl) rfl rfl rfl rfl rfl ?_
              refine LexK.q (q_pkF rfl rfl rfl) rfl rfl rfl ?_
              refine LexK.qD (q_mvC rfl rfl) rfl rfl rfl (fun g60 => ?_) (fun g60 => ?_)
              ·
                refine LexK.off rfl rfl rfl rfl rfl rfl ?_
                refine LexK.off rfl rfl rfl rfl rfl rfl ?_
                refine LexK.off rfl rfl rfl rfl rfl rfl ?_
                refine LexK.off rfl rfl rfl rfl rfl rfl ?_
                refine LexK.q (q_pkT rfl rfl rfl) rfl rfl rfl ?_
                refine LexK.nil (by kernel_rfl) ?_
                refine AW.condT rfl ?_
                refine AW.seq ?_
                refine AW.reg ?_
                refine SeqK.q (q_asC rfl rfl) rfl rfl rfl ?_
                refine SeqK.nil ?_
                refine AW.ret ?_
                exact fin_x (x := .c _) (H) (.tmp rfl .nil) rfl (fun _ _ h => h) (⟨bCe (dF (fun hp => by
                  have hq := hp.2.1 i hi
                  rw [hB] at hq
                  obtain ⟨⟨a1, a2⟩, b, c1, ⟨d1, d2⟩, e⟩ := hq
                  first | omega | (have := b (by omega); omega) | exact of_decide_eq_false g23 ⟨⟨a1, by omega⟩, e (by omega)⟩ | (have := nd_t g39; omega))), rfl⟩)
              ·
                refine LexK.on (q_fieldL _ rfl Fx.fl106_1 rfl rfl) rfl rfl rfl rfl rfl ?_
                refine LexK.rOn (b_load (r := .a _) rfl Fx.ty2 rfl rfl rfl rfl rfl rfl) rfl rfl rfl ?_
                refine LexK.on (q_call _ rfl Fx.fn58 rfl (dabs_any _ (by first | assumption | exact hfR.2 _ (List.getElem_mem hi))) rfl) rfl rfl rfl rfl rfl ?_
                refine LexK.on (q_gtr rfl rfl rfl) rfl rfl rfl rfl rfl ?_
                refine LexK.q (q_pkF rfl rfl rfl) rfl rfl rfl ?_
                refine LexK.nil (by kernel_rfl) ?_
                refine AW.condD rfl (fun h65 => ?_) (fun h65 => ?_)
                ·
                  have h65x : ((f.cs[i].n.natAbs : Nat) : Int) > 1048576 := h65
                  refine AW.seq ?_
                  refine AW.reg ?_
                  refine SeqK.q (q_asC rfl rfl) rfl rfl rfl ?_
                  refine SeqK.nil ?_
                  refine AW.ret ?_
                  exact fin_x (x := .c _) (H) (.tmp rfl .nil) rfl (fun _ _ h => h) (⟨bCe (dF (fun hp => by
                    have hq := hp.2.1 i hi
                    rw [hB] at hq
                    obtain ⟨⟨a1, a2⟩, b, c1, ⟨d1, d2⟩, e⟩ := hq
                    first | omega | (have := b (by omega); omega) | exact of_decide_eq_false g23 ⟨⟨a1, by omega⟩, e (by omega)⟩ | (have := nd_t g39; omega))), rfl⟩)
                ·
                  have h65x : ¬ ((f.cs[i].n.natAbs : Nat) : Int) > 1048576 := h65
                  refine AW.skip ?_
                  refine AW.reg ?_
                  refine SeqK.q (q_add _ rfl rfl rfl (w64 (by omega) (by omega))) rfl rfl rfl ?_
                  refine SeqK.q (q_mvC rfl rfl) rfl rfl rfl ?_
                  refine SeqK.nil ?_
                  exact ⟨i + 1, _, Wk.keep 79 [(1, .c (iC (m : Int))), (2, .c (.a (.bp kf 0))), (3, .c (.a (.bp kn 0))), (4, .c (.a (.bp kc 0))), (5, .lp 5 0), (7, .c (bC false)), (12, .c (cfsC .un f.cs)), (13, iX .i64 (((f.cs.map cfT).length : Nat) : Int)), (14, iX .i64 (((i + 1) : Nat) : Int))] [(5, .box [.t (.v (.int .i64 f.c)), .t (.sl .un 2 (f.cs.map cfT))])] (H) rfl ⟨rfl, rfl, rfl, rfl, rfl, rfl, rfl, rfl, rfl, trivial⟩ ⟨rfl, trivial⟩ (fun _ _ h => h) rfl, by omega, ⟨hi, upS (Q := fun j h => cfQ f c.nn l m j h) hi hU (by
                    refine ⟨⟨?_, ?_⟩, fun h0 => ?_, ?_, ⟨?_, ?_⟩, fun hll => ?_⟩ <;> first | omega | exact ⟨hA3, hA4⟩ | (have := nd_f g39; omega))⟩, rfl⟩
          ·
            refine LexK.off rfl rfl rfl rfl rfl rfl ?_
            refine LexK.off rfl rfl rfl rfl rfl rfl ?_
            refine LexK.off rfl rfl rfl rfl rfl rfl ?_
            refine LexK.off rfl rfl rfl rfl rfl rfl ?_
            refine LexK.off rfl rfl rfl rfl rfl rfl ?_
            refine LexK.off rfl rfl rfl rfl rfl rfl ?_
            refine LexK.off rfl rfl rfl rfl rfl rfl ?_
            refine LexK.off rfl rfl rfl rfl rfl rfl ?_
            refine LexK.off rfl rfl rfl rfl rfl rfl ?_
            refine LexK.off rfl rfl rfl rfl rfl rfl ?_
            refine LexK.on (q_pkF rfl rfl rfl) rfl rfl rfl rfl rfl ?_
            refine LexK.q (q_pkF rfl rfl rfl) rfl rfl rfl ?_
            refine LexK.q (q_mvC rfl rfl) rfl rfl rfl ?_
            refine LexK.on (q_fieldL _ rfl Fx.fl106_1 rfl rfl) rfl rfl rfl rfl rfl ?_
            refine LexK.rOn (b_load (r := .a _) rfl Fx.ty2 rfl rfl rfl rfl rfl rfl) rfl rfl rfl ?_
            refine LexK.on (q_eql rfl rfl rfl) rfl rfl rfl rfl rfl ?_
            refine LexK.q (q_pkF rfl rfl rfl) rfl rfl rfl ?_
            refine LexK.qD (q_mvC rfl rfl) rfl rfl rfl (fun g60 => ?_) (fun g60 => ?_)
            ·
              refine LexK.off rfl rfl rfl rfl rfl rfl ?_
              refine LexK.off rfl rfl rfl rfl rfl rfl ?_
              refine LexK.off rfl rfl rfl rfl rfl rfl ?_
              refine LexK.off rfl rfl rfl rfl rfl rfl ?_
              refine LexK.q (q_pkT rfl rfl rfl) rfl rfl rfl ?_
              refine LexK.nil (by kernel_rfl) ?_
              refine AW.condT rfl ?_
              refine AW.seq ?_
              refine AW.reg ?_
              refine SeqK.q (q_asC rfl rfl) rfl rfl rfl ?_
              refine SeqK.nil ?_
              refine AW.ret ?_
              exact fin_x (x := .c _) (H) (.tmp rfl .nil) rfl (fun _ _ h => h) (⟨bCe (dF (fun hp => by
                have hq := hp.2.1 i hi
                rw [hB] at hq
                obtain ⟨⟨a1, a2⟩, b, c1, ⟨d1, d2⟩, e⟩ := hq
                first | omega | (have := b (by omega); omega) | exact of_decide_eq_false g23 ⟨⟨a1, by omega⟩, e (by omega)⟩ | (have := nd_t g39; omega))), rfl⟩)
            ·
              refine LexK.on (q_fieldL _ rfl Fx.fl106_1 rfl rfl) rfl rfl rfl rfl rfl ?_
              refine LexK.rOn (b_load (r := .a _) rfl Fx.ty2 rfl rfl rfl rfl rfl rfl) rfl rfl rfl ?_
              refine LexK.on (q_call _ rfl Fx.fn58 rfl (dabs_any _ (by first | assumption | exact hfR.2 _ (List.getElem_mem hi))) rfl) rfl rfl rfl rfl rfl ?_
              refine LexK.on (q_gtr rfl rfl rfl) rfl rfl rfl rfl rfl ?_
              refine LexK.q (q_pkF rfl rfl rfl) rfl rfl rfl ?_
              refine LexK.nil (by kernel_rfl) ?_
              refine AW.condD rfl (fun h65 => ?_) (fun h65 => ?_)
              ·
                have h65x : ((f.cs[i].n.natAbs : Nat) : Int) > 1048576 := h65
                refine AW.seq ?_
                refine AW.reg ?_
                refine SeqK.q (q_asC rfl rfl) rfl rfl rfl ?_
                refine SeqK.nil ?_
                refine AW.ret ?_
                exact fin_x (x := .c _) (H) (.tmp rfl .nil) rfl (fun _ _ h => h) (⟨bCe (dF (fun hp => by
                  have hq := hp.2.1 i hi
                  rw [hB] at hq
                  obtain ⟨⟨a1, a2⟩, b, c1, ⟨d1, d2⟩, e⟩ := hq
                  first | omega | (have := b (by omega); omega) | exact of_decide_eq_false g23 ⟨⟨a1, by omega⟩, e (by omega)⟩ | (have := nd_t g39; omega))), rfl⟩)
              ·
                have h65x : ¬ ((f.cs[i].n.natAbs : Nat) : Int) > 1048576 := h65
                refine AW.skip ?_
                refine AW.reg ?_
                refine SeqK.q (q_add _ rfl rfl rfl (w64 (by omega) (by omega))) rfl rfl rfl ?_
                refine SeqK.q (q_mvC rfl rfl) rfl rfl rfl ?_
                refine SeqK.nil ?_
                exact ⟨i + 1, _, Wk.keep 79 [(1, .c (iC (m : Int))), (2, .c (.a (.bp kf 0))), (3, .c (.a (.bp kn 0))), (4, .c (.a (.bp kc 0))), (5, .lp 5 0), (7, .c (bC false)), (12, .c (cfsC .un f.cs)), (13, iX .i64 (((f.cs.map cfT).length : Nat) : Int)), (14, iX .i64 (((i + 1) : Nat) : Int))] [(5, .box [.t (.v (.int .i64 f.c)), .t (.sl .un 2 (f.cs.map cfT))])] (H) rfl ⟨rfl, rfl, rfl, rfl, rfl, rfl, rfl, rfl, rfl, trivial⟩ ⟨rfl, trivial⟩ (fun _ _ h => h) rfl, by omega, ⟨hi, upS (Q := fun j h => cfQ f c.nn l m j h) hi hU (by
                  refine ⟨⟨?_, ?_⟩, fun h0 => ?_, ?_, ⟨?_, ?_⟩, fun hll => ?_⟩ <;> first | omega | exact ⟨hA3, hA4⟩ | (have := nd_f g39; omega))⟩, rfl⟩
      ·
        refine SeqK.off rfl rfl rfl rfl rfl rfl ?_
        refine SeqK.off rfl rfl rfl rfl rfl rfl ?_
        refine SeqK.off rfl rfl rfl rfl rfl rfl ?_
        refine SeqK.off rfl rfl rfl rfl rfl rfl ?_
        refine SeqK.off rfl rfl rfl rfl rfl rfl ?_
        refine SeqK.off rfl rfl rfl rfl rfl rfl ?_
        refine SeqK.on (q_pkF rfl rfl rfl) rfl rfl rfl rfl rfl ?_
        refine SeqK.q (q_pkF rfl rfl rfl) rfl rfl rfl ?_
        refine SeqK.q (q_asC rfl rfl) rfl rfl rfl ?_
        refine SeqK.nil ?_
        refine AW.seq ?_
        refine AW.draw Fx.mo ?_
        refine LexK.q (q_mvC rfl rfl) rfl rfl rfl ?_
        refine LexK.q (q_not rfl rfl) rfl rfl rfl ?_
        refine LexK.q (q_mvC rfl rfl) rfl rfl rfl ?_
        refine LexK.off rfl rfl rfl rfl rfl rfl ?_
        refine LexK.off rfl rfl rfl rfl rfl rfl ?_
        refine LexK.off rfl rfl rfl rfl rfl rfl ?_
        refine LexK.offU rfl rfl rfl rfl rfl ?_
        refine LexK.offU rfl rfl rfl rfl rfl ?_
        refine LexK.offU rfl rfl rfl rfl rfl ?_
        refine LexK.offU rfl rfl rfl rfl rfl ?_
        refine LexK.offU rfl rfl rfl rfl rfl ?_
        refine LexK.offU rfl rfl rfl rfl rfl ?_
        refine LexK.offU rfl rfl rfl rfl rfl ?_
        refine LexK.offU rfl rfl rfl rfl rfl ?_
        refine LexK.offU rfl rfl rfl rfl rfl ?_
        refine LexK.offU rfl rfl rfl rfl rfl ?_
        refine LexK.off rfl rfl rfl rfl rfl rfl ?_
        refine LexK.q (q_pkT rfl rfl rfl) rfl rfl rfl ?_
        refine LexK.q (q_mvC rfl rfl) rfl rfl rfl ?_
        refine LexK.off rfl rfl rfl rfl rfl rfl ?_
        refine LexK.off rfl rfl rfl rfl rfl rfl ?_
        refine LexK.off rfl rfl rfl rfl rfl rfl ?_
        refine LexK.q (q_pkT rfl rfl rfl) rfl rfl rfl ?_
        refine LexK.q (q_mvC rfl rfl) rfl rfl rfl ?_
        refine LexK.off rfl rfl rfl rfl rfl rfl ?_
        refine LexK.off rfl rfl rfl rfl rfl rfl ?_
        refine LexK.off rfl rfl rfl rfl rfl rfl ?_
        refine LexK.off rfl rfl rfl rfl rfl rfl ?_
        refine LexK.q (q_pkT rfl rfl rfl) rfl rfl rfl ?_
        refine LexK.nil (by kernel_rfl) ?_
        refine AW.condT rfl ?_
        refine AW.seq ?_
        refine AW.reg ?_
        refine SeqK.q (q_asC rfl rfl) rfl rfl rfl ?_
        refine SeqK.nil ?_
        refine AW.ret ?_
        exact fin_x (x := .c _) (H) (.tmp rfl .nil) rfl (fun _ _ h => h) (⟨bCe (dF (fun hp => by
          have hq := hp.2.1 i hi
          rw [hB] at hq
          obtain ⟨⟨a1, a2⟩, b, c1, ⟨d1, d2⟩, e⟩ := hq
          first | omega | (have := b (by omega); omega) | exact of_decide_eq_false g23 ⟨⟨a1, by omega⟩, e (by omega)⟩ | (have := nd_t g39; omega))), rfl⟩)
  ·
    refine AW.exit ?_
    refine eth_e ?_
    refine eth_e ?_
    refine exit_here ?_
    refine AW.seq ?_
    have hV := upE hU (by rw [List.length_map] at h15; omega)
    refine AW.reg ?_
    refine SeqK.q (q_fieldL _ rfl Fx.fl74_0 rfl rfl) rfl rfl rfl ?_
    refine SeqK.r (b_load (r := .a _) rfl Fx.ty2 rfl rfl rfl rfl rfl rfl) rfl ?_
    refine SeqK.q (q_call _ rfl Fx.fn58 rfl (dabs_any _ (by first | assumption | exact hfR.2 _ (List.getElem_mem hi))) rfl) rfl rfl rfl ?_
    refine SeqK.q (q_leq rfl rfl rfl) rfl rfl rfl ?_
    refine SeqK.qD (q_mvC rfl rfl) rfl rfl rfl (fun g71 => ?_) (fun g71 => ?_)
    ·
      have g71x : ((f.c.natAbs : Nat) : Int) ≤ 1099511627777 := g71
      have hsm : smF f l.length m := ⟨fun k hk => by
        obtain ⟨j, hj, rfl⟩ := List.mem_iff_getElem.1 hk
        exact (hV j hj).1, fun k hk => by
        obtain ⟨j, hj, rfl⟩ := List.mem_iff_getElem.1 hk
        exact (hV j hj).2.2.2.1, by omega, hfl⟩
      have hmn := mn_c (fsum l.length (bsF l.length (c.ax.take m)) f)
      refine SeqK.rOn (b_load (r := .g [_, _]) rfl Fx.ty74 rfl rfl rfl rfl rfl rfl) rfl rfl rfl ?_
      refine SeqK.rOn (g_load (r := .a _) rfl Fx.ty3 rfl (by (repeat rw [upd_ne _ _ (by first | assumption | exact Ne.symm (by assumption))]); first | assumption | exact upd_same _ _ _) rfl rfl rfl rfl) rfl rfl rfl ?_
      refine SeqK.on (q_fieldH _ rfl Fx.fl28_2 rfl rfl) rfl rfl rfl rfl rfl ?_
      refine SeqK.rOn (g_load (r := .a _) rfl Fx.ty23 rfl (by (repeat rw [upd_ne _ _ (by first | assumption | exact Ne.symm (by assumption))]); first | assumption | exact upd_same _ _ _) rfl rfl rfl rfl) rfl rfl rfl ?_
      refine SeqK.on (q_call _ rfl Fx.fn59 rfl (bound_any m f l.length c.ax .un hsm hm hl hal hax) rfl) rfl rfl rfl rfl rfl ?_
      refine SeqK.on (q_leq rfl rfl rfl) rfl rfl rfl rfl rfl ?_
      refine SeqK.q (q_pkT rfl rfl rfl) rfl rfl rfl ?_
      refine SeqK.q (q_asC rfl rfl) rfl rfl rfl ?_
      refine SeqK.nil ?_
      refine AW.ret ?_
      exact fin_x (x := .c _) (H) (.tmp rfl .nil) rfl (fun _ _ h => h) (⟨bCe (by first | exact dF (fun hp => by have := hp.1; omega) | exact dI ⟨fun h => ⟨by omega, fun j hj => by rw [hB]; exact hV j hj, by omega⟩, fun hp => by have := hp.2.2; omega⟩), rfl⟩)
    ·
      have g71x : ¬ ((f.c.natAbs : Nat) : Int) ≤ 1099511627777 := g71
      refine SeqK.off rfl rfl rfl rfl rfl rfl ?_
      refine SeqK.off rfl rfl rfl rfl rfl rfl ?_
      refine SeqK.off rfl rfl rfl rfl rfl rfl ?_
      refine SeqK.off rfl rfl rfl rfl rfl rfl ?_
      refine SeqK.off rfl rfl rfl rfl rfl rfl ?_
      refine SeqK.off rfl rfl rfl rfl rfl rfl ?_
      refine SeqK.q (q_pkF rfl rfl rfl) rfl rfl rfl ?_
      refine SeqK.q (q_asC rfl rfl) rfl rfl rfl ?_
      refine SeqK.nil ?_
      refine AW.ret ?_
      exact fin_x (x := .c _) (H) (.tmp rfl .nil) rfl (fun _ _ h => h) (⟨bCe (by first | exact dF (fun hp => by have := hp.1; omega) | exact dI ⟨fun h => ⟨by omega, fun j hj => by rw [hB]; exact hV j hj, by omega⟩, fun hp => by have := hp.2.2; omega⟩), rfl⟩)

end Go.Proofs.Ytnmfjojhgfipcaa.W
namespace Go.Proofs.Ytnmfjojhgfipcaa.W
open Go.RowKit E
set_option linter.unusedVariables false
set_option linter.unusedSimpArgs false
set_option linter.unusedSectionVars false
theorem prP_app {a b : List (Int × Int)} {nn : List Int} {l : List Vr} : prP (a ++ b) nn l ↔ prP a nn l ∧ prP b nn l := by
  constructor
  · intro h
    refine ⟨fun j hj => ?_, fun j hj => ?_⟩
    · have := h j (by rw [List.length_append]; omega)
      unfold prQ at this ⊢
      rwa [List.getElem_append_left hj] at this
    · have := h (a.length + j) (by rw [List.length_append]; omega)
      unfold prQ at this ⊢
      rw [List.getElem_append_right (by omega)] at this
      simpa using this
  · rintro ⟨h1, h2⟩ j hj
    unfold prQ
    by_cases e : j < a.length
    · rw [List.getElem_append_left e]; exact h1 j e
    · rw [List.getElem_append_right (by omega)]
      exact h2 _ (by rw [List.length_append] at hj; omega)
structure rgV (c : Cl) : Prop where
  ax : ∀ a ∈ c.ax, R64 a.f.c ∧ ∀ k ∈ a.f.cs, R64 k.n
  is : ∀ a ∈ c.is, R64 a.f.c ∧ ∀ k ∈ a.f.cs, R64 k.n
theorem okX_of {c : Cl} {l : List Vr} {j : Nat} (hc : rgC c) (h : j < c.ax.length) (hx : axQ c l (bsF l.length (c.ax.take j)) c.ax[j]) : okX l.length c.ax j h := by
  have hB : (bsF l.length (c.ax.take j)).length = j := by rw [bsF_len, List.length_take]; omega
  rcases hx with ⟨k, _⟩ | ⟨_, k, k2, _⟩
  · exact .inl k
  · refine .inr ⟨k2, ⟨fun q hq => ?_, fun q hq => ?_, k.1, hc.axf _ (List.getElem_mem h)⟩, k.2.2⟩
    · obtain ⟨i, hi, rfl⟩ := List.mem_iff_getElem.1 hq
      have := (k.2.1 i hi).1; rwa [hB] at this
    · obtain ⟨i, hi, rfl⟩ := List.mem_iff_getElem.1 hq
      exact (k.2.1 i hi).2.2.2.1
abbrev HV5 (H : Heap) (k2 k3 k5 : Nat) (c : Cl) (l : List Vr) (z : Nz) : Heap := upd (upd (upd H k2 (some (.box (clA c)))) k3 (some (.box [.t (.sl z 5 (l.map vrT))]))) k5 (some (.box [.t (.v (.int .i64 ((l.length : Nat) : Int)))]))
abbrev fn55 (k2 k3 k5 : Nat) : A := .fn 55 [.bp k5 0, .bp k3 0, .bp k2 0]
abbrev HV (H : Heap) (k2 k3 k5 k6 : Nat) (c : Cl) (l : List Vr) (z : Nz) : Heap := upd (HV5 H k2 k3 k5 c l z) k6 (some (.box [fn55 k2 k3 k5]))
structure VX (H : Heap) (k2 k3 k5 k6 : Nat) : Prop where
  h2 : H k2 = none
  h3 : H k3 = none
  h5 : H k5 = none
  h6 : H k6 = none
  n23 : k2 ≠ k3
  n25 : k2 ≠ k5
  n26 : k2 ≠ k6
  n35 : k3 ≠ k5
  n36 : k3 ≠ k6
  n56 : k5 ≠ k6
section
variable {H : Heap} {k2 k3 k5 k6 : Nat} {c : Cl} {l : List Vr} {z : Nz}
theorem VX.g2 (n : VX H k2 k3 k5 k6) : HV H k2 k3 k5 k6 c l z k2 = some (.box (clA c)) := by rw [HV, upd_ne _ _ n.n26, HV5, upd_ne _ _ n.n25, upd_ne _ _ n.n23, upd_same]
theorem VX.g3 (n : VX H k2 k3 k5 k6) : HV H k2 k3 k5 k6 c l z k3 = some (.box [.t (.sl z 5 (l.map vrT))]) := by rw [HV, upd_ne _ _ n.n36, HV5, upd_ne _ _ n.n35, upd_same]
theorem VX.g5 (n : VX H k2 k3 k5 k6) : HV H k2 k3 k5 k6 c l z k5 = some (.box [.t (.v (.int .i64 ((l.length : Nat) : Int)))]) := by rw [HV, upd_ne _ _ n.n56, HV5, upd_same]
theorem VX.g6 (n : VX H k2 k3 k5 k6) : HV H k2 k3 k5 k6 c l z k6 = some (.box [fn55 k2 k3 k5]) := by rw [HV, upd_same]
theorem VX.up (n : VX H k2 k3 k5 k6) : ∀ j o, H j = some o → HV H k2 k3 k5 k6 c l z j = some o := fun j o h => by
  rw [HV, upd_ne _ _ (fun e => by rw [e, n.h6] at h; cases h), HV5, upd_ne _ _ (fun e => by rw [e, n.h5] at h; cases h), upd_ne _ _ (fun e => by rw [e, n.h3] at h; cases h), upd_ne _ _ (fun e => by rw [e, n.h2] at h; cases h)]; exact h
theorem form3_any {H : Heap} (kn kd kc : Nat) (c : Cl) (l : List Vr) (z : Nz) (h1 : H kn = some (.box [.t (.v (.int .i64 ((l.length : Nat) : Int)))])) (h2 : H kd = some (.box [.t (.sl z 5 (l.map vrT))])) (h3 : H kc = some (.box (clA c))) (hn : c.nn.length ≤ 17592186044000) (hl : l.length ≤ 17592186044000) (kf : Nat) (h4 : H kf = some (.box [.fn 55 [.bp kn 0, .bp kd 0, .bp kc 0]])) (f : Lf) (hal : c.ax.length ≤ 17592186044000) (hfl : f.cs.length ≤ 17592186044000) (hfR : R64 f.c ∧ ∀ k ∈ f.cs, R64 k.n) (hax : ∀ j (h : j < c.ax.length), j < c.ax.length → okX l.length c.ax j h) :
    E.Spec Try.prog 57 [lfC f, iC (((c.ax.map axT).length : Nat) : Int), .a (.bp kf 0), .a (.bp kn 0), .a (.bp kc 0)] H fun x H' => x = .c (bC (decide (formP f c.nn l (bsF l.length c.ax)))) ∧ H' = H := by
  have := form2_any H kn kd kc c l z h1 h2 h3 hn hl kf h4 f c.ax.length (Nat.le_refl _) hal hfl hfR hax
  rw [List.take_length] at this
  rw [List.length_map]; exact this
end

end Go.Proofs.Ytnmfjojhgfipcaa.W
namespace Go.Proofs.Ytnmfjojhgfipcaa.W
open Go.RowKit E
set_option linter.unusedVariables false
set_option linter.unusedSimpArgs false
set_option linter.unusedSectionVars false

set_option maxHeartbeats 16000000 in
set_option maxRecDepth 20000 in
theorem dvalid_any (c : Cl) (l : List Vr) (z : Nz) (hc : rgC c) (hg : rgV c) (hl : l.length ≤ 17592186044000) (hcat : Pure Try.prog 47 [.a (.t (.sl .nn 1 [[.sl .un 2 (c.sm.map prT)], [.sl .un 2 (c.df.map prT)]]))] (.c (prsC .un (c.sm ++ c.df)))) (hsd : (c.sm ++ c.df).length ≤ 100000000000000) : Pure Try.prog 23 [clC c, vsC z l] (.c (bC (decide (vldP c l)))) := by
  intro H
  refine Spec.enter Try.func23 rfl ?_
  refine AW.wk (Wk.keep 159 [(0, .c (clC c)), (1, .c (vsC z l))] [] (H) rfl ⟨rfl, rfl, trivial⟩ trivial (fun _ _ h => h) rfl) ?_
  refine AW.seq ?_
  refine AW.reg ?_
  refine SeqK.newBox (r := [_, _, _, _, _, _, _]) rfl rfl rfl rfl rfl rfl (fun k2 hk2 => ?_)
  refine SeqK.newBox (r := [_]) rfl rfl rfl rfl rfl rfl (fun k3 hk3 => ?_)
  refine SeqK.q (q_asC rfl rfl) rfl rfl rfl ?_
  refine SeqK.nil ?_
  refine AW.seq ?_
  have q3 := hc.ax
  have q4 := hc.is
  have q5 := hc.ts
  refine AW.reg ?_
  refine SeqK.r (g_load (r := .a _) rfl Fx.ty29 rfl (by (repeat rw [upd_ne _ _ (by first | assumption | exact Ne.symm (by assumption))]); first | assumption | exact upd_same _ _ _) rfl rfl rfl rfl) rfl ?_
  refine SeqK.q (q_len rfl Fx.un29 rfl) rfl rfl rfl ?_
  refine SeqK.newAlloc (r := [_]) rfl rfl rfl Fx.ze3 rfl rfl rfl (fun k5 hk5 => ?_)
  refine SeqK.r (g_store rfl rfl Fx.ty3 rfl rfl (by (repeat rw [upd_ne _ _ (by first | assumption | exact Ne.symm (by assumption))]); first | assumption | exact upd_same _ _ _) rfl rfl rfl) rfl ?_
  refine SeqK.nil ?_
  refine AW.seq ?_
  refine AW.seq ?_
  obtain ⟨n32, hk30⟩ := upd_lt hk3
  obtain ⟨n53, hk50⟩ := upd_lt hk5
  obtain ⟨n52, hk50⟩ := upd_lt hk50
  refine AW.wk (Wk.keep 159 [(2, .c (.a (.bp k2 0))), (3, .c (.a (.bp k3 0))), (4, .c (bC false)), (5, .c (.a (.bp k5 0)))] [] (HV5 H k2 k3 k5 c l z) rfl ⟨rfl, rfl, rfl, rfl, trivial⟩ trivial (fun i o h => by show upd (upd _ k5 _) k5 _ i = _; rw [upd_upd, List.length_map]; exact h) rfl) ?_
  refine AW.reg ?_
  refine SeqK.q (q_fieldH _ rfl Fx.fl28_0 rfl rfl) rfl rfl rfl ?_
  refine SeqK.r (g_load (r := .a _) rfl Fx.ty22 rfl ((upd_ne _ _ (fun e => n52 e.symm)).trans ((upd_ne _ _ (fun e => n32 e.symm)).trans (upd_same _ _ _))) rfl rfl rfl rfl) rfl ?_
  refine SeqK.r (g_load (r := .a _) rfl Fx.ty3 rfl (upd_same _ _ _) rfl rfl rfl rfl) rfl ?_
  refine SeqK.q (q_call _ rfl Fx.fn54 rfl (dasc_any _ _ _ (by first | exact hc.nl | exact hc.nn)) rfl) rfl rfl rfl ?_
  refine SeqK.q (q_not rfl rfl) rfl rfl rfl ?_
  refine SeqK.qB (q_mvC rfl rfl) rfl rfl rfl (fun g23 => ?_) (fun g23 => ?_)
  ·
    refine SeqK.off rfl rfl rfl rfl rfl rfl ?_
    refine SeqK.off rfl rfl rfl rfl rfl rfl ?_
    refine SeqK.off rfl rfl rfl rfl rfl rfl ?_
    refine SeqK.off rfl rfl rfl rfl rfl rfl ?_
    refine SeqK.off rfl rfl rfl rfl rfl rfl ?_
    refine SeqK.q (q_pkT rfl rfl rfl) rfl rfl rfl ?_
    refine SeqK.nil ?_
    refine AW.condT rfl ?_
    refine AW.seq ?_
    refine AW.reg ?_
    refine SeqK.q (q_asC rfl rfl) rfl rfl rfl ?_
    refine SeqK.nil ?_
    refine AW.ret ?_
    exact fin_x (x := .c _) (H) (.tmp rfl .nil) rfl (fun j o h => by
      show HV5 H k2 k3 k5 c l z j = _
      rw [HV5, upd_ne _ _ (fun e => by rw [e, hk50] at h; cases h), upd_ne _ _ (fun e => by rw [e, hk30] at h; cases h), upd_ne _ _ (fun e => by rw [e, hk2] at h; cases h)]; exact h) (⟨bCe (dF (fun hv => by first | exact nd_t g23 hv.1 | exact nd_t h29 hv.2.1 | simp_all)), rfl⟩)
  ·
    refine SeqK.on (q_fieldH _ rfl Fx.fl28_1 rfl rfl) rfl rfl rfl rfl rfl ?_
    refine SeqK.rOn (g_load (r := .a _) rfl Fx.ty22 rfl ((upd_ne _ _ (fun e => n52 e.symm)).trans ((upd_ne _ _ (fun e => n32 e.symm)).trans (upd_same _ _ _))) rfl rfl rfl rfl) rfl rfl rfl ?_
    refine SeqK.rOn (g_load (r := .a _) rfl Fx.ty3 rfl (upd_same _ _ _) rfl rfl rfl rfl) rfl rfl rfl ?_
    refine SeqK.on (q_call _ rfl Fx.fn54 rfl (dasc_any _ _ _ (by first | exact hc.nl | exact hc.nn)) rfl) rfl rfl rfl rfl rfl ?_
    refine SeqK.on (q_not rfl rfl) rfl rfl rfl rfl rfl ?_
    refine SeqK.q (q_pkF rfl rfl rfl) rfl rfl rfl ?_
    refine SeqK.nil ?_
    refine AW.cond _ rfl (fun h29 => ?_) (fun h29 => ?_)
    ·
      refine AW.seq ?_
      refine AW.reg ?_
      refine SeqK.q (q_asC rfl rfl) rfl rfl rfl ?_
      refine SeqK.nil ?_
      refine AW.ret ?_
      exact fin_x (x := .c _) (H) (.tmp rfl .nil) rfl (fun j o h => by
        show HV5 H k2 k3 k5 c l z j = _
        rw [HV5, upd_ne _ _ (fun e => by rw [e, hk50] at h; cases h), upd_ne _ _ (fun e => by rw [e, hk30] at h; cases h), upd_ne _ _ (fun e => by rw [e, hk2] at h; cases h)]; exact h) (⟨bCe (dF (fun hv => by first | exact nd_t g23 hv.1 | exact nd_t h29 hv.2.1 | simp_all)), rfl⟩)
    ·
      refine AW.skip ?_
      refine AW.seq ?_
      have hA : ascP c.nl (l.length : Int) := by simpa using g23
      have hB : ascP c.nn (l.length : Int) := by simpa using h29
      refine AW.reg ?_
      refine SeqK.q (q_mkFn rfl rfl rfl) rfl rfl rfl ?_
      refine SeqK.newAlloc (r := [_]) rfl rfl rfl Fx.ze104 rfl rfl rfl (fun k6 hk6 => ?_)
      refine SeqK.r (g_store rfl rfl Fx.ty104 rfl rfl (by (repeat rw [upd_ne _ _ (by first | assumption | exact Ne.symm (by assumption))]); first | assumption | exact upd_same _ _ _) rfl rfl rfl) rfl ?_
      refine SeqK.nil ?_
      refine AW.seq ?_
      obtain ⟨n65, hk60⟩ := upd_lt hk6
      obtain ⟨n63, hk60⟩ := upd_lt hk60
      obtain ⟨n62, hk60⟩ := upd_lt hk60
      have V : VX H k2 k3 k5 k6 := ⟨hk2, hk30, hk50, hk60, fun e => n32 e.symm, fun e => n52 e.symm, fun e => n62 e.symm, fun e => n53 e.symm, fun e => n63 e.symm, fun e => n65 e.symm⟩
      refine AW.wk (Wk.keep 159 [(2, .c (.a (.bp k2 0))), (3, .c (.a (.bp k3 0))), (4, .c (bC false)), (5, .c (.a (.bp k5 0))), (6, .c (.a (.bp k6 0)))] [] (HV H k2 k3 k5 k6 c l z) rfl ⟨rfl, rfl, rfl, rfl, rfl, trivial⟩ trivial (fun i o h => by show upd (upd _ k6 _) k6 _ i = _; rw [upd_upd]; exact h) rfl) ?_
      refine AW.reg ?_
      refine SeqK.q (q_mkFn rfl rfl rfl) rfl rfl rfl ?_
      refine SeqK.q (q_asC rfl rfl) rfl rfl rfl ?_
      refine SeqK.nil ?_
      refine AW.seq ?_
      refine AW.seq ?_
      refine AW.reg ?_
      refine SeqK.q (q_fieldH _ rfl Fx.fl28_2 rfl rfl) rfl rfl rfl ?_
      refine SeqK.r (g_load (r := .a _) rfl Fx.ty23 rfl (V.g2) rfl rfl rfl rfl) rfl ?_
      refine SeqK.q (q_len rfl Fx.un23 rfl) rfl rfl rfl ?_
      refine SeqK.q (q_mvC rfl rfl) rfl rfl rfl ?_
      refine SeqK.nil ?_
      refine AW.block ?_
      refine AW.loop (fun (i : Nat) s => (i ≤ c.ax.length ∧ ∀ j (h : j < c.ax.length), j < i → axQ c l (bsF l.length (c.ax.take j)) c.ax[j]) ∧ s = ⟨159, sp [(2, .c (.a (.bp k2 0))), (3, .c (.a (.bp k3 0))), (4, .c (bC false)), (5, .c (.a (.bp k5 0))), (6, .c (.a (.bp k6 0))), (7, .c (.a (.fn 57 [.bp k6 0, .bp k5 0, .bp k2 0]))), (33, .c (.a (.t (.sl .un 4 (c.ax.map axT))))), (34, iX .i64 (((c.ax.map axT).length : Nat) : Int)), (35, iX .i64 ((i : Nat) : Int))], lv [], HV H k2 k3 k5 k6 c l z⟩) (fun i => c.ax.length - i) 0 ⟨_, Wk.keep 159 [(2, .c (.a (.bp k2 0))), (3, .c (.a (.bp k3 0))), (4, .c (bC false)), (5, .c (.a (.bp k5 0))), (6, .c (.a (.bp k6 0))), (7, .c (.a (.fn 57 [.bp k6 0, .bp k5 0, .bp k2 0]))), (33, .c (.a (.t (.sl .un 4 (c.ax.map axT))))), (34, iX .i64 (((c.ax.map axT).length : Nat) : Int)), (35, iX .i64 ((((0 : Nat)) : Nat) : Int))] [] (HV H k2 k3 k5 k6 c l z) rfl ⟨rfl, rfl, rfl, rfl, rfl, rfl, rfl, rfl, rfl, trivial⟩ trivial (fun _ _ h => h) rfl, ⟨Nat.zero_le _, up0⟩, rfl⟩ (fun i s hs => ?_)
      obtain ⟨⟨hi0, hU⟩, rfl⟩ := hs
      refine AW.seq ?_
      refine AW.reg ?_
      refine SeqK.q (q_lss rfl rfl rfl) rfl rfl rfl ?_
      refine SeqK.nil ?_
      refine AW.seq ?_
      refine AW.condD rfl (fun h36 => ?_) (fun h36 => ?_)
      ·
        have hi : i < c.ax.length := by rw [List.length_map] at h36; omega
        have hxx : ∀ j (h : j < c.ax.length), j < i → okX l.length c.ax j h := fun j h hj => okX_of hc h (hU j h hj)
        refine AW.skip ?_
        refine AW.seq ?_
        refine AW.block ?_
        refine AW.seq ?_
        refine AW.reg ?_
        refine SeqK.q (q_mvC rfl rfl) rfl rfl rfl ?_
        refine SeqK.q (q_index _ rfl Fx.sl23 rfl rfl (by omega) (idx_map (f := axT) hi)) rfl rfl rfl ?_
        refine SeqK.q (q_load (.g [_, _, _, _]) rfl Fx.ty82 rfl rfl rfl) rfl rfl rfl ?_
        refine SeqK.r (b_alloc (r := [_, _, _, _]) rfl rfl Fx.ze82 rfl rfl rfl rfl) rfl ?_
        refine SeqK.q (q_asC rfl rfl) rfl rfl rfl ?_
        refine SeqK.r (b_store (r := [_, _, _, _]) rfl rfl Fx.ty82 rfl rfl rfl rfl rfl rfl) rfl ?_
        refine SeqK.nil ?_
        refine AW.seq ?_
        refine AW.reg ?_
        refine SeqK.q (q_fieldL _ rfl Fx.fl82_1 rfl rfl) rfl rfl rfl ?_
        refine SeqK.r (b_load (r := .a _) rfl Fx.ty2 rfl rfl rfl rfl rfl rfl) rfl ?_
        refine SeqK.q (q_eql rfl rfl rfl) rfl rfl rfl ?_
        refine SeqK.nil ?_
        refine AW.condD rfl (fun h42 => ?_) (fun h42 => ?_)
        ·
          refine AW.seq ?_
          refine AW.reg ?_
          refine SeqK.q (q_fieldL _ rfl Fx.fl82_0 rfl rfl) rfl rfl rfl ?_
          refine SeqK.q (q_fieldL _ rfl Fx.fl74_0 rfl rfl) rfl rfl rfl ?_
          refine SeqK.r (b_load (r := .a _) rfl Fx.ty2 rfl rfl rfl rfl rfl rfl) rfl ?_
          refine SeqK.q (q_neq rfl rfl rfl) rfl rfl rfl ?_
          refine SeqK.qD (q_mvC rfl rfl) rfl rfl rfl (fun g47 => ?_) (fun g47 => ?_)
          ·
            refine SeqK.off rfl rfl rfl rfl rfl rfl ?_
            refine SeqK.off rfl rfl rfl rfl rfl rfl ?_
            refine SeqK.off rfl rfl rfl rfl rfl rfl ?_
            refine SeqK.off rfl rfl rfl rfl rfl rfl ?_
            refine SeqK.off rfl rfl rfl rfl rfl rfl ?_
            refine SeqK.q (q_pkT rfl rfl rfl) rfl rfl rfl ?_
            refine SeqK.q (q_mvC rfl rfl) rfl rfl rfl ?_
            refine SeqK.off rfl rfl rfl rfl rfl rfl ?_
            refine SeqK.off rfl rfl rfl rfl rfl rfl ?_
            refine SeqK.off rfl rfl rfl rfl rfl rfl ?_
            refine SeqK.off rfl rfl rfl rfl rfl rfl ?_
            refine SeqK.off rfl rfl rfl rfl rfl rfl ?_
            refine SeqK.q (q_pkT rfl rfl rfl) rfl rfl rfl ?_
            refine SeqK.nil ?_
            refine AW.condT rfl ?_
            refine AW.seq ?_
            refine AW.reg ?_
            refine SeqK.q (q_asC rfl rfl) rfl rfl rfl ?_
            refine SeqK.nil ?_
            refine AW.ret ?_
            exact fin_x (x := .c _) (H) (.tmp rfl .nil) rfl (V.up) (⟨bCe (dF (fun hv => by rcases hv.2.2.1 i hi with ⟨k1, k2, k3, k4⟩ | ⟨k1, _⟩ <;> first | exact absurd h42 k1 | omega | exact nd_t h60 k4 | (simp only [List.length_map] at *; omega))), rfl⟩)
          ·
            refine SeqK.on (q_fieldL _ rfl Fx.fl82_0 rfl rfl) rfl rfl rfl rfl rfl ?_
            refine SeqK.on (q_fieldL _ rfl Fx.fl74_1 rfl rfl) rfl rfl rfl rfl rfl ?_
            refine SeqK.rOn (b_load (r := .a _) rfl Fx.ty72 rfl rfl rfl rfl rfl rfl) rfl rfl rfl ?_
            refine SeqK.on (q_len rfl Fx.un72 rfl) rfl rfl rfl rfl rfl ?_
            refine SeqK.on (q_gtr rfl rfl rfl) rfl rfl rfl rfl rfl ?_
            refine SeqK.q (q_pkF rfl rfl rfl) rfl rfl rfl ?_
            refine SeqK.qD (q_mvC rfl rfl) rfl rfl rfl (fun g54 => ?_) (fun g54 => ?_)
            ·
              refine SeqK.off rfl rfl rfl rfl rfl rfl ?_
              refine SeqK.off rfl rfl rfl rfl rfl rfl ?_
              refine SeqK.off rfl rfl rfl rfl rfl rfl ?_
              refine SeqK.off rfl rfl rfl rfl rfl rfl ?_
              refine SeqK.off rfl rfl rfl rfl rfl rfl ?_
              refine SeqK.q (q_pkT rfl rfl rfl) rfl rfl rfl ?_
              refine SeqK.nil ?_
              refine AW.condT rfl ?_
              refine AW.seq ?_
              refine AW.reg ?_
              refine SeqK.q (q_asC rfl rfl) rfl rfl rfl ?_
              refine SeqK.nil ?_
              refine AW.ret ?_
              exact fin_x (x := .c _) (H) (.tmp rfl .nil) rfl (V.up) (⟨bCe (dF (fun hv => by rcases hv.2.2.1 i hi with ⟨k1, k2, k3, k4⟩ | ⟨k1, _⟩ <;> first | exact absurd h42 k1 | omega | exact nd_t h60 k4 | (simp only [List.length_map] at *; omega))), rfl⟩)
            ·
              refine SeqK.rOn (g_load (r := .a _) rfl Fx.ty104 rfl (V.g6) rfl rfl rfl rfl) rfl rfl rfl ?_
              refine SeqK.on (q_fieldL _ rfl Fx.fl82_2 rfl rfl) rfl rfl rfl rfl rfl ?_
              refine SeqK.rOn (b_load (r := .a _) rfl Fx.ty3 rfl rfl rfl rfl rfl rfl) rfl rfl rfl ?_
              refine SeqK.callVOn (f := 55) (cs := [.bp k5 0, .bp k3 0, .bp k2 0]) rfl rfl rfl rfl rfl rfl rfl Fx.fn55 rfl (has2_any _ k5 k3 k2 c l z V.g5 V.g3 V.g2 hc.nn hl _ 2) (fun _ _ h => by rw [h.1]; rfl) (fun x58 H58 q58 => ?_)
              obtain ⟨rfl, hHs⟩ := q58
              replace hHs := hHs.symm
              subst hHs
              refine SeqK.on (q_not rfl rfl) rfl rfl rfl rfl rfl ?_
              refine SeqK.q (q_pkF rfl rfl rfl) rfl rfl rfl ?_
              refine SeqK.nil ?_
              refine AW.cond _ rfl (fun h60 => ?_) (fun h60 => ?_)
              ·
                refine AW.seq ?_
                refine AW.reg ?_
                refine SeqK.q (q_asC rfl rfl) rfl rfl rfl ?_
                refine SeqK.nil ?_
                refine AW.ret ?_
                exact fin_x (x := .c _) (H) (.tmp rfl .nil) rfl (V.up) (⟨bCe (dF (fun hv => by rcases hv.2.2.1 i hi with ⟨k1, k2, k3, k4⟩ | ⟨k1, _⟩ <;> first | exact absurd h42 k1 | omega | exact nd_t h60 k4 | (simp only [List.length_map] at *; omega))), rfl⟩)
              ·
                refine AW.skip ?_
                refine AW.reg ?_
                refine SeqK.q (q_add _ rfl rfl rfl (w64 (by omega) (by omega))) rfl rfl rfl ?_
                refine SeqK.q (q_mvC rfl rfl) rfl rfl rfl ?_
                refine SeqK.nil ?_
                exact ⟨i + 1, _, Wk.keep 159 [(2, .c (.a (.bp k2 0))), (3, .c (.a (.bp k3 0))), (4, .c (bC false)), (5, .c (.a (.bp k5 0))), (6, .c (.a (.bp k6 0))), (7, .c (.a (.fn 57 [.bp k6 0, .bp k5 0, .bp k2 0]))), (33, .c (.a (.t (.sl .un 4 (c.ax.map axT))))), (34, iX .i64 (((c.ax.map axT).length : Nat) : Int)), (35, iX .i64 (((i + 1) : Nat) : Int))] [] (HV H k2 k3 k5 k6 c l z) rfl ⟨rfl, rfl, rfl, rfl, rfl, rfl, rfl, rfl, rfl, trivial⟩ trivial (fun _ _ h => h) rfl, by omega, ⟨hi, upS hi hU (.inl ⟨h42, (by simp only [List.length_map] at *; omega), by omega, by simpa using h60⟩)⟩, rfl⟩
        ·
          refine AW.seq ?_
          refine AW.reg ?_
          refine SeqK.q (q_fieldL _ rfl Fx.fl82_1 rfl rfl) rfl rfl rfl ?_
          refine SeqK.r (b_load (r := .a _) rfl Fx.ty2 rfl rfl rfl rfl rfl rfl) rfl ?_
          refine SeqK.q (q_lss rfl rfl rfl) rfl rfl rfl ?_
          refine SeqK.qD (q_mvC rfl rfl) rfl rfl rfl (fun g64 => ?_) (fun g64 => ?_)
          ·
            refine SeqK.off rfl rfl rfl rfl rfl rfl ?_
            refine SeqK.off rfl rfl rfl rfl rfl rfl ?_
            refine SeqK.off rfl rfl rfl rfl rfl rfl ?_
            refine SeqK.q (q_pkT rfl rfl rfl) rfl rfl rfl ?_
            refine SeqK.q (q_mvC rfl rfl) rfl rfl rfl ?_
            refine SeqK.off rfl rfl rfl rfl rfl rfl ?_
            refine SeqK.off rfl rfl rfl rfl rfl rfl ?_
            refine SeqK.off rfl rfl rfl rfl rfl rfl ?_
            refine SeqK.q (q_pkT rfl rfl rfl) rfl rfl rfl ?_
            refine SeqK.q (q_mvC rfl rfl) rfl rfl rfl ?_
            refine SeqK.off rfl rfl rfl rfl rfl rfl ?_
            refine SeqK.off rfl rfl rfl rfl rfl rfl ?_
            refine SeqK.off rfl rfl rfl rfl rfl rfl ?_
            refine SeqK.off rfl rfl rfl rfl rfl rfl ?_
            refine SeqK.off rfl rfl rfl rfl rfl rfl ?_
            refine SeqK.off rfl rfl rfl rfl rfl rfl ?_
            refine SeqK.q (q_pkT rfl rfl rfl) rfl rfl rfl ?_
            refine SeqK.nil ?_
            refine AW.condT rfl ?_
            refine AW.seq ?_
            refine AW.reg ?_
            refine SeqK.q (q_asC rfl rfl) rfl rfl rfl ?_
            refine SeqK.nil ?_
            refine AW.ret ?_
            exact fin_x (x := .c _) (H) (.tmp rfl .nil) rfl (V.up) (⟨bCe (dF (fun hv => by rcases hv.2.2.1 i hi with ⟨k1, _⟩ | ⟨k1, k2, k3, k4⟩ <;> first | exact h42 k1 | omega | exact nd_t h81 k2)), rfl⟩)
          ·
            refine SeqK.on (q_fieldL _ rfl Fx.fl82_1 rfl rfl) rfl rfl rfl rfl rfl ?_
            refine SeqK.rOn (b_load (r := .a _) rfl Fx.ty2 rfl rfl rfl rfl rfl rfl) rfl rfl rfl ?_
            refine SeqK.on (q_gtr rfl rfl rfl) rfl rfl rfl rfl rfl ?_
            refine SeqK.q (q_pkF rfl rfl rfl) rfl rfl rfl ?_
            refine SeqK.qD (q_mvC rfl rfl) rfl rfl rfl (fun g69 => ?_) (fun g69 => ?_)
            ·
              refine SeqK.off rfl rfl rfl rfl rfl rfl ?_
              refine SeqK.off rfl rfl rfl rfl rfl rfl ?_
              refine SeqK.off rfl rfl rfl rfl rfl rfl ?_
              refine SeqK.q (q_pkT rfl rfl rfl) rfl rfl rfl ?_
              refine SeqK.q (q_mvC rfl rfl) rfl rfl rfl ?_
              refine SeqK.off rfl rfl rfl rfl rfl rfl ?_
              refine SeqK.off rfl rfl rfl rfl rfl rfl ?_
              refine SeqK.off rfl rfl rfl rfl rfl rfl ?_
              refine SeqK.off rfl rfl rfl rfl rfl rfl ?_
              refine SeqK.off rfl rfl rfl rfl rfl rfl ?_
              refine SeqK.off rfl rfl rfl rfl rfl rfl ?_
              refine SeqK.q (q_pkT rfl rfl rfl) rfl rfl rfl ?_
              refine SeqK.nil ?_
              refine AW.condT rfl ?_
              refine AW.seq ?_
              refine AW.reg ?_
              refine SeqK.q (q_asC rfl rfl) rfl rfl rfl ?_
              refine SeqK.nil ?_
              refine AW.ret ?_
              exact fin_x (x := .c _) (H) (.tmp rfl .nil) rfl (V.up) (⟨bCe (dF (fun hv => by rcases hv.2.2.1 i hi with ⟨k1, _⟩ | ⟨k1, k2, k3, k4⟩ <;> first | exact h42 k1 | omega | exact nd_t h81 k2)), rfl⟩)
            ·
              refine SeqK.on (q_fieldL _ rfl Fx.fl82_2 rfl rfl) rfl rfl rfl rfl rfl ?_
              refine SeqK.rOn (b_load (r := .a _) rfl Fx.ty3 rfl rfl rfl rfl rfl rfl) rfl rfl rfl ?_
              refine SeqK.on (q_neq rfl rfl rfl) rfl rfl rfl rfl rfl ?_
              refine SeqK.q (q_pkF rfl rfl rfl) rfl rfl rfl ?_
              refine SeqK.qD (q_mvC rfl rfl) rfl rfl rfl (fun g74 => ?_) (fun g74 => ?_)
              ·
                refine SeqK.off rfl rfl rfl rfl rfl rfl ?_
                refine SeqK.off rfl rfl rfl rfl rfl rfl ?_
                refine SeqK.off rfl rfl rfl rfl rfl rfl ?_
                refine SeqK.off rfl rfl rfl rfl rfl rfl ?_
                refine SeqK.off rfl rfl rfl rfl rfl rfl ?_
                refine SeqK.off rfl rfl rfl rfl rfl rfl ?_
                refine SeqK.q (q_pkT rfl rfl rfl) rfl rfl rfl ?_
                refine SeqK.nil ?_
                refine AW.condT rfl ?_
                refine AW.seq ?_
                refine AW.reg ?_
                refine SeqK.q (q_asC rfl rfl) rfl rfl rfl ?_
                refine SeqK.nil ?_
                refine AW.ret ?_
                exact fin_x (x := .c _) (H) (.tmp rfl .nil) rfl (V.up) (⟨bCe (dF (fun hv => by rcases hv.2.2.1 i hi with ⟨k1, _⟩ | ⟨k1, k2, k3, k4⟩ <;> first | exact h42 k1 | omega | exact nd_t h81 k2)), rfl⟩)
              ·
                refine SeqK.on (q_mvC rfl rfl) rfl rfl rfl rfl rfl ?_
                refine SeqK.on (q_fieldL _ rfl Fx.fl82_0 rfl rfl) rfl rfl rfl rfl rfl ?_
                refine SeqK.rOn (b_load (r := .g [_, _]) rfl Fx.ty74 rfl rfl rfl rfl rfl rfl) rfl rfl rfl ?_
                refine SeqK.on (q_mvC rfl rfl) rfl rfl rfl rfl rfl ?_
                refine SeqK.callVOn (f := 57) (cs := [.bp k6 0, .bp k5 0, .bp k2 0]) rfl rfl rfl rfl rfl rfl rfl Fx.fn57 rfl (form2_any _ k5 k3 k2 c l z V.g5 V.g3 V.g2 hc.nn hl k6 V.g6 _ i (by omega) hc.ax (hc.axf _ (List.getElem_mem hi)) (hg.ax _ (List.getElem_mem hi)) hxx) (fun _ _ h => by rw [h.1]; rfl) (fun x79 H79 q79 => ?_)
                obtain ⟨rfl, hHs⟩ := q79
                replace hHs := hHs.symm
                subst hHs
                refine SeqK.on (q_not rfl rfl) rfl rfl rfl rfl rfl ?_
                refine SeqK.q (q_pkF rfl rfl rfl) rfl rfl rfl ?_
                refine SeqK.nil ?_
                refine AW.cond _ rfl (fun h81 => ?_) (fun h81 => ?_)
                ·
                  refine AW.seq ?_
                  refine AW.reg ?_
                  refine SeqK.q (q_asC rfl rfl) rfl rfl rfl ?_
                  refine SeqK.nil ?_
                  refine AW.ret ?_
                  exact fin_x (x := .c _) (H) (.tmp rfl .nil) rfl (V.up) (⟨bCe (dF (fun hv => by rcases hv.2.2.1 i hi with ⟨k1, _⟩ | ⟨k1, k2, k3, k4⟩ <;> first | exact h42 k1 | omega | exact nd_t h81 k2)), rfl⟩)
                ·
                  refine AW.skip ?_
                  refine AW.reg ?_
                  refine SeqK.q (q_add _ rfl rfl rfl (w64 (by omega) (by omega))) rfl rfl rfl ?_
                  refine SeqK.q (q_mvC rfl rfl) rfl rfl rfl ?_
                  refine SeqK.nil ?_
                  exact ⟨i + 1, _, Wk.keep 159 [(2, .c (.a (.bp k2 0))), (3, .c (.a (.bp k3 0))), (4, .c (bC false)), (5, .c (.a (.bp k5 0))), (6, .c (.a (.bp k6 0))), (7, .c (.a (.fn 57 [.bp k6 0, .bp k5 0, .bp k2 0]))), (33, .c (.a (.t (.sl .un 4 (c.ax.map axT))))), (34, iX .i64 (((c.ax.map axT).length : Nat) : Int)), (35, iX .i64 (((i + 1) : Nat) : Int))] [] (HV H k2 k3 k5 k6 c l z) rfl ⟨rfl, rfl, rfl, rfl, rfl, rfl, rfl, rfl, rfl, trivial⟩ trivial (fun _ _ h => h) rfl, by omega, ⟨hi, upS hi hU (.inr ⟨h42, by simpa using h81, by omega, by omega⟩)⟩, rfl⟩
      ·
        refine AW.exit ?_
        refine eth_e ?_
        refine eth_e ?_
        refine exit_here ?_
        refine AW.seq ?_
        refine AW.seq ?_
        have hC := upE hU (by rw [List.length_map] at h36; omega)
        have hxx : ∀ j (h : j < c.ax.length), j < c.ax.length → okX l.length c.ax j h := fun j h _ => okX_of hc h (hC j h)
        refine AW.reg ?_
        refine SeqK.q (q_fieldH _ rfl Fx.fl28_3 rfl rfl) rfl rfl rfl ?_
        refine SeqK.r (g_load (r := .a _) rfl Fx.ty24 rfl (V.g2) rfl rfl rfl rfl) rfl ?_
        refine SeqK.q (q_len rfl Fx.un24 rfl) rfl rfl rfl ?_
        refine SeqK.q (q_mvC rfl rfl) rfl rfl rfl ?_
        refine SeqK.nil ?_
        refine AW.block ?_
        refine AW.loop (fun (i : Nat) s => (i ≤ c.is.length ∧ ∀ j (h : j < c.is.length), j < i → formP c.is[j].f c.nn l (bsF l.length c.ax)) ∧ s = ⟨159, sp [(2, .c (.a (.bp k2 0))), (3, .c (.a (.bp k3 0))), (4, .c (bC false)), (5, .c (.a (.bp k5 0))), (6, .c (.a (.bp k6 0))), (7, .c (.a (.fn 57 [.bp k6 0, .bp k5 0, .bp k2 0]))), (84, .c (.a (.t (.sl .un 3 (c.is.map ctT))))), (85, iX .i64 (((c.is.map ctT).length : Nat) : Int)), (86, iX .i64 ((i : Nat) : Int))], lv [], HV H k2 k3 k5 k6 c l z⟩) (fun i => c.is.length - i) 0 ⟨_, Wk.keep 159 [(2, .c (.a (.bp k2 0))), (3, .c (.a (.bp k3 0))), (4, .c (bC false)), (5, .c (.a (.bp k5 0))), (6, .c (.a (.bp k6 0))), (7, .c (.a (.fn 57 [.bp k6 0, .bp k5 0, .bp k2 0]))), (84, .c (.a (.t (.sl .un 3 (c.is.map ctT))))), (85, iX .i64 (((c.is.map ctT).length : Nat) : Int)), (86, iX .i64 ((((0 : Nat)) : Nat) : Int))] [] (HV H k2 k3 k5 k6 c l z) rfl ⟨rfl, rfl, rfl, rfl, rfl, rfl, rfl, rfl, rfl, trivial⟩ trivial (fun _ _ h => h) rfl, ⟨Nat.zero_le _, up0⟩, rfl⟩ (fun i s hs => ?_)
        obtain ⟨⟨hi0, hU2⟩, rfl⟩ := hs
        refine AW.seq ?_
        refine AW.reg ?_
        refine SeqK.q (q_lss rfl rfl rfl) rfl rfl rfl ?_
        refine SeqK.nil ?_
        refine AW.seq ?_
        refine AW.condD rfl (fun h87 => ?_) (fun h87 => ?_)
        ·
          have hi : i < c.is.length := by rw [List.length_map] at h87; omega
          refine AW.skip ?_
          refine AW.seq ?_
          refine AW.block ?_
          refine AW.seq ?_
          refine AW.reg ?_
          refine SeqK.q (q_index _ rfl Fx.sl24 rfl rfl (by omega) (idx_map (f := ctT) hi)) rfl rfl rfl ?_
          refine SeqK.q (q_load (.g [_, _, _]) rfl Fx.ty76 rfl rfl rfl) rfl rfl rfl ?_
          refine SeqK.r (b_alloc (r := [_, _, _]) rfl rfl Fx.ze76 rfl rfl rfl rfl) rfl ?_
          refine SeqK.r (b_store (r := [_, _, _]) rfl rfl Fx.ty76 rfl rfl rfl rfl rfl rfl) rfl ?_
          refine SeqK.nil ?_
          refine AW.seq ?_
          refine AW.reg ?_
          refine SeqK.q (q_mvC rfl rfl) rfl rfl rfl ?_
          refine SeqK.q (q_fieldL _ rfl Fx.fl76_0 rfl rfl) rfl rfl rfl ?_
          refine SeqK.r (b_load (r := .g [_, _]) rfl Fx.ty74 rfl rfl rfl rfl rfl rfl) rfl ?_
          refine SeqK.q (q_fieldH _ rfl Fx.fl28_2 rfl rfl) rfl rfl rfl ?_
          refine SeqK.r (g_load (r := .a _) rfl Fx.ty23 rfl (V.g2) rfl rfl rfl rfl) rfl ?_
          refine SeqK.q (q_len rfl Fx.un23 rfl) rfl rfl rfl ?_
          refine SeqK.callV (f := 57) (cs := [.bp k6 0, .bp k5 0, .bp k2 0]) rfl rfl rfl rfl rfl Fx.fn57 rfl (form3_any k5 k3 k2 c l z V.g5 V.g3 V.g2 hc.nn hl k6 V.g6 _ hc.ax (hc.isf _ (List.getElem_mem hi)) (hg.is _ (List.getElem_mem hi)) hxx) (fun _ _ h => by rw [h.1]; rfl) (fun x96 H96 q96 => ?_)
          obtain ⟨rfl, hHs⟩ := q96
          replace hHs := hHs.symm
          subst hHs
          refine SeqK.q (q_not rfl rfl) rfl rfl rfl ?_
          refine SeqK.nil ?_
          refine AW.cond _ rfl (fun h97 => ?_) (fun h97 => ?_)
          ·
            refine AW.seq ?_
            refine AW.reg ?_
            refine SeqK.q (q_asC rfl rfl) rfl rfl rfl ?_
            refine SeqK.nil ?_
            refine AW.ret ?_
            exact fin_x (x := .c _) (H) (.tmp rfl .nil) rfl (V.up) (⟨bCe (dF (fun hv => nd_t h97 (hv.2.2.2.1 i hi))), rfl⟩)
          ·
            refine AW.skip ?_
            refine AW.reg ?_
            refine SeqK.q (q_add _ rfl rfl rfl (w64 (by omega) (by omega))) rfl rfl rfl ?_
            refine SeqK.q (q_mvC rfl rfl) rfl rfl rfl ?_
            refine SeqK.nil ?_
            exact ⟨i + 1, _, Wk.keep 159 [(2, .c (.a (.bp k2 0))), (3, .c (.a (.bp k3 0))), (4, .c (bC false)), (5, .c (.a (.bp k5 0))), (6, .c (.a (.bp k6 0))), (7, .c (.a (.fn 57 [.bp k6 0, .bp k5 0, .bp k2 0]))), (84, .c (.a (.t (.sl .un 3 (c.is.map ctT))))), (85, iX .i64 (((c.is.map ctT).length : Nat) : Int)), (86, iX .i64 (((i + 1) : Nat) : Int))] [] (HV H k2 k3 k5 k6 c l z) rfl ⟨rfl, rfl, rfl, rfl, rfl, rfl, rfl, rfl, rfl, trivial⟩ trivial (fun _ _ h => h) rfl, by omega, ⟨hi, upS hi hU2 (by simpa using h97)⟩, rfl⟩
        ·
          refine AW.exit ?_
          refine eth_e ?_
          refine eth_e ?_
          refine exit_here ?_
          refine AW.seq ?_
          refine AW.seq ?_
          have hD := upE hU2 (by rw [List.length_map] at h87; omega)
          refine AW.reg ?_
          refine SeqK.q (q_fieldH _ rfl Fx.fl28_4 rfl rfl) rfl rfl rfl ?_
          refine SeqK.r (g_load (r := .a _) rfl Fx.ty25 rfl (V.g2) rfl rfl rfl rfl) rfl ?_
          refine SeqK.q (q_len rfl Fx.un25 rfl) rfl rfl rfl ?_
          refine SeqK.q (q_mvC rfl rfl) rfl rfl rfl ?_
          refine SeqK.nil ?_
          refine AW.block ?_
          refine AW.loop (fun (i : Nat) s => (i ≤ c.ts.length ∧ ∀ j (h : j < c.ts.length), j < i → tstP c.ts[j] ∧ txtP c.ts[j].v c.nn l) ∧ s = ⟨159, sp [(2, .c (.a (.bp k2 0))), (3, .c (.a (.bp k3 0))), (4, .c (bC false)), (5, .c (.a (.bp k5 0))), (6, .c (.a (.bp k6 0))), (7, .c (.a (.fn 57 [.bp k6 0, .bp k5 0, .bp k2 0]))), (100, .c (.a (.t (.sl .un 4 (c.ts.map tsT))))), (101, iX .i64 (((c.ts.map tsT).length : Nat) : Int)), (102, iX .i64 ((i : Nat) : Int))], lv [], HV H k2 k3 k5 k6 c l z⟩) (fun i => c.ts.length - i) 0 ⟨_, Wk.keep 159 [(2, .c (.a (.bp k2 0))), (3, .c (.a (.bp k3 0))), (4, .c (bC false)), (5, .c (.a (.bp k5 0))), (6, .c (.a (.bp k6 0))), (7, .c (.a (.fn 57 [.bp k6 0, .bp k5 0, .bp k2 0]))), (100, .c (.a (.t (.sl .un 4 (c.ts.map tsT))))), (101, iX .i64 (((c.ts.map tsT).length : Nat) : Int)), (102, iX .i64 ((((0 : Nat)) : Nat) : Int))] [] (HV H k2 k3 k5 k6 c l z) rfl ⟨rfl, rfl, rfl, rfl, rfl, rfl, rfl, rfl, rfl, trivial⟩ trivial (fun _ _ h => h) rfl, ⟨Nat.zero_le _, up0⟩, rfl⟩ (fun i s hs => ?_)
          obtain ⟨⟨hi0, hU3⟩, rfl⟩ := hs
          refine AW.seq ?_
          refine AW.reg ?_
          refine SeqK.q (q_lss rfl rfl rfl) rfl rfl rfl ?_
          refine SeqK.nil ?_
          refine AW.seq ?_
          refine AW.condD rfl (fun h103 => ?_) (fun h103 => ?_)
          ·
            have hi : i < c.ts.length := by rw [List.length_map] at h103; omega
            refine AW.skip ?_
            refine AW.seq ?_
            refine AW.block ?_
            refine AW.seq ?_
            refine AW.reg ?_
            refine SeqK.q (q_index _ rfl Fx.sl25 rfl rfl (by omega) (idx_map (f := tsT) hi)) rfl rfl rfl ?_
            refine SeqK.q (q_load (.g [_, _, _, _]) rfl Fx.ty61 rfl rfl rfl) rfl rfl rfl ?_
            refine SeqK.r (b_alloc (r := [_, _, _, _]) rfl rfl Fx.ze61 rfl rfl rfl rfl) rfl ?_
            refine SeqK.r (b_store (r := [_, _, _, _]) rfl rfl Fx.ty61 rfl rfl rfl rfl rfl rfl) rfl ?_
            refine SeqK.nil ?_
            refine AW.seq ?_
            refine AW.reg ?_
            refine SeqK.q (q_fieldL _ rfl Fx.fl61_1 rfl rfl) rfl rfl rfl ?_
            refine SeqK.r (b_load (r := .a _) rfl Fx.ty3 rfl rfl rfl rfl rfl rfl) rfl ?_
            refine SeqK.q (q_lss rfl rfl rfl) rfl rfl rfl ?_
            refine SeqK.qD (q_mvC rfl rfl) rfl rfl rfl (fun g109 => ?_) (fun g109 => ?_)
            ·
              refine SeqK.off rfl rfl rfl rfl rfl rfl ?_
              refine SeqK.off rfl rfl rfl rfl rfl rfl ?_
              refine SeqK.off rfl rfl rfl rfl rfl rfl ?_
              refine SeqK.q (q_pkT rfl rfl rfl) rfl rfl rfl ?_
              refine SeqK.q (q_mvC rfl rfl) rfl rfl rfl ?_
              refine SeqK.off rfl rfl rfl rfl rfl rfl ?_
              refine SeqK.off rfl rfl rfl rfl rfl rfl ?_
              refine SeqK.off rfl rfl rfl rfl rfl rfl ?_
              refine SeqK.off rfl rfl rfl rfl rfl rfl ?_
              refine SeqK.q (q_pkT rfl rfl rfl) rfl rfl rfl ?_
              refine SeqK.q (q_mvC rfl rfl) rfl rfl rfl ?_
              refine SeqK.off rfl rfl rfl rfl rfl rfl ?_
              refine SeqK.off rfl rfl rfl rfl rfl rfl ?_
              refine SeqK.off rfl rfl rfl rfl rfl rfl ?_
              refine SeqK.off rfl rfl rfl rfl rfl rfl ?_
              refine SeqK.off rfl rfl rfl rfl rfl rfl ?_
              refine SeqK.q (q_pkT rfl rfl rfl) rfl rfl rfl ?_
              refine SeqK.nil ?_
              refine AW.condT rfl ?_
              refine AW.seq ?_
              refine AW.reg ?_
              refine SeqK.q (q_asC rfl rfl) rfl rfl rfl ?_
              refine SeqK.nil ?_
              refine AW.ret ?_
              exact fin_x (x := .c _) (H) (.tmp rfl .nil) rfl (V.up) (⟨bCe (dF (fun hv => by obtain ⟨⟨k1, k2, k3⟩, k4⟩ := hv.2.2.2.2.1 i hi; first | omega | exact nd_t g120 ⟨k1, k3⟩ | exact nd_t h126 k4)), rfl⟩)
            ·
              refine SeqK.on (q_fieldL _ rfl Fx.fl61_1 rfl rfl) rfl rfl rfl rfl rfl ?_
              refine SeqK.rOn (b_load (r := .a _) rfl Fx.ty3 rfl rfl rfl rfl rfl rfl) rfl rfl rfl ?_
              refine SeqK.on (q_gtr rfl rfl rfl) rfl rfl rfl rfl rfl ?_
              refine SeqK.q (q_pkF rfl rfl rfl) rfl rfl rfl ?_
              refine SeqK.qD (q_mvC rfl rfl) rfl rfl rfl (fun g114 => ?_) (fun g114 => ?_)
              ·
                refine SeqK.off rfl rfl rfl rfl rfl rfl ?_
                refine SeqK.off rfl rfl rfl rfl rfl rfl ?_
                refine SeqK.off rfl rfl rfl rfl rfl rfl ?_
                refine SeqK.off rfl rfl rfl rfl rfl rfl ?_
                refine SeqK.q (q_pkT rfl rfl rfl) rfl rfl rfl ?_
                refine SeqK.q (q_mvC rfl rfl) rfl rfl rfl ?_
                refine SeqK.off rfl rfl rfl rfl rfl rfl ?_
                refine SeqK.off rfl rfl rfl rfl rfl rfl ?_
                refine SeqK.off rfl rfl rfl rfl rfl rfl ?_
                refine SeqK.off rfl rfl rfl rfl rfl rfl ?_
                refine SeqK.off rfl rfl rfl rfl rfl rfl ?_
                refine SeqK.q (q_pkT rfl rfl rfl) rfl rfl rfl ?_
                refine SeqK.nil ?_
                refine AW.condT rfl ?_
                refine AW.seq ?_
                refine AW.reg ?_
                refine SeqK.q (q_asC rfl rfl) rfl rfl rfl ?_
                refine SeqK.nil ?_
                refine AW.ret ?_
                exact fin_x (x := .c _) (H) (.tmp rfl .nil) rfl (V.up) (⟨bCe (dF (fun hv => by obtain ⟨⟨k1, k2, k3⟩, k4⟩ := hv.2.2.2.2.1 i hi; first | omega | exact nd_t g120 ⟨k1, k3⟩ | exact nd_t h126 k4)), rfl⟩)
              ·
                refine SeqK.on (q_fieldL _ rfl Fx.fl61_3 rfl rfl) rfl rfl rfl rfl rfl ?_
                refine SeqK.rOn (b_load (r := .a _) rfl Fx.ty9 rfl rfl rfl rfl rfl rfl) rfl rfl rfl ?_
                refine SeqK.on (q_call _ rfl Fx.fn60 rfl (dprn_any _ (hc.tss _ (List.getElem_mem hi))) rfl) rfl rfl rfl rfl rfl ?_
                refine SeqK.on (q_not rfl rfl) rfl rfl rfl rfl rfl ?_
                refine SeqK.q (q_pkF rfl rfl rfl) rfl rfl rfl ?_
                refine SeqK.qB (q_mvC rfl rfl) rfl rfl rfl (fun g120 => ?_) (fun g120 => ?_)
                ·
                  refine SeqK.off rfl rfl rfl rfl rfl rfl ?_
                  refine SeqK.off rfl rfl rfl rfl rfl rfl ?_
                  refine SeqK.off rfl rfl rfl rfl rfl rfl ?_
                  refine SeqK.off rfl rfl rfl rfl rfl rfl ?_
                  refine SeqK.off rfl rfl rfl rfl rfl rfl ?_
                  refine SeqK.q (q_pkT rfl rfl rfl) rfl rfl rfl ?_
                  refine SeqK.nil ?_
                  refine AW.condT rfl ?_
                  refine AW.seq ?_
                  refine AW.reg ?_
                  refine SeqK.q (q_asC rfl rfl) rfl rfl rfl ?_
                  refine SeqK.nil ?_
                  refine AW.ret ?_
                  exact fin_x (x := .c _) (H) (.tmp rfl .nil) rfl (V.up) (⟨bCe (dF (fun hv => by obtain ⟨⟨k1, k2, k3⟩, k4⟩ := hv.2.2.2.2.1 i hi; first | omega | exact nd_t g120 ⟨k1, k3⟩ | exact nd_t h126 k4)), rfl⟩)
                ·
                  refine SeqK.rOn (g_load (r := .a _) rfl Fx.ty104 rfl (V.g6) rfl rfl rfl rfl) rfl rfl rfl ?_
                  refine SeqK.on (q_fieldL _ rfl Fx.fl61_0 rfl rfl) rfl rfl rfl rfl rfl ?_
                  refine SeqK.rOn (b_load (r := .a _) rfl Fx.ty3 rfl rfl rfl rfl rfl rfl) rfl rfl rfl ?_
                  refine SeqK.callVOn (f := 55) (cs := [.bp k5 0, .bp k3 0, .bp k2 0]) rfl rfl rfl rfl rfl rfl rfl Fx.fn55 rfl (has2_any _ k5 k3 k2 c l z V.g5 V.g3 V.g2 hc.nn hl _ 2) (fun _ _ h => by rw [h.1]; rfl) (fun x124 H124 q124 => ?_)
                  obtain ⟨rfl, hHs⟩ := q124
                  replace hHs := hHs.symm
                  subst hHs
                  refine SeqK.on (q_not rfl rfl) rfl rfl rfl rfl rfl ?_
                  refine SeqK.q (q_pkF rfl rfl rfl) rfl rfl rfl ?_
                  refine SeqK.nil ?_
                  refine AW.cond _ rfl (fun h126 => ?_) (fun h126 => ?_)
                  ·
                    refine AW.seq ?_
                    refine AW.reg ?_
                    refine SeqK.q (q_asC rfl rfl) rfl rfl rfl ?_
                    refine SeqK.nil ?_
                    refine AW.ret ?_
                    exact fin_x (x := .c _) (H) (.tmp rfl .nil) rfl (V.up) (⟨bCe (dF (fun hv => by obtain ⟨⟨k1, k2, k3⟩, k4⟩ := hv.2.2.2.2.1 i hi; first | omega | exact nd_t g120 ⟨k1, k3⟩ | exact nd_t h126 k4)), rfl⟩)
                  ·
                    refine AW.skip ?_
                    refine AW.reg ?_
                    refine SeqK.q (q_add _ rfl rfl rfl (w64 (by omega) (by omega))) rfl rfl rfl ?_
                    refine SeqK.q (q_mvC rfl rfl) rfl rfl rfl ?_
                    refine SeqK.nil ?_
                    exact ⟨i + 1, _, Wk.keep 159 [(2, .c (.a (.bp k2 0))), (3, .c (.a (.bp k3 0))), (4, .c (bC false)), (5, .c (.a (.bp k5 0))), (6, .c (.a (.bp k6 0))), (7, .c (.a (.fn 57 [.bp k6 0, .bp k5 0, .bp k2 0]))), (100, .c (.a (.t (.sl .un 4 (c.ts.map tsT))))), (101, iX .i64 (((c.ts.map tsT).length : Nat) : Int)), (102, iX .i64 (((i + 1) : Nat) : Int))] [] (HV H k2 k3 k5 k6 c l z) rfl ⟨rfl, rfl, rfl, rfl, rfl, rfl, rfl, rfl, rfl, trivial⟩ trivial (fun _ _ h => h) rfl, by omega, ⟨hi, upS hi hU3 ⟨⟨(by simpa using g120 : prnP c.ts[i].s ∧ c.ts[i].s.size ≤ 16).1, by omega, (by simpa using g120 : prnP c.ts[i].s ∧ c.ts[i].s.size ≤ 16).2⟩, by simpa using h126⟩⟩, rfl⟩
          ·
            refine AW.exit ?_
            refine eth_e ?_
            refine eth_e ?_
            refine exit_here ?_
            refine AW.seq ?_
            refine AW.seq ?_
            have hE := upE hU3 (by rw [List.length_map] at h103; omega)
            refine AW.reg ?_
            refine SeqK.q (q_fieldH _ rfl Fx.fl28_5 rfl rfl) rfl rfl rfl ?_
            refine SeqK.r (g_load (r := .a _) rfl Fx.ty26 rfl (V.g2) rfl rfl rfl rfl) rfl ?_
            refine SeqK.q (q_fieldH _ rfl Fx.fl28_6 rfl rfl) rfl rfl rfl ?_
            refine SeqK.r (g_load (r := .a _) rfl Fx.ty26 rfl (V.g2) rfl rfl rfl rfl) rfl ?_
            refine SeqK.q (q_buildSlice _ rfl Fx.el135 rfl (by decide) rfl) rfl rfl rfl ?_
            refine SeqK.q (q_call _ rfl Fx.fn47 rfl (hcat) rfl) rfl rfl rfl ?_
            refine SeqK.q (q_len rfl Fx.un26 rfl) rfl rfl rfl ?_
            refine SeqK.q (q_mvC rfl rfl) rfl rfl rfl ?_
            refine SeqK.nil ?_
            refine AW.block ?_
            refine AW.loop (fun (i : Nat) s => (i ≤ (c.sm ++ c.df).length ∧ ∀ j (h : j < (c.sm ++ c.df).length), j < i → prQ (c.sm ++ c.df) c.nn l j h) ∧ s = ⟨159, sp [(2, .c (.a (.bp k2 0))), (3, .c (.a (.bp k3 0))), (4, .c (bC false)), (5, .c (.a (.bp k5 0))), (6, .c (.a (.bp k6 0))), (7, .c (.a (.fn 57 [.bp k6 0, .bp k5 0, .bp k2 0]))), (133, .c (.a (.t (.sl .un 2 ((c.sm ++ c.df).map prT))))), (134, iX .i64 ((((c.sm ++ c.df).map prT).length : Nat) : Int)), (135, iX .i64 ((i : Nat) : Int))], lv [], HV H k2 k3 k5 k6 c l z⟩) (fun i => (c.sm ++ c.df).length - i) 0 ⟨_, Wk.keep 159 [(2, .c (.a (.bp k2 0))), (3, .c (.a (.bp k3 0))), (4, .c (bC false)), (5, .c (.a (.bp k5 0))), (6, .c (.a (.bp k6 0))), (7, .c (.a (.fn 57 [.bp k6 0, .bp k5 0, .bp k2 0]))), (133, .c (.a (.t (.sl .un 2 ((c.sm ++ c.df).map prT))))), (134, iX .i64 ((((c.sm ++ c.df).map prT).length : Nat) : Int)), (135, iX .i64 ((((0 : Nat)) : Nat) : Int))] [] (HV H k2 k3 k5 k6 c l z) rfl ⟨rfl, rfl, rfl, rfl, rfl, rfl, rfl, rfl, rfl, trivial⟩ trivial (fun _ _ h => h) rfl, ⟨Nat.zero_le _, up0⟩, rfl⟩ (fun i s hs => ?_)
            obtain ⟨⟨hi0, hU4⟩, rfl⟩ := hs
            refine AW.seq ?_
            refine AW.reg ?_
            refine SeqK.q (q_lss rfl rfl rfl) rfl rfl rfl ?_
            refine SeqK.nil ?_
            refine AW.seq ?_
            refine AW.condD rfl (fun h136 => ?_) (fun h136 => ?_)
            ·
              have hi : i < (c.sm ++ c.df).length := by rw [List.length_map] at h136; omega
              refine AW.skip ?_
              refine AW.seq ?_
              refine AW.block ?_
              refine AW.seq ?_
              refine AW.reg ?_
              refine SeqK.q (q_index _ rfl Fx.sl26 rfl rfl (by omega) (idx_map (f := prT) hi)) rfl rfl rfl ?_
              refine SeqK.q (q_load (.g [_, _]) rfl Fx.ty80 rfl rfl rfl) rfl rfl rfl ?_
              refine SeqK.r (b_alloc (r := [_, _]) rfl rfl Fx.ze80 rfl rfl rfl rfl) rfl ?_
              refine SeqK.r (b_store (r := [_, _]) rfl rfl Fx.ty80 rfl rfl rfl rfl rfl rfl) rfl ?_
              refine SeqK.nil ?_
              refine AW.seq ?_
              refine AW.reg ?_
              refine SeqK.q (q_indexL _ rfl Fx.ar80 rfl rfl (by omega) (by omega) rfl) rfl rfl rfl ?_
              refine SeqK.r (b_load (r := .a _) rfl Fx.ty3 rfl rfl rfl rfl rfl rfl) rfl ?_
              refine SeqK.q (q_indexL _ rfl Fx.ar80 rfl rfl (by omega) (by omega) rfl) rfl rfl rfl ?_
              refine SeqK.r (b_load (r := .a _) rfl Fx.ty3 rfl rfl rfl rfl rfl rfl) rfl ?_
              refine SeqK.q (q_geq rfl rfl rfl) rfl rfl rfl ?_
              refine SeqK.qD (q_mvC rfl rfl) rfl rfl rfl (fun g144 => ?_) (fun g144 => ?_)
              ·
                refine SeqK.off rfl rfl rfl rfl rfl rfl ?_
                refine SeqK.off rfl rfl rfl rfl rfl rfl ?_
                refine SeqK.off rfl rfl rfl rfl rfl rfl ?_
                refine SeqK.off rfl rfl rfl rfl rfl rfl ?_
                refine SeqK.off rfl rfl rfl rfl rfl rfl ?_
                refine SeqK.q (q_pkT rfl rfl rfl) rfl rfl rfl ?_
                refine SeqK.q (q_mvC rfl rfl) rfl rfl rfl ?_
                refine SeqK.off rfl rfl rfl rfl rfl rfl ?_
                refine SeqK.off rfl rfl rfl rfl rfl rfl ?_
                refine SeqK.off rfl rfl rfl rfl rfl rfl ?_
                refine SeqK.off rfl rfl rfl rfl rfl rfl ?_
                refine SeqK.off rfl rfl rfl rfl rfl rfl ?_
                refine SeqK.q (q_pkT rfl rfl rfl) rfl rfl rfl ?_
                refine SeqK.nil ?_
                refine AW.condT rfl ?_
                refine AW.seq ?_
                refine AW.reg ?_
                refine SeqK.q (q_asC rfl rfl) rfl rfl rfl ?_
                refine SeqK.nil ?_
                refine AW.ret ?_
                exact fin_x (x := .c _) (H) (.tmp rfl .nil) rfl (V.up) (⟨bCe (dF (fun hv => by obtain ⟨k1, k2, k3⟩ := prP_app.2 hv.2.2.2.2.2 i hi; first | omega | exact nd_t g151 k1 | exact nd_t h157 k2)), rfl⟩)
              ·
                refine SeqK.rOn (g_load (r := .a _) rfl Fx.ty104 rfl (V.g6) rfl rfl rfl rfl) rfl rfl rfl ?_
                refine SeqK.on (q_indexL _ rfl Fx.ar80 rfl rfl (by omega) (by omega) rfl) rfl rfl rfl rfl rfl ?_
                refine SeqK.rOn (b_load (r := .a _) rfl Fx.ty3 rfl rfl rfl rfl rfl rfl) rfl rfl rfl ?_
                refine SeqK.callVOn (f := 55) (cs := [.bp k5 0, .bp k3 0, .bp k2 0]) rfl rfl rfl rfl rfl rfl rfl Fx.fn55 rfl (has2_any _ k5 k3 k2 c l z V.g5 V.g3 V.g2 hc.nn hl _ 2) (fun _ _ h => by rw [h.1]; rfl) (fun x148 H148 q148 => ?_)
                obtain ⟨rfl, hHs⟩ := q148
                replace hHs := hHs.symm
                subst hHs
                refine SeqK.on (q_not rfl rfl) rfl rfl rfl rfl rfl ?_
                refine SeqK.q (q_pkF rfl rfl rfl) rfl rfl rfl ?_
                refine SeqK.qB (q_mvC rfl rfl) rfl rfl rfl (fun g151 => ?_) (fun g151 => ?_)
                ·
                  refine SeqK.off rfl rfl rfl rfl rfl rfl ?_
                  refine SeqK.off rfl rfl rfl rfl rfl rfl ?_
                  refine SeqK.off rfl rfl rfl rfl rfl rfl ?_
                  refine SeqK.off rfl rfl rfl rfl rfl rfl ?_
                  refine SeqK.off rfl rfl rfl rfl rfl rfl ?_
                  refine SeqK.q (q_pkT rfl rfl rfl) rfl rfl rfl ?_
                  refine SeqK.nil ?_
                  refine AW.condT rfl ?_
                  refine AW.seq ?_
                  refine AW.reg ?_
                  refine SeqK.q (q_asC rfl rfl) rfl rfl rfl ?_
                  refine SeqK.nil ?_
                  refine AW.ret ?_
                  exact fin_x (x := .c _) (H) (.tmp rfl .nil) rfl (V.up) (⟨bCe (dF (fun hv => by obtain ⟨k1, k2, k3⟩ := prP_app.2 hv.2.2.2.2.2 i hi; first | omega | exact nd_t g151 k1 | exact nd_t h157 k2)), rfl⟩)
                ·
                  refine SeqK.rOn (g_load (r := .a _) rfl Fx.ty104 rfl (V.g6) rfl rfl rfl rfl) rfl rfl rfl ?_
                  refine SeqK.on (q_indexL _ rfl Fx.ar80 rfl rfl (by omega) (by omega) rfl) rfl rfl rfl rfl rfl ?_
                  refine SeqK.rOn (b_load (r := .a _) rfl Fx.ty3 rfl rfl rfl rfl rfl rfl) rfl rfl rfl ?_
                  refine SeqK.callVOn (f := 55) (cs := [.bp k5 0, .bp k3 0, .bp k2 0]) rfl rfl rfl rfl rfl rfl rfl Fx.fn55 rfl (has2_any _ k5 k3 k2 c l z V.g5 V.g3 V.g2 hc.nn hl _ 2) (fun _ _ h => by rw [h.1]; rfl) (fun x155 H155 q155 => ?_)
                  obtain ⟨rfl, hHs⟩ := q155
                  replace hHs := hHs.symm
                  subst hHs
                  refine SeqK.on (q_not rfl rfl) rfl rfl rfl rfl rfl ?_
                  refine SeqK.q (q_pkF rfl rfl rfl) rfl rfl rfl ?_
                  refine SeqK.nil ?_
                  refine AW.cond _ rfl (fun h157 => ?_) (fun h157 => ?_)
                  ·
                    refine AW.seq ?_
                    refine AW.reg ?_
                    refine SeqK.q (q_asC rfl rfl) rfl rfl rfl ?_
                    refine SeqK.nil ?_
                    refine AW.ret ?_
                    exact fin_x (x := .c _) (H) (.tmp rfl .nil) rfl (V.up) (⟨bCe (dF (fun hv => by obtain ⟨k1, k2, k3⟩ := prP_app.2 hv.2.2.2.2.2 i hi; first | omega | exact nd_t g151 k1 | exact nd_t h157 k2)), rfl⟩)
                  ·
                    refine AW.skip ?_
                    refine AW.reg ?_
                    refine SeqK.q (q_add _ rfl rfl rfl (w64 (by omega) (by omega))) rfl rfl rfl ?_
                    refine SeqK.q (q_mvC rfl rfl) rfl rfl rfl ?_
                    refine SeqK.nil ?_
                    exact ⟨i + 1, _, Wk.keep 159 [(2, .c (.a (.bp k2 0))), (3, .c (.a (.bp k3 0))), (4, .c (bC false)), (5, .c (.a (.bp k5 0))), (6, .c (.a (.bp k6 0))), (7, .c (.a (.fn 57 [.bp k6 0, .bp k5 0, .bp k2 0]))), (133, .c (.a (.t (.sl .un 2 ((c.sm ++ c.df).map prT))))), (134, iX .i64 ((((c.sm ++ c.df).map prT).length : Nat) : Int)), (135, iX .i64 (((i + 1) : Nat) : Int))] [] (HV H k2 k3 k5 k6 c l z) rfl ⟨rfl, rfl, rfl, rfl, rfl, rfl, rfl, rfl, rfl, trivial⟩ trivial (fun _ _ h => h) rfl, by omega, ⟨hi, upS hi hU4 ⟨by simpa using g151, by simpa using h157, by omega⟩⟩, rfl⟩
            ·
              refine AW.exit ?_
              refine eth_e ?_
              refine eth_e ?_
              refine exit_here ?_
              refine AW.seq ?_
              have hF := upE hU4 (by rw [List.length_map] at h136; omega)
              have hFG := prP_app.1 hF
              refine AW.reg ?_
              refine SeqK.q (q_asC rfl rfl) rfl rfl rfl ?_
              refine SeqK.nil ?_
              refine AW.ret ?_
              exact fin_x (x := .c _) (H) (.tmp rfl .nil) rfl (V.up) (⟨bCe (dT ⟨hA, hB, hC, hD, hE, hFG.1, hFG.2⟩), rfl⟩)

end Go.Proofs.Ytnmfjojhgfipcaa.W
