/- Parts of the proof, one after the other: W14, W15, W16. No condition. -/
import Derived.Test.YtnmfjojhgfipcaaGreatDoorM15
namespace Go.Proofs.YtnmfjojhgfipcaaGreatDoor.W
open Go.RowKit E
set_option linter.unusedVariables false
set_option linter.unusedSimpArgs false
set_option linter.unusedSectionVars false
def clB (b : Bool) : Cl := ⟨[], [0], [], [⟨⟨if b then 4 else -2, [⟨0, if b then -1 else 1⟩]⟩, false⟩], [], [], []⟩
abbrev ltA (b : Bool) : List A := atA ++ [.t (.v (.bool b))]
abbrev nilA : A := .t (.v (.slice none 0 0))
abbrev bl0 : List A := [.t (.v (.int .i64 1)), nilA, nilA, nilA, nilA, nilA, nilA, nilA]
abbrev bl1 (b : Bool) : List A := [.t (.v (.int .i64 1)), nilA, .t (.sl .ne 1 [i64T 0]), nilA, .t (.sl .ne 3 [[.v (.int .i64 (if b then 4 else -2)), .sl .un 2 [[.v (.int .i64 0), .v (.int .i64 (if b then -1 else 1))]], .v (.bool false)]]), nilA, nilA, nilA]

set_option maxRecDepth 20000 in
theorem variables_c  : Pure Tryz.prog 69 [.g frA] (.c (.a (.t (.sl .ne 1 [i64T 0])))) := by
  intro H
  refine Spec.enter Tryz.func69 rfl ?_
  refine AW.wk (Wk.keep 33 [(0, .c (.g frA))] [] (H) rfl ⟨rfl, trivial⟩ trivial (fun _ _ h => h) rfl) ?_
  refine AW.seq ?_
  refine AW.reg ?_
  refine SeqK.r (b_box (r := [_, _]) rfl rfl rfl rfl rfl rfl) rfl ?_
  refine SeqK.q (q_asC rfl rfl) rfl rfl rfl ?_
  refine SeqK.nil ?_
  refine AW.seq ?_
  refine AW.reg ?_
  refine SeqK.q (q_asC rfl rfl) rfl rfl rfl ?_
  refine SeqK.nil ?_
  refine AW.seq ?_
  refine AW.seq ?_
  refine AW.reg ?_
  refine SeqK.q (q_fieldL _ rfl Fx.fl42_1 rfl rfl) rfl rfl rfl ?_
  refine SeqK.r (b_load (r := .a _) rfl Fx.ty40 rfl rfl rfl rfl rfl rfl) rfl ?_
  refine SeqK.q (q_len rfl Fx.un40 rfl) rfl rfl rfl ?_
  refine SeqK.q (q_mvC rfl rfl) rfl rfl rfl ?_
  refine SeqK.nil ?_
  refine AW.block ?_
  refine AW.unroll ?_
  refine AW.seq ?_
  refine AW.reg ?_
  refine SeqK.q (q_lss rfl rfl rfl) rfl rfl rfl ?_
  refine SeqK.nil ?_
  refine AW.seq ?_
  refine AW.condT rfl ?_
  refine AW.skip ?_
  refine AW.seq ?_
  refine AW.block ?_
  refine AW.seq ?_
  refine AW.reg ?_
  refine SeqK.q (q_index _ rfl Fx.sl40 rfl rfl (by omega) (rfl)) rfl rfl rfl ?_
  refine SeqK.q (q_load (.g [_, _, _, _, _]) rfl Fx.ty39 rfl rfl rfl) rfl rfl rfl ?_
  refine SeqK.r (b_alloc (r := [_, _, _, _, _]) rfl rfl Fx.ze39 rfl rfl rfl rfl) rfl ?_
  refine SeqK.r (b_store (r := [_, _, _, _, _]) rfl rfl Fx.ty39 rfl rfl rfl rfl rfl rfl) rfl ?_
  refine SeqK.nil ?_
  refine AW.seq ?_
  refine AW.reg ?_
  refine SeqK.q (q_fieldL _ rfl Fx.fl39_1 rfl rfl) rfl rfl rfl ?_
  refine SeqK.r (b_load (r := .a _) rfl Fx.ty3 rfl rfl rfl rfl rfl rfl) rfl ?_
  refine SeqK.q (q_eql rfl rfl rfl) rfl rfl rfl ?_
  refine SeqK.nil ?_
  refine AW.condF rfl ?_
  refine AW.reg ?_
  refine SeqK.q (q_mvC rfl rfl) rfl rfl rfl ?_
  refine SeqK.q (q_fieldL _ rfl Fx.fl39_2 rfl rfl) rfl rfl rfl ?_
  refine SeqK.r (b_load (r := .a _) rfl Fx.ty3 rfl rfl rfl rfl rfl rfl) rfl ?_
  refine SeqK.q (q_buildSlice _ rfl Fx.el22 rfl (by decide) rfl) rfl rfl rfl ?_
  refine SeqK.q (q_appNil rfl Fx.el22 rfl rfl (by simp)) rfl rfl rfl ?_
  refine SeqK.q (q_asC rfl rfl) rfl rfl rfl ?_
  refine SeqK.nil ?_
  refine AW.reg ?_
  refine SeqK.q (q_add _ rfl rfl rfl (w64 (by omega) (by omega))) rfl rfl rfl ?_
  refine SeqK.q (q_mvC rfl rfl) rfl rfl rfl ?_
  refine SeqK.nil ?_
  first | with_reducible refine LoopW.again ?_ | with_reducible refine eth_n (LoopW.again ?_) | with_reducible refine eb_n (eth_n (LoopW.again ?_)) | with_reducible refine eth_n (eb_n (eth_n (LoopW.again ?_)))
  refine AW.seq ?_
  refine AW.reg ?_
  refine SeqK.q (q_lss rfl rfl rfl) rfl rfl rfl ?_
  refine SeqK.nil ?_
  refine AW.seq ?_
  refine AW.condF rfl ?_
  refine AW.exit ?_
  refine eth_e ?_
  refine eth_e ?_
  refine exit_here ?_
  refine AW.seq ?_
  refine AW.reg ?_
  refine SeqK.q (q_mvC rfl rfl) rfl rfl rfl ?_
  refine SeqK.q (q_call _ rfl Fx.fn72 rfl (sort_1 _ _) rfl) rfl rfl rfl ?_
  refine SeqK.nil ?_
  refine AW.seq ?_
  refine AW.reg ?_
  refine SeqK.q (q_mvC rfl rfl) rfl rfl rfl ?_
  refine SeqK.q (q_call _ rfl Fx.fn73 rfl (compact_1 _ _) rfl) rfl rfl rfl ?_
  refine SeqK.q (q_asC rfl rfl) rfl rfl rfl ?_
  refine SeqK.nil ?_
  refine AW.ret ?_
  exact fin_x (x := .c _) H (.tmp rfl .nil) rfl (fun _ _ h => h) ⟨rfl, rfl⟩

set_option maxRecDepth 20000 in
theorem form_c (x : A) : Pure Tryz.prog 70 [.a x, .g frA] (.c (.g [.t (.v (.int .i64 (-3))), .t (.sl .un 2 [[.v (.int .i64 0), .v (.int .i64 1)]])])) := by
  intro H
  refine Spec.enter Tryz.func70 rfl ?_
  refine AW.wk (Wk.keep 53 [(0, .c (.a x)), (1, .c (.g frA))] [] (H) rfl ⟨rfl, rfl, trivial⟩ trivial (fun _ _ h => h) rfl) ?_
  refine AW.seq ?_
  refine AW.reg ?_
  refine SeqK.r (b_box (r := [_, _]) rfl rfl rfl rfl rfl rfl) rfl ?_
  refine SeqK.r (b_alloc (r := [_, _]) rfl rfl Fx.ze61 rfl rfl rfl rfl) rfl ?_
  refine SeqK.nil ?_
  refine AW.seq ?_
  refine AW.reg ?_
  refine SeqK.newMap (.int .i64) rfl rfl rfl rfl (fun k9 hk9 => ?_)
  refine SeqK.q (q_asC rfl rfl) rfl rfl rfl ?_
  refine SeqK.nil ?_
  refine AW.seq ?_
  refine AW.seq ?_
  refine AW.reg ?_
  refine SeqK.q (q_fieldL _ rfl Fx.fl42_1 rfl rfl) rfl rfl rfl ?_
  refine SeqK.r (b_load (r := .a _) rfl Fx.ty40 rfl rfl rfl rfl rfl rfl) rfl ?_
  refine SeqK.q (q_len rfl Fx.un40 rfl) rfl rfl rfl ?_
  refine SeqK.q (q_mvC rfl rfl) rfl rfl rfl ?_
  refine SeqK.nil ?_
  refine AW.block ?_
  refine AW.unroll ?_
  refine AW.seq ?_
  refine AW.reg ?_
  refine SeqK.q (q_lss rfl rfl rfl) rfl rfl rfl ?_
  refine SeqK.nil ?_
  refine AW.seq ?_
  refine AW.condT rfl ?_
  refine AW.skip ?_
  refine AW.seq ?_
  refine AW.block ?_
  refine AW.seq ?_
  refine AW.reg ?_
  refine SeqK.q (q_index _ rfl Fx.sl40 rfl rfl (by omega) (rfl)) rfl rfl rfl ?_
  refine SeqK.q (q_load (.g [_, _, _, _, _]) rfl Fx.ty39 rfl rfl rfl) rfl rfl rfl ?_
  refine SeqK.r (b_alloc (r := [_, _, _, _, _]) rfl rfl Fx.ze39 rfl rfl rfl rfl) rfl ?_
  refine SeqK.r (b_store (r := [_, _, _, _, _]) rfl rfl Fx.ty39 rfl rfl rfl rfl rfl rfl) rfl ?_
  refine SeqK.nil ?_
  refine AW.seq ?_
  refine AW.reg ?_
  refine SeqK.q (q_fieldL _ rfl Fx.fl39_2 rfl rfl) rfl rfl rfl ?_
  refine SeqK.r (b_load (r := .a _) rfl Fx.ty3 rfl rfl rfl rfl rfl rfl) rfl ?_
  refine SeqK.q (q_asC rfl rfl) rfl rfl rfl ?_
  refine SeqK.nil ?_
  refine AW.seq ?_
  refine AW.seq ?_
  refine AW.reg ?_
  refine SeqK.q (q_fieldL _ rfl Fx.fl39_1 rfl rfl) rfl rfl rfl ?_
  refine SeqK.r (b_load (r := .a _) rfl Fx.ty3 rfl rfl rfl rfl rfl rfl) rfl ?_
  refine SeqK.nil ?_
  refine AW.block ?_
  refine AW.seq ?_
  refine AW.reg ?_
  refine SeqK.q (q_eql rfl rfl rfl) rfl rfl rfl ?_
  refine SeqK.q (q_asC rfl rfl) rfl rfl rfl ?_
  refine SeqK.nil ?_
  refine AW.condF rfl ?_
  refine AW.seq ?_
  refine AW.reg ?_
  refine SeqK.q (q_eql rfl rfl rfl) rfl rfl rfl ?_
  refine SeqK.q (q_asC rfl rfl) rfl rfl rfl ?_
  refine SeqK.nil ?_
  refine AW.condF rfl ?_
  refine AW.skip ?_
  refine AW.reg ?_
  refine SeqK.q (q_mvC rfl rfl) rfl rfl rfl ?_
  refine SeqK.q (q_mvC rfl rfl) rfl rfl rfl ?_
  refine SeqK.r (g_lookup (r := .c (.a _)) (.int Fx.un3) rfl Fx.un157 Fx.ze2 rfl (by (repeat rw [upd_ne _ _ (by first | assumption | exact Ne.symm (by assumption))]); first | assumption | exact upd_same _ _ _) rfl rfl (rfl) rfl rfl rfl) rfl ?_
  refine SeqK.q (q_fieldL _ rfl Fx.fl39_0 rfl rfl) rfl rfl rfl ?_
  refine SeqK.r (b_load (r := .a _) rfl Fx.ty2 rfl rfl rfl rfl rfl rfl) rfl ?_
  refine SeqK.q (q_add _ rfl rfl rfl (w64 (by omega) (by omega))) rfl rfl rfl ?_
  refine SeqK.r (g_mapUpdate (.int Fx.un3) rfl rfl Fx.un157 rfl (by (repeat rw [upd_ne _ _ (by first | assumption | exact Ne.symm (by assumption))]); first | assumption | exact upd_same _ _ _) rfl rfl rfl) rfl ?_
  refine SeqK.nil ?_
  refine AW.reg ?_
  refine SeqK.q (q_add _ rfl rfl rfl (w64 (by omega) (by omega))) rfl rfl rfl ?_
  refine SeqK.q (q_mvC rfl rfl) rfl rfl rfl ?_
  refine SeqK.nil ?_
  first | with_reducible refine LoopW.again ?_ | with_reducible refine eth_n (LoopW.again ?_) | with_reducible refine eb_n (eth_n (LoopW.again ?_)) | with_reducible refine eth_n (eb_n (eth_n (LoopW.again ?_)))
  refine AW.seq ?_
  refine AW.reg ?_
  refine SeqK.q (q_lss rfl rfl rfl) rfl rfl rfl ?_
  refine SeqK.nil ?_
  refine AW.seq ?_
  refine AW.condF rfl ?_
  refine AW.exit ?_
  refine eth_e ?_
  refine eth_e ?_
  refine exit_here ?_
  refine AW.seq ?_
  refine AW.draw Fx.mo ?_
  refine LexK.q (q_fieldL _ rfl Fx.fl42_0 rfl rfl) rfl rfl rfl ?_
  refine LexK.r (b_load (r := .a _) rfl Fx.ty2 rfl rfl rfl rfl rfl rfl) rfl ?_
  refine LexK.q (q_mvC rfl rfl) rfl rfl rfl ?_
  refine LexK.r (g_call rfl Fx.fn86 rfl (coefs_c _ k9 0 1 (by exact upd_same _ _ _) (by decide)) rfl rfl rfl) rfl ?_
  refine LexK.q (q_build2 (zs := [_, _]) (r := [_, _]) [(0, 1), (1, 1)] _ rfl Fx.ze61 rfl Fx.bp61 rfl rfl rfl rfl) rfl rfl rfl ?_
  refine LexK.r (b_store (r := [_, _]) rfl rfl Fx.ty61 rfl rfl rfl rfl rfl rfl) rfl ?_
  refine LexK.nil (by kernel_rfl) ?_
  refine AW.ret ?_
  exact fin_x (x := .c _) (H) (.cellL rfl rfl Fx.ty61 rfl rfl .nil) rfl (fun j o h => by
    show upd (upd H k9 _) k9 _ j = _
    rw [upd_upd]; exact upd_sub hk9 j o h) (⟨rfl, rfl⟩)

set_option maxHeartbeats 4000000 in
set_option maxRecDepth 20000 in
theorem add_f (H : Heap) (k : Nat) (hk : H k = some (.box bl0)) : E.Spec Tryz.prog 51 [.a (.bp k 0), .g (ltA false)] H fun x H' => x = .tup [] ∧ H' = upd H k (some (.box (bl1 false))) := by
  refine Spec.enter Tryz.func51 rfl ?_
  refine AW.wk (Wk.keep 208 [(0, .c (.a (.bp k 0))), (1, .c (.g (ltA false)))] [] (H) rfl ⟨rfl, rfl, trivial⟩ trivial (fun _ _ h => h) rfl) ?_
  refine AW.seq ?_
  refine AW.reg ?_
  refine SeqK.r (b_box (r := [_, _, _, _, _, _, _, _, _, _]) rfl rfl rfl rfl rfl rfl) rfl ?_
  refine SeqK.nil ?_
  refine AW.seq ?_
  refine AW.seq ?_
  refine AW.reg ?_
  refine SeqK.q (q_fieldL _ rfl Fx.fl119_0 rfl rfl) rfl rfl rfl ?_
  refine SeqK.q (q_fieldL _ rfl Fx.fl46_0 rfl rfl) rfl rfl rfl ?_
  refine SeqK.r (b_load (r := .a _) rfl Fx.ty3 rfl rfl rfl rfl rfl rfl) rfl ?_
  refine SeqK.nil ?_
  refine AW.block ?_
  refine AW.seq ?_
  refine AW.reg ?_
  refine SeqK.q (q_eql rfl rfl rfl) rfl rfl rfl ?_
  refine SeqK.q (q_asC rfl rfl) rfl rfl rfl ?_
  refine SeqK.nil ?_
  refine AW.condF rfl ?_
  refine AW.seq ?_
  refine AW.seq ?_
  refine AW.reg ?_
  refine SeqK.q (q_eql rfl rfl rfl) rfl rfl rfl ?_
  refine SeqK.q (q_asC rfl rfl) rfl rfl rfl ?_
  refine SeqK.nil ?_
  refine AW.condF rfl ?_
  refine AW.seq ?_
  refine AW.reg ?_
  refine SeqK.q (q_eql rfl rfl rfl) rfl rfl rfl ?_
  refine SeqK.q (q_asC rfl rfl) rfl rfl rfl ?_
  refine SeqK.nil ?_
  refine AW.condF rfl ?_
  refine AW.reg ?_
  refine SeqK.q (q_eql rfl rfl rfl) rfl rfl rfl ?_
  refine SeqK.q (q_asC rfl rfl) rfl rfl rfl ?_
  refine SeqK.nil ?_
  refine AW.condT rfl ?_
  refine AW.seq ?_
  refine AW.draw Fx.mo ?_
  refine LexK.q (q_mvC rfl rfl) rfl rfl rfl ?_
  refine LexK.q (q_mvC rfl rfl) rfl rfl rfl ?_
  refine LexK.q (q_nilH rfl rfl) rfl rfl rfl ?_
  refine LexK.q (q_fieldH _ rfl Fx.fl123_1 rfl rfl) rfl rfl rfl ?_
  refine LexK.q (q_fieldH _ rfl Fx.fl28_1 rfl rfl) rfl rfl rfl ?_
  refine LexK.r (g_load (r := .a _) rfl Fx.ty22 rfl (by (repeat rw [upd_ne _ _ (by first | assumption | exact Ne.symm (by assumption))]); first | assumption | exact upd_same _ _ _) rfl rfl rfl rfl) rfl ?_
  refine LexK.q (q_fieldL _ rfl Fx.fl119_0 rfl rfl) rfl rfl rfl ?_
  refine LexK.q (q_fieldL _ rfl Fx.fl46_3 rfl rfl) rfl rfl rfl ?_
  refine LexK.r (b_load (r := .g [_, _]) rfl Fx.ty42 rfl rfl rfl rfl rfl rfl) rfl ?_
  refine LexK.q (q_call _ rfl Fx.fn69 rfl (variables_c) rfl) rfl rfl rfl ?_
  refine LexK.q (q_appNil rfl Fx.el22 rfl rfl (by simp)) rfl rfl rfl ?_
  refine LexK.q (q_nilH rfl rfl) rfl rfl rfl ?_
  refine LexK.q (q_fieldH _ rfl Fx.fl123_1 rfl rfl) rfl rfl rfl ?_
  refine LexK.q (q_fieldH _ rfl Fx.fl28_1 rfl rfl) rfl rfl rfl ?_
  refine LexK.r (g_store rfl rfl Fx.ty22 rfl rfl (by (repeat rw [upd_ne _ _ (by first | assumption | exact Ne.symm (by assumption))]); first | assumption | exact upd_same _ _ _) rfl rfl rfl) rfl ?_
  refine LexK.nil (by kernel_rfl) ?_
  refine AW.seq ?_
  refine AW.reg ?_
  refine SeqK.q (q_mvC rfl rfl) rfl rfl rfl ?_
  refine SeqK.q (q_fieldL _ rfl Fx.fl119_0 rfl rfl) rfl rfl rfl ?_
  refine SeqK.q (q_fieldL _ rfl Fx.fl46_3 rfl rfl) rfl rfl rfl ?_
  refine SeqK.r (b_load (r := .g [_, _]) rfl Fx.ty42 rfl rfl rfl rfl rfl rfl) rfl ?_
  refine SeqK.q (q_call _ rfl Fx.fn70 rfl (form_c _) rfl) rfl rfl rfl ?_
  refine SeqK.r (b_alloc (r := [_, _]) rfl rfl Fx.ze61 rfl rfl rfl rfl) rfl ?_
  refine SeqK.r (b_store (r := [_, _]) rfl rfl Fx.ty61 rfl rfl rfl rfl rfl rfl) rfl ?_
  refine SeqK.nil ?_
  refine AW.seq ?_
  refine AW.seq ?_
  refine AW.reg ?_
  refine SeqK.q (q_fieldL _ rfl Fx.fl119_0 rfl rfl) rfl rfl rfl ?_
  refine SeqK.q (q_fieldL _ rfl Fx.fl46_0 rfl rfl) rfl rfl rfl ?_
  refine SeqK.r (b_load (r := .a _) rfl Fx.ty3 rfl rfl rfl rfl rfl rfl) rfl ?_
  refine SeqK.nil ?_
  refine AW.block ?_
  refine AW.seq ?_
  refine AW.reg ?_
  refine SeqK.q (q_eql rfl rfl rfl) rfl rfl rfl ?_
  refine SeqK.q (q_asC rfl rfl) rfl rfl rfl ?_
  refine SeqK.nil ?_
  refine AW.condF rfl ?_
  refine AW.seq ?_
  refine AW.reg ?_
  refine SeqK.q (q_eql rfl rfl rfl) rfl rfl rfl ?_
  refine SeqK.q (q_asC rfl rfl) rfl rfl rfl ?_
  refine SeqK.nil ?_
  refine AW.condT rfl ?_
  refine AW.seq ?_
  refine AW.seq ?_
  refine AW.reg ?_
  refine SeqK.q (q_fieldL _ rfl Fx.fl119_1 rfl rfl) rfl rfl rfl ?_
  refine SeqK.r (b_load (r := .a _) rfl Fx.ty4 rfl rfl rfl rfl rfl rfl) rfl ?_
  refine SeqK.nil ?_
  refine AW.condF rfl ?_
  refine AW.skip ?_
  refine AW.seq ?_
  refine AW.reg ?_
  refine SeqK.q (q_fieldL _ rfl Fx.fl61_0 rfl rfl) rfl rfl rfl ?_
  refine SeqK.r (b_load (r := .a _) rfl Fx.ty2 rfl rfl rfl rfl rfl rfl) rfl ?_
  refine SeqK.q (q_add _ rfl rfl rfl (w64 (by omega) (by omega))) rfl rfl rfl ?_
  refine SeqK.q (q_fieldL _ rfl Fx.fl61_0 rfl rfl) rfl rfl rfl ?_
  refine SeqK.r (b_store (r := [_, _]) rfl rfl Fx.ty2 rfl rfl rfl rfl rfl rfl) rfl ?_
  refine SeqK.nil ?_
  refine AW.draw Fx.mo ?_
  refine LexK.q (q_mvC rfl rfl) rfl rfl rfl ?_
  refine LexK.q (q_mvC rfl rfl) rfl rfl rfl ?_
  refine LexK.q (q_nilH rfl rfl) rfl rfl rfl ?_
  refine LexK.q (q_fieldH _ rfl Fx.fl123_1 rfl rfl) rfl rfl rfl ?_
  refine LexK.q (q_fieldH _ rfl Fx.fl28_3 rfl rfl) rfl rfl rfl ?_
  refine LexK.r (g_load (r := .a _) rfl Fx.ty24 rfl (by (repeat rw [upd_ne _ _ (by first | assumption | exact Ne.symm (by assumption))]); first | assumption | exact upd_same _ _ _) rfl rfl rfl rfl) rfl ?_
  refine LexK.r (b_load (r := .g [_, _]) rfl Fx.ty61 rfl rfl rfl rfl rfl rfl) rfl ?_
  refine LexK.q (q_build2 (zs := [_, _, _]) (r := [_, _, _]) [(0, 2), (2, 1)] _ rfl Fx.ze65 rfl Fx.bp65 rfl rfl rfl rfl) rfl rfl rfl ?_
  refine LexK.q (q_buildSlice _ rfl Fx.el24 rfl (by decide) rfl) rfl rfl rfl ?_
  refine LexK.q (q_appNil rfl Fx.el24 rfl rfl (by simp)) rfl rfl rfl ?_
  refine LexK.q (q_nilH rfl rfl) rfl rfl rfl ?_
  refine LexK.q (q_fieldH _ rfl Fx.fl123_1 rfl rfl) rfl rfl rfl ?_
  refine LexK.q (q_fieldH _ rfl Fx.fl28_3 rfl rfl) rfl rfl rfl ?_
  refine LexK.r (g_store rfl rfl Fx.ty24 rfl rfl (by (repeat rw [upd_ne _ _ (by first | assumption | exact Ne.symm (by assumption))]); first | assumption | exact upd_same _ _ _) rfl rfl rfl) rfl ?_
  refine LexK.nil (by kernel_rfl) ?_
  refine AW.ret ?_
  exact fin_x (x := .tup []) (_) .nil rfl (fun _ _ h => h) (⟨rfl, by
    show upd (upd H k _) k _ = _
    rw [upd_upd]; rfl⟩)

set_option maxHeartbeats 4000000 in
set_option maxRecDepth 20000 in
theorem add_t (H : Heap) (k : Nat) (hk : H k = some (.box bl0)) : E.Spec Tryz.prog 51 [.a (.bp k 0), .g (ltA true)] H fun x H' => x = .tup [] ∧ H' = upd H k (some (.box (bl1 true))) := by
  refine Spec.enter Tryz.func51 rfl ?_
  refine AW.wk (Wk.keep 208 [(0, .c (.a (.bp k 0))), (1, .c (.g (ltA true)))] [] (H) rfl ⟨rfl, rfl, trivial⟩ trivial (fun _ _ h => h) rfl) ?_
  refine AW.seq ?_
  refine AW.reg ?_
  refine SeqK.r (b_box (r := [_, _, _, _, _, _, _, _, _, _]) rfl rfl rfl rfl rfl rfl) rfl ?_
  refine SeqK.nil ?_
  refine AW.seq ?_
  refine AW.seq ?_
  refine AW.reg ?_
  refine SeqK.q (q_fieldL _ rfl Fx.fl119_0 rfl rfl) rfl rfl rfl ?_
  refine SeqK.q (q_fieldL _ rfl Fx.fl46_0 rfl rfl) rfl rfl rfl ?_
  refine SeqK.r (b_load (r := .a _) rfl Fx.ty3 rfl rfl rfl rfl rfl rfl) rfl ?_
  refine SeqK.nil ?_
  refine AW.block ?_
  refine AW.seq ?_
  refine AW.reg ?_
  refine SeqK.q (q_eql rfl rfl rfl) rfl rfl rfl ?_
  refine SeqK.q (q_asC rfl rfl) rfl rfl rfl ?_
  refine SeqK.nil ?_
  refine AW.condF rfl ?_
  refine AW.seq ?_
  refine AW.seq ?_
  refine AW.reg ?_
  refine SeqK.q (q_eql rfl rfl rfl) rfl rfl rfl ?_
  refine SeqK.q (q_asC rfl rfl) rfl rfl rfl ?_
  refine SeqK.nil ?_
  refine AW.condF rfl ?_
  refine AW.seq ?_
  refine AW.reg ?_
  refine SeqK.q (q_eql rfl rfl rfl) rfl rfl rfl ?_
  refine SeqK.q (q_asC rfl rfl) rfl rfl rfl ?_
  refine SeqK.nil ?_
  refine AW.condF rfl ?_
  refine AW.reg ?_
  refine SeqK.q (q_eql rfl rfl rfl) rfl rfl rfl ?_
  refine SeqK.q (q_asC rfl rfl) rfl rfl rfl ?_
  refine SeqK.nil ?_
  refine AW.condT rfl ?_
  refine AW.seq ?_
  refine AW.draw Fx.mo ?_
  refine LexK.q (q_mvC rfl rfl) rfl rfl rfl ?_
  refine LexK.q (q_mvC rfl rfl) rfl rfl rfl ?_
  refine LexK.q (q_nilH rfl rfl) rfl rfl rfl ?_
  refine LexK.q (q_fieldH _ rfl Fx.fl123_1 rfl rfl) rfl rfl rfl ?_
  refine LexK.q (q_fieldH _ rfl Fx.fl28_1 rfl rfl) rfl rfl rfl ?_
  refine LexK.r (g_load (r := .a _) rfl Fx.ty22 rfl (by (repeat rw [upd_ne _ _ (by first | assumption | exact Ne.symm (by assumption))]); first | assumption | exact upd_same _ _ _) rfl rfl rfl rfl) rfl ?_
  refine LexK.q (q_fieldL _ rfl Fx.fl119_0 rfl rfl) rfl rfl rfl ?_
  refine LexK.q (q_fieldL _ rfl Fx.fl46_3 rfl rfl) rfl rfl rfl ?_
  refine LexK.r (b_load (r := .g [_, _]) rfl Fx.ty42 rfl rfl rfl rfl rfl rfl) rfl ?_
  refine LexK.q (q_call _ rfl Fx.fn69 rfl (variables_c) rfl) rfl rfl rfl ?_
  refine LexK.q (q_appNil rfl Fx.el22 rfl rfl (by simp)) rfl rfl rfl ?_
  refine LexK.q (q_nilH rfl rfl) rfl rfl rfl ?_
  refine LexK.q (q_fieldH _ rfl Fx.fl123_1 rfl rfl) rfl rfl rfl ?_
  refine LexK.q (q_fieldH _ rfl Fx.fl28_1 rfl rfl) rfl rfl rfl ?_
  refine LexK.r (g_store rfl rfl Fx.ty22 rfl rfl (by (repeat rw [upd_ne _ _ (by first | assumption | exact Ne.symm (by assumption))]); first | assumption | exact upd_same _ _ _) rfl rfl rfl) rfl ?_
  refine LexK.nil (by kernel_rfl) ?_
  refine AW.seq ?_
  refine AW.reg ?_
  refine SeqK.q (q_mvC rfl rfl) rfl rfl rfl ?_
  refine SeqK.q (q_fieldL _ rfl Fx.fl119_0 rfl rfl) rfl rfl rfl ?_
  refine SeqK.q (q_fieldL _ rfl Fx.fl46_3 rfl rfl) rfl rfl rfl ?_
  refine SeqK.r (b_load (r := .g [_, _]) rfl Fx.ty42 rfl rfl rfl rfl rfl rfl) rfl ?_
  refine SeqK.q (q_call _ rfl Fx.fn70 rfl (form_c _) rfl) rfl rfl rfl ?_
  refine SeqK.r (b_alloc (r := [_, _]) rfl rfl Fx.ze61 rfl rfl rfl rfl) rfl ?_
  refine SeqK.r (b_store (r := [_, _]) rfl rfl Fx.ty61 rfl rfl rfl rfl rfl rfl) rfl ?_
  refine SeqK.nil ?_
  refine AW.seq ?_
  refine AW.seq ?_
  refine AW.reg ?_
  refine SeqK.q (q_fieldL _ rfl Fx.fl119_0 rfl rfl) rfl rfl rfl ?_
  refine SeqK.q (q_fieldL _ rfl Fx.fl46_0 rfl rfl) rfl rfl rfl ?_
  refine SeqK.r (b_load (r := .a _) rfl Fx.ty3 rfl rfl rfl rfl rfl rfl) rfl ?_
  refine SeqK.nil ?_
  refine AW.block ?_
  refine AW.seq ?_
  refine AW.reg ?_
  refine SeqK.q (q_eql rfl rfl rfl) rfl rfl rfl ?_
  refine SeqK.q (q_asC rfl rfl) rfl rfl rfl ?_
  refine SeqK.nil ?_
  refine AW.condF rfl ?_
  refine AW.seq ?_
  refine AW.reg ?_
  refine SeqK.q (q_eql rfl rfl rfl) rfl rfl rfl ?_
  refine SeqK.q (q_asC rfl rfl) rfl rfl rfl ?_
  refine SeqK.nil ?_
  refine AW.condT rfl ?_
  refine AW.seq ?_
  refine AW.seq ?_
  refine AW.reg ?_
  refine SeqK.q (q_fieldL _ rfl Fx.fl119_1 rfl rfl) rfl rfl rfl ?_
  refine SeqK.r (b_load (r := .a _) rfl Fx.ty4 rfl rfl rfl rfl rfl rfl) rfl ?_
  refine SeqK.nil ?_
  refine AW.condT rfl ?_
  refine AW.reg ?_
  refine SeqK.r (b_load (r := .g [_, _]) rfl Fx.ty61 rfl rfl rfl rfl rfl rfl) rfl ?_
  refine SeqK.q (q_call _ rfl Fx.fn71 rfl (negative_c) rfl) rfl rfl rfl ?_
  refine SeqK.r (b_store (r := [_, _]) rfl rfl Fx.ty61 rfl rfl rfl rfl rfl rfl) rfl ?_
  refine SeqK.nil ?_
  refine AW.seq ?_
  refine AW.reg ?_
  refine SeqK.q (q_fieldL _ rfl Fx.fl61_0 rfl rfl) rfl rfl rfl ?_
  refine SeqK.r (b_load (r := .a _) rfl Fx.ty2 rfl rfl rfl rfl rfl rfl) rfl ?_
  refine SeqK.q (q_add _ rfl rfl rfl (w64 (by omega) (by omega))) rfl rfl rfl ?_
  refine SeqK.q (q_fieldL _ rfl Fx.fl61_0 rfl rfl) rfl rfl rfl ?_
  refine SeqK.r (b_store (r := [_, _]) rfl rfl Fx.ty2 rfl rfl rfl rfl rfl rfl) rfl ?_
  refine SeqK.nil ?_
  refine AW.draw Fx.mo ?_
  refine LexK.q (q_mvC rfl rfl) rfl rfl rfl ?_
  refine LexK.q (q_mvC rfl rfl) rfl rfl rfl ?_
  refine LexK.q (q_nilH rfl rfl) rfl rfl rfl ?_
  refine LexK.q (q_fieldH _ rfl Fx.fl123_1 rfl rfl) rfl rfl rfl ?_
  refine LexK.q (q_fieldH _ rfl Fx.fl28_3 rfl rfl) rfl rfl rfl ?_
  refine LexK.r (g_load (r := .a _) rfl Fx.ty24 rfl (by (repeat rw [upd_ne _ _ (by first | assumption | exact Ne.symm (by assumption))]); first | assumption | exact upd_same _ _ _) rfl rfl rfl rfl) rfl ?_
  refine LexK.r (b_load (r := .g [_, _]) rfl Fx.ty61 rfl rfl rfl rfl rfl rfl) rfl ?_
  refine LexK.q (q_build2 (zs := [_, _, _]) (r := [_, _, _]) [(0, 2), (2, 1)] _ rfl Fx.ze65 rfl Fx.bp65 rfl rfl rfl rfl) rfl rfl rfl ?_
  refine LexK.q (q_buildSlice _ rfl Fx.el24 rfl (by decide) rfl) rfl rfl rfl ?_
  refine LexK.q (q_appNil rfl Fx.el24 rfl rfl (by simp)) rfl rfl rfl ?_
  refine LexK.q (q_nilH rfl rfl) rfl rfl rfl ?_
  refine LexK.q (q_fieldH _ rfl Fx.fl123_1 rfl rfl) rfl rfl rfl ?_
  refine LexK.q (q_fieldH _ rfl Fx.fl28_3 rfl rfl) rfl rfl rfl ?_
  refine LexK.r (g_store rfl rfl Fx.ty24 rfl rfl (by (repeat rw [upd_ne _ _ (by first | assumption | exact Ne.symm (by assumption))]); first | assumption | exact upd_same _ _ _) rfl rfl rfl) rfl ?_
  refine LexK.nil (by kernel_rfl) ?_
  refine AW.ret ?_
  exact fin_x (x := .tup []) (_) .nil rfl (fun _ _ h => h) (⟨rfl, by
    show upd (upd H k _) k _ = _
    rw [upd_upd]; rfl⟩)

end Go.Proofs.YtnmfjojhgfipcaaGreatDoor.W
namespace Go.Proofs.YtnmfjojhgfipcaaGreatDoor.W
open Go.RowKit E
set_option linter.unusedVariables false
set_option linter.unusedSimpArgs false
set_option linter.unusedSectionVars false

set_option maxHeartbeats 4000000 in
set_option maxRecDepth 20000 in
theorem build_f0  : Pure Tryz.prog 32 [.a (.t (.sl .nn 10 [ltT false])), iC 1] (.c (.g [.t (.sl .un 1 []), .t (.sl .un 1 [i64T 0]), nilA, .t (.sl .ne 3 [[.v (.int .i64 (if false then 4 else -2)), .sl .un 2 [[.v (.int .i64 0), .v (.int .i64 (if false then -1 else 1))]], .v (.bool false)]]), nilA, nilA, nilA])) := by
  intro H
  refine Spec.enter Tryz.func32 rfl ?_
  refine AW.wk (Wk.keep 45 [(0, .c (.a (.t (.sl .nn 10 [ltT false])))), (1, .c (iC 1))] [] (H) rfl ⟨rfl, rfl, trivial⟩ trivial (fun _ _ h => h) rfl) ?_
  refine AW.seq ?_
  refine AW.reg ?_
  refine SeqK.r (b_alloc (r := [_, _, _, _, _, _, _]) rfl rfl Fx.ze28 rfl rfl rfl rfl) rfl ?_
  refine SeqK.nil ?_
  refine AW.seq ?_
  refine AW.reg ?_
  refine SeqK.q (q_mvC rfl rfl) rfl rfl rfl ?_
  refine SeqK.q (q_build2 (zs := [_, _, _, _, _, _, _, _]) (r := [_, _, _, _, _, _, _, _]) [(0, 1), (1, 7)] _ rfl Fx.ze123 rfl Fx.bp123 rfl rfl rfl rfl) rfl rfl rfl ?_
  refine SeqK.newBox (r := [_, _, _, _, _, _, _, _]) rfl rfl rfl rfl rfl rfl (fun k10 hk10 => ?_)
  refine SeqK.q (q_asC rfl rfl) rfl rfl rfl ?_
  refine SeqK.nil ?_
  refine AW.seq ?_
  refine AW.seq ?_
  refine AW.reg ?_
  refine SeqK.q (q_mvC rfl rfl) rfl rfl rfl ?_
  refine SeqK.q (q_len rfl Fx.un87 rfl) rfl rfl rfl ?_
  refine SeqK.q (q_mvC rfl rfl) rfl rfl rfl ?_
  refine SeqK.nil ?_
  refine AW.block ?_
  refine AW.unroll ?_
  refine AW.seq ?_
  refine AW.reg ?_
  refine SeqK.q (q_lss rfl rfl rfl) rfl rfl rfl ?_
  refine SeqK.nil ?_
  refine AW.seq ?_
  refine AW.condT rfl ?_
  refine AW.skip ?_
  refine AW.seq ?_
  refine AW.block ?_
  refine AW.seq ?_
  refine AW.reg ?_
  refine SeqK.q (q_index _ rfl Fx.sl87 rfl rfl (by omega) (rfl)) rfl rfl rfl ?_
  refine SeqK.q (q_load (.g [_, _, _, _, _, _, _, _, _, _]) rfl Fx.ty119 rfl rfl rfl) rfl rfl rfl ?_
  refine SeqK.r (b_alloc (r := [_, _, _, _, _, _, _, _, _, _]) rfl rfl Fx.ze119 rfl rfl rfl rfl) rfl ?_
  refine SeqK.r (b_store (r := [_, _, _, _, _, _, _, _, _, _]) rfl rfl Fx.ty119 rfl rfl rfl rfl rfl rfl) rfl ?_
  refine SeqK.nil ?_
  refine AW.reg ?_
  refine SeqK.q (q_mvC rfl rfl) rfl rfl rfl ?_
  refine SeqK.r (b_load (r := .g [_, _, _, _, _, _, _, _, _, _]) rfl Fx.ty119 rfl rfl rfl rfl rfl rfl) rfl ?_
  refine SeqK.callE rfl rfl rfl rfl Fx.fn51 rfl (add_f _ k10 (upd_same _ _ _)) (fun _ _ h => by rw [h.1]; rfl) (fun x19 H19 q19 => ?_)
  obtain ⟨rfl, hHs⟩ := q19
  rw [upd_upd] at hHs
  subst hHs
  refine SeqK.nil ?_
  refine AW.reg ?_
  refine SeqK.q (q_add _ rfl rfl rfl (w64 (by omega) (by omega))) rfl rfl rfl ?_
  refine SeqK.q (q_mvC rfl rfl) rfl rfl rfl ?_
  refine SeqK.nil ?_
  first | with_reducible refine LoopW.again ?_ | with_reducible refine eth_n (LoopW.again ?_) | with_reducible refine eb_n (eth_n (LoopW.again ?_)) | with_reducible refine eth_n (eb_n (eth_n (LoopW.again ?_)))
  refine AW.seq ?_
  refine AW.reg ?_
  refine SeqK.q (q_lss rfl rfl rfl) rfl rfl rfl ?_
  refine SeqK.nil ?_
  refine AW.seq ?_
  refine AW.condF rfl ?_
  refine AW.exit ?_
  refine eth_e ?_
  refine eth_e ?_
  refine exit_here ?_
  refine AW.seq ?_
  refine AW.draw Fx.mo ?_
  refine LexK.q (q_mvC rfl rfl) rfl rfl rfl ?_
  refine LexK.q (q_mvC rfl rfl) rfl rfl rfl ?_
  refine LexK.q (q_mvC rfl rfl) rfl rfl rfl ?_
  refine LexK.q (q_nilH rfl rfl) rfl rfl rfl ?_
  refine LexK.q (q_fieldH _ rfl Fx.fl123_1 rfl rfl) rfl rfl rfl ?_
  refine LexK.q (q_fieldH _ rfl Fx.fl28_0 rfl rfl) rfl rfl rfl ?_
  refine LexK.r (g_load (r := .a _) rfl Fx.ty22 rfl (by (repeat rw [upd_ne _ _ (by first | assumption | exact Ne.symm (by assumption))]); first | assumption | exact upd_same _ _ _) rfl rfl rfl rfl) rfl ?_
  refine LexK.q (q_call _ rfl Fx.fn52 rfl (Pure.arg [] XW.nilU (sorted_0 .un)) rfl) rfl rfl rfl ?_
  refine LexK.q (q_mvC rfl rfl) rfl rfl rfl ?_
  refine LexK.q (q_nilH rfl rfl) rfl rfl rfl ?_
  refine LexK.q (q_fieldH _ rfl Fx.fl123_1 rfl rfl) rfl rfl rfl ?_
  refine LexK.q (q_fieldH _ rfl Fx.fl28_1 rfl rfl) rfl rfl rfl ?_
  refine LexK.r (g_load (r := .a _) rfl Fx.ty22 rfl (by (repeat rw [upd_ne _ _ (by first | assumption | exact Ne.symm (by assumption))]); first | assumption | exact upd_same _ _ _) rfl rfl rfl rfl) rfl ?_
  refine LexK.q (q_call _ rfl Fx.fn52 rfl ((sorted_1 .ne _).res XW.un) rfl) rfl rfl rfl ?_
  refine LexK.q (q_nilH rfl rfl) rfl rfl rfl ?_
  refine LexK.q (q_fieldH _ rfl Fx.fl123_1 rfl rfl) rfl rfl rfl ?_
  refine LexK.q (q_fieldH _ rfl Fx.fl28_0 rfl rfl) rfl rfl rfl ?_
  refine LexK.r (g_store rfl rfl Fx.ty22 rfl rfl (by (repeat rw [upd_ne _ _ (by first | assumption | exact Ne.symm (by assumption))]); first | assumption | exact upd_same _ _ _) rfl rfl rfl) rfl ?_
  refine LexK.q (q_nilH rfl rfl) rfl rfl rfl ?_
  refine LexK.q (q_fieldH _ rfl Fx.fl123_1 rfl rfl) rfl rfl rfl ?_
  refine LexK.q (q_fieldH _ rfl Fx.fl28_1 rfl rfl) rfl rfl rfl ?_
  refine LexK.r (g_store rfl rfl Fx.ty22 rfl rfl (by (repeat rw [upd_ne _ _ (by first | assumption | exact Ne.symm (by assumption))]); first | assumption | exact upd_same _ _ _) rfl rfl rfl) rfl ?_
  refine LexK.nil (by kernel_rfl) ?_
  refine AW.seq ?_
  refine AW.reg ?_
  refine SeqK.q (q_mvC rfl rfl) rfl rfl rfl ?_
  refine SeqK.q (q_nilH rfl rfl) rfl rfl rfl ?_
  refine SeqK.q (q_fieldH _ rfl Fx.fl123_1 rfl rfl) rfl rfl rfl ?_
  refine SeqK.r (g_load (r := .g [_, _, _, _, _, _, _]) rfl Fx.ty28 rfl (by (repeat rw [upd_ne _ _ (by first | assumption | exact Ne.symm (by assumption))]); first | assumption | exact upd_same _ _ _) rfl rfl rfl rfl) rfl ?_
  refine SeqK.r (b_store (r := [_, _, _, _, _, _, _]) rfl rfl Fx.ty28 rfl rfl rfl rfl rfl rfl) rfl ?_
  refine SeqK.nil ?_
  refine AW.ret ?_
  exact fin_x (x := .c _) (H) (.cellL rfl rfl Fx.ty28 rfl rfl .nil) rfl (fun j o h => by
    show upd (upd (upd H k10 _) k10 _) k10 _ j = _
    rw [upd_upd, upd_upd]; exact upd_sub hk10 j o h) (⟨rfl, rfl⟩)

set_option maxHeartbeats 4000000 in
set_option maxRecDepth 20000 in
theorem build_t0  : Pure Tryz.prog 32 [.a (.t (.sl .nn 10 [ltT true])), iC 1] (.c (.g [.t (.sl .un 1 []), .t (.sl .un 1 [i64T 0]), nilA, .t (.sl .ne 3 [[.v (.int .i64 (if true then 4 else -2)), .sl .un 2 [[.v (.int .i64 0), .v (.int .i64 (if true then -1 else 1))]], .v (.bool false)]]), nilA, nilA, nilA])) := by
  intro H
  refine Spec.enter Tryz.func32 rfl ?_
  refine AW.wk (Wk.keep 45 [(0, .c (.a (.t (.sl .nn 10 [ltT true])))), (1, .c (iC 1))] [] (H) rfl ⟨rfl, rfl, trivial⟩ trivial (fun _ _ h => h) rfl) ?_
  refine AW.seq ?_
  refine AW.reg ?_
  refine SeqK.r (b_alloc (r := [_, _, _, _, _, _, _]) rfl rfl Fx.ze28 rfl rfl rfl rfl) rfl ?_
  refine SeqK.nil ?_
  refine AW.seq ?_
  refine AW.reg ?_
  refine SeqK.q (q_mvC rfl rfl) rfl rfl rfl ?_
  refine SeqK.q (q_build2 (zs := [_, _, _, _, _, _, _, _]) (r := [_, _, _, _, _, _, _, _]) [(0, 1), (1, 7)] _ rfl Fx.ze123 rfl Fx.bp123 rfl rfl rfl rfl) rfl rfl rfl ?_
  refine SeqK.newBox (r := [_, _, _, _, _, _, _, _]) rfl rfl rfl rfl rfl rfl (fun k10 hk10 => ?_)
  refine SeqK.q (q_asC rfl rfl) rfl rfl rfl ?_
  refine SeqK.nil ?_
  refine AW.seq ?_
  refine AW.seq ?_
  refine AW.reg ?_
  refine SeqK.q (q_mvC rfl rfl) rfl rfl rfl ?_
  refine SeqK.q (q_len rfl Fx.un87 rfl) rfl rfl rfl ?_
  refine SeqK.q (q_mvC rfl rfl) rfl rfl rfl ?_
  refine SeqK.nil ?_
  refine AW.block ?_
  refine AW.unroll ?_
  refine AW.seq ?_
  refine AW.reg ?_
  refine SeqK.q (q_lss rfl rfl rfl) rfl rfl rfl ?_
  refine SeqK.nil ?_
  refine AW.seq ?_
  refine AW.condT rfl ?_
  refine AW.skip ?_
  refine AW.seq ?_
  refine AW.block ?_
  refine AW.seq ?_
  refine AW.reg ?_
  refine SeqK.q (q_index _ rfl Fx.sl87 rfl rfl (by omega) (rfl)) rfl rfl rfl ?_
  refine SeqK.q (q_load (.g [_, _, _, _, _, _, _, _, _, _]) rfl Fx.ty119 rfl rfl rfl) rfl rfl rfl ?_
  refine SeqK.r (b_alloc (r := [_, _, _, _, _, _, _, _, _, _]) rfl rfl Fx.ze119 rfl rfl rfl rfl) rfl ?_
  refine SeqK.r (b_store (r := [_, _, _, _, _, _, _, _, _, _]) rfl rfl Fx.ty119 rfl rfl rfl rfl rfl rfl) rfl ?_
  refine SeqK.nil ?_
  refine AW.reg ?_
  refine SeqK.q (q_mvC rfl rfl) rfl rfl rfl ?_
  refine SeqK.r (b_load (r := .g [_, _, _, _, _, _, _, _, _, _]) rfl Fx.ty119 rfl rfl rfl rfl rfl rfl) rfl ?_
  refine SeqK.callE rfl rfl rfl rfl Fx.fn51 rfl (add_t _ k10 (upd_same _ _ _)) (fun _ _ h => by rw [h.1]; rfl) (fun x19 H19 q19 => ?_)
  obtain ⟨rfl, hHs⟩ := q19
  rw [upd_upd] at hHs
  subst hHs
  refine SeqK.nil ?_
  refine AW.reg ?_
  refine SeqK.q (q_add _ rfl rfl rfl (w64 (by omega) (by omega))) rfl rfl rfl ?_
  refine SeqK.q (q_mvC rfl rfl) rfl rfl rfl ?_
  refine SeqK.nil ?_
  first | with_reducible refine LoopW.again ?_ | with_reducible refine eth_n (LoopW.again ?_) | with_reducible refine eb_n (eth_n (LoopW.again ?_)) | with_reducible refine eth_n (eb_n (eth_n (LoopW.again ?_)))
  refine AW.seq ?_
  refine AW.reg ?_
  refine SeqK.q (q_lss rfl rfl rfl) rfl rfl rfl ?_
  refine SeqK.nil ?_
  refine AW.seq ?_
  refine AW.condF rfl ?_
  refine AW.exit ?_
  refine eth_e ?_
  refine eth_e ?_
  refine exit_here ?_
  refine AW.seq ?_
  refine AW.draw Fx.mo ?_
  refine LexK.q (q_mvC rfl rfl) rfl rfl rfl ?_
  refine LexK.q (q_mvC rfl rfl) rfl rfl rfl ?_
  refine LexK.q (q_mvC rfl rfl) rfl rfl rfl ?_
  refine LexK.q (q_nilH rfl rfl) rfl rfl rfl ?_
  refine LexK.q (q_fieldH _ rfl Fx.fl123_1 rfl rfl) rfl rfl rfl ?_
  refine LexK.q (q_fieldH _ rfl Fx.fl28_0 rfl rfl) rfl rfl rfl ?_
  refine LexK.r (g_load (r := .a _) rfl Fx.ty22 rfl (by (repeat rw [upd_ne _ _ (by first | assumption | exact Ne.symm (by assumption))]); first | assumption | exact upd_same _ _ _) rfl rfl rfl rfl) rfl ?_
  refine LexK.q (q_call _ rfl Fx.fn52 rfl (Pure.arg [] XW.nilU (sorted_0 .un)) rfl) rfl rfl rfl ?_
  refine LexK.q (q_mvC rfl rfl) rfl rfl rfl ?_
  refine LexK.q (q_nilH rfl rfl) rfl rfl rfl ?_
  refine LexK.q (q_fieldH _ rfl Fx.fl123_1 rfl rfl) rfl rfl rfl ?_
  refine LexK.q (q_fieldH _ rfl Fx.fl28_1 rfl rfl) rfl rfl rfl ?_
  refine LexK.r (g_load (r := .a _) rfl Fx.ty22 rfl (by (repeat rw [upd_ne _ _ (by first | assumption | exact Ne.symm (by assumption))]); first | assumption | exact upd_same _ _ _) rfl rfl rfl rfl) rfl ?_
  refine LexK.q (q_call _ rfl Fx.fn52 rfl ((sorted_1 .ne _).res XW.un) rfl) rfl rfl rfl ?_
  refine LexK.q (q_nilH rfl rfl) rfl rfl rfl ?_
  refine LexK.q (q_fieldH _ rfl Fx.fl123_1 rfl rfl) rfl rfl rfl ?_
  refine LexK.q (q_fieldH _ rfl Fx.fl28_0 rfl rfl) rfl rfl rfl ?_
  refine LexK.r (g_store rfl rfl Fx.ty22 rfl rfl (by (repeat rw [upd_ne _ _ (by first | assumption | exact Ne.symm (by assumption))]); first | assumption | exact upd_same _ _ _) rfl rfl rfl) rfl ?_
  refine LexK.q (q_nilH rfl rfl) rfl rfl rfl ?_
  refine LexK.q (q_fieldH _ rfl Fx.fl123_1 rfl rfl) rfl rfl rfl ?_
  refine LexK.q (q_fieldH _ rfl Fx.fl28_1 rfl rfl) rfl rfl rfl ?_
  refine LexK.r (g_store rfl rfl Fx.ty22 rfl rfl (by (repeat rw [upd_ne _ _ (by first | assumption | exact Ne.symm (by assumption))]); first | assumption | exact upd_same _ _ _) rfl rfl rfl) rfl ?_
  refine LexK.nil (by kernel_rfl) ?_
  refine AW.seq ?_
  refine AW.reg ?_
  refine SeqK.q (q_mvC rfl rfl) rfl rfl rfl ?_
  refine SeqK.q (q_nilH rfl rfl) rfl rfl rfl ?_
  refine SeqK.q (q_fieldH _ rfl Fx.fl123_1 rfl rfl) rfl rfl rfl ?_
  refine SeqK.r (g_load (r := .g [_, _, _, _, _, _, _]) rfl Fx.ty28 rfl (by (repeat rw [upd_ne _ _ (by first | assumption | exact Ne.symm (by assumption))]); first | assumption | exact upd_same _ _ _) rfl rfl rfl rfl) rfl ?_
  refine SeqK.r (b_store (r := [_, _, _, _, _, _, _]) rfl rfl Fx.ty28 rfl rfl rfl rfl rfl rfl) rfl ?_
  refine SeqK.nil ?_
  refine AW.ret ?_
  exact fin_x (x := .c _) (H) (.cellL rfl rfl Fx.ty28 rfl rfl .nil) rfl (fun j o h => by
    show upd (upd (upd H k10 _) k10 _) k10 _ j = _
    rw [upd_upd, upd_upd]; exact upd_sub hk10 j o h) (⟨rfl, rfl⟩)

theorem build_f : Pure Tryz.prog 32 [.a (.t (.sl .nn 10 [ltT false])), iC 1] (.c (clC (clB false))) := build_f0.res (XW.g (.cons XW.reA (.cons XW.reA (.cons XW.nilU (.cons XW.un (.cons XW.nilU (.cons XW.nilU (.cons XW.nilU .nil))))))))
theorem build_t : Pure Tryz.prog 32 [.a (.t (.sl .nn 10 [ltT true])), iC 1] (.c (clC (clB true))) := build_t0.res (XW.g (.cons XW.reA (.cons XW.reA (.cons XW.nilU (.cons XW.un (.cons XW.nilU (.cons XW.nilU (.cons XW.nilU .nil))))))))

set_option maxHeartbeats 4000000 in
set_option maxRecDepth 20000 in
theorem clauses_c0  : Pure Tryz.prog 10 [.g fmA, vsC .nn vs1] (.tup [.a (.t (.sl .ne 7 [clT (clB false), clT (clB true)])), iC 0]) := by
  intro H
  refine Spec.enter Tryz.func10 rfl ?_
  refine AW.wk (Wk.keep 31 [(0, .c (.g fmA)), (1, .c (vsC .nn vs1))] [] (H) rfl ⟨rfl, rfl, trivial⟩ trivial (fun _ _ h => h) rfl) ?_
  refine AW.seq ?_
  refine AW.reg ?_
  refine SeqK.r (b_box (r := [_, _, _, _, _, _, _, _, _, _, _]) rfl rfl rfl rfl rfl rfl) rfl ?_
  refine SeqK.q (q_asC rfl rfl) rfl rfl rfl ?_
  refine SeqK.q (q_asC rfl rfl) rfl rfl rfl ?_
  refine SeqK.nil ?_
  refine AW.seq ?_
  refine AW.reg ?_
  refine SeqK.r (b_load (r := .g [_, _, _, _, _, _, _, _, _, _, _]) rfl Fx.ty49 rfl rfl rfl rfl rfl rfl) rfl ?_
  refine SeqK.q (q_mvC rfl rfl) rfl rfl rfl ?_
  refine SeqK.q (q_call _ rfl Fx.fn29 rfl (simplify_c) rfl) rfl rfl rfl ?_
  refine SeqK.r (b_store (r := [_, _, _, _, _, _, _, _, _, _, _]) rfl rfl Fx.ty49 rfl rfl rfl rfl rfl rfl) rfl ?_
  refine SeqK.nil ?_
  refine AW.seq ?_
  refine AW.seq ?_
  refine AW.reg ?_
  refine SeqK.r (b_load (r := .g [_, _, _, _, _, _, _, _, _, _, _]) rfl Fx.ty49 rfl rfl rfl rfl rfl rfl) rfl ?_
  refine SeqK.q (q_call _ rfl Fx.fn30 rfl (count_c) rfl) rfl rfl rfl ?_
  refine SeqK.q (q_gtr rfl rfl rfl) rfl rfl rfl ?_
  refine SeqK.nil ?_
  refine AW.condF rfl ?_
  refine AW.skip ?_
  refine AW.seq ?_
  refine AW.reg ?_
  refine SeqK.q (q_asC rfl rfl) rfl rfl rfl ?_
  refine SeqK.nil ?_
  refine AW.seq ?_
  refine AW.seq ?_
  refine AW.reg ?_
  refine SeqK.r (b_load (r := .g [_, _, _, _, _, _, _, _, _, _, _]) rfl Fx.ty49 rfl rfl rfl rfl rfl rfl) rfl ?_
  refine SeqK.q (q_call _ rfl Fx.fn31 rfl (expand_c) rfl) rfl rfl rfl ?_
  refine SeqK.q (q_len rfl Fx.un85 rfl) rfl rfl rfl ?_
  refine SeqK.q (q_mvC rfl rfl) rfl rfl rfl ?_
  refine SeqK.nil ?_
  refine AW.block ?_
  refine AW.tip 6 28 7 rfl (fun k0 hk0 => ?_)
  refine AW.wk (Wk.keep 31 [(1, .c (vsC .nn vs1)), (6, .c (.a (.ts k0 .ne 7 []))), (16, .c (.a (.t (.sl .nn 1 [[.sl .nn 10 [ltT false]], [.sl .nn 10 [ltT true]]])))), (17, iX .i64 2), (18, iX .i64 0)] [] (upd H k0 (some (.tip 28 7 ([] : List (List E.T)).length))) rfl ⟨rfl, rfl, rfl, rfl, rfl, trivial⟩ trivial (fun _ _ h => h) rfl) ?_
  refine AW.unroll ?_
  refine AW.seq ?_
  refine AW.reg ?_
  refine SeqK.q (q_lss rfl rfl rfl) rfl rfl rfl ?_
  refine SeqK.nil ?_
  refine AW.seq ?_
  refine AW.condT rfl ?_
  refine AW.skip ?_
  refine AW.seq ?_
  refine AW.block ?_
  refine AW.seq ?_
  refine AW.reg ?_
  refine SeqK.q (q_index _ rfl Fx.sl85 rfl rfl (by omega) (rfl)) rfl rfl rfl ?_
  refine SeqK.q (q_load (.a _) rfl Fx.ty87 rfl rfl rfl) rfl rfl rfl ?_
  refine SeqK.q (q_asC rfl rfl) rfl rfl rfl ?_
  refine SeqK.nil ?_
  refine AW.reg ?_
  refine SeqK.q (q_mvC rfl rfl) rfl rfl rfl ?_
  refine SeqK.q (q_mvC rfl rfl) rfl rfl rfl ?_
  refine SeqK.q (q_mvC rfl rfl) rfl rfl rfl ?_
  refine SeqK.q (q_len rfl Fx.un29 rfl) rfl rfl rfl ?_
  refine SeqK.q (q_call _ rfl Fx.fn32 rfl (build_f) rfl) rfl rfl rfl ?_
  refine SeqK.q (q_buildSlice _ rfl Fx.el50 rfl (by decide) rfl) rfl rfl rfl ?_
  refine SeqK.app1 rfl (by assumption) rfl Fx.el50 rfl rfl (by simp) rfl rfl (fun k28 hk28 => ?_)
  refine SeqK.q (q_asC rfl rfl) rfl rfl rfl ?_
  refine SeqK.nil ?_
  refine AW.reg ?_
  refine SeqK.q (q_add _ rfl rfl rfl (w64 (by omega) (by omega))) rfl rfl rfl ?_
  refine SeqK.q (q_mvC rfl rfl) rfl rfl rfl ?_
  refine SeqK.nil ?_
  first | with_reducible refine LoopW.again ?_ | with_reducible refine eth_n (LoopW.again ?_) | with_reducible refine eb_n (eth_n (LoopW.again ?_)) | with_reducible refine eth_n (eb_n (eth_n (LoopW.again ?_)))
  refine AW.seq ?_
  refine AW.reg ?_
  refine SeqK.q (q_lss rfl rfl rfl) rfl rfl rfl ?_
  refine SeqK.nil ?_
  refine AW.seq ?_
  refine AW.condT rfl ?_
  refine AW.skip ?_
  refine AW.seq ?_
  refine AW.block ?_
  refine AW.seq ?_
  refine AW.reg ?_
  refine SeqK.q (q_index _ rfl Fx.sl85 rfl rfl (by omega) (rfl)) rfl rfl rfl ?_
  refine SeqK.q (q_load (.a _) rfl Fx.ty87 rfl rfl rfl) rfl rfl rfl ?_
  refine SeqK.q (q_asC rfl rfl) rfl rfl rfl ?_
  refine SeqK.nil ?_
  refine AW.reg ?_
  refine SeqK.q (q_mvC rfl rfl) rfl rfl rfl ?_
  refine SeqK.q (q_mvC rfl rfl) rfl rfl rfl ?_
  refine SeqK.q (q_mvC rfl rfl) rfl rfl rfl ?_
  refine SeqK.q (q_len rfl Fx.un29 rfl) rfl rfl rfl ?_
  refine SeqK.q (q_call _ rfl Fx.fn32 rfl (build_t) rfl) rfl rfl rfl ?_
  refine SeqK.q (q_buildSlice _ rfl Fx.el50 rfl (by decide) rfl) rfl rfl rfl ?_
  refine SeqK.app1 rfl (by assumption) rfl Fx.el50 rfl rfl (by simp) rfl rfl (fun k28 hk28 => ?_)
  refine SeqK.q (q_asC rfl rfl) rfl rfl rfl ?_
  refine SeqK.nil ?_
  refine AW.reg ?_
  refine SeqK.q (q_add _ rfl rfl rfl (w64 (by omega) (by omega))) rfl rfl rfl ?_
  refine SeqK.q (q_mvC rfl rfl) rfl rfl rfl ?_
  refine SeqK.nil ?_
  first | with_reducible refine LoopW.again ?_ | with_reducible refine eth_n (LoopW.again ?_) | with_reducible refine eb_n (eth_n (LoopW.again ?_)) | with_reducible refine eth_n (eb_n (eth_n (LoopW.again ?_)))
  refine AW.seq ?_
  refine AW.reg ?_
  refine SeqK.q (q_lss rfl rfl rfl) rfl rfl rfl ?_
  refine SeqK.nil ?_
  refine AW.seq ?_
  refine AW.condF rfl ?_
  refine AW.exit ?_
  refine eth_e ?_
  refine eth_e ?_
  refine exit_here ?_
  refine AW.seq ?_
  refine AW.reg ?_
  refine SeqK.q (q_mvC rfl rfl) rfl rfl rfl ?_
  refine SeqK.q (q_asC rfl rfl) rfl rfl rfl ?_
  refine SeqK.q (q_asC rfl rfl) rfl rfl rfl ?_
  refine SeqK.nil ?_
  refine AW.ret ?_
  exact fin_w (x := .tup [_, _]) (H) (.tmp rfl (.tmp rfl .nil)) rfl (fun j o h => upd_sub hk28 j o h) (⟨rfl, rfl⟩)

end Go.Proofs.YtnmfjojhgfipcaaGreatDoor.W
namespace Go.Proofs.YtnmfjojhgfipcaaGreatDoor.W
open Go.RowKit E
set_option linter.unusedVariables false
set_option linter.unusedSimpArgs false
set_option linter.unusedSectionVars false
theorem okC_of {c : Cl} {l : List Vr} {r : List RV} (hv : vldP c l) (hi : r.length = l.length) : okC c r := by
  obtain ⟨h1, h2, h3, h4, h5, h6, h7⟩ := hv
  have hb : ∀ (l' : List Ax), (bsF l.length l').length = l'.length := fun l' => bsF_len _ _
  refine ⟨fun j h => ?_, fun j h => ?_, fun j h => ⟨fun h0 => ?_, fun h0 => ?_⟩, fun j h => fun i hh => ?_, fun j h => ?_, fun j h => ?_, fun j h => ?_, fun a ha => ?_, fun a ha => ?_⟩
  · have := h1 j h; exact ⟨this.1, by rw [hi]; exact this.2.1⟩
  · have := h2 j h; exact ⟨this.1, by rw [hi]; exact this.2.1⟩
  · rcases h3 j h with ⟨_, _, _, k, _⟩ | ⟨k, _⟩
    · rw [hi]; exact k
    · exact absurd h0 k
  · rcases h3 j h with ⟨k, _⟩ | ⟨_, k, k2, _⟩
    · exact absurd k h0
    · refine ⟨k2, fun i hh => ?_⟩
      have := k.2.1 i hh
      rw [hb, List.length_take] at this
      have h8 := this.1
      rw [hi]; omega
  · have := (h4 j h).2.1 i hh
    rw [hb] at this
    have h8 := this.1
    rw [hi]; omega
  · have := (h5 j h).2.1; rw [hi]; exact this
  · have := h6 j h; rw [hi]; exact ⟨this.1.1, this.2.1.1⟩
  · have := h7 j h; rw [hi]; exact ⟨this.1.1, this.2.1.1⟩
  · obtain ⟨j, h, rfl⟩ := List.mem_iff_getElem.1 ha
    rcases h3 j h with ⟨_, _, k, _⟩ | ⟨_, k, _⟩
    · rw [k]; decide
    · have := k.1; exact ⟨by omega, by omega⟩
  · obtain ⟨j, h, rfl⟩ := List.mem_iff_getElem.1 ha
    have := (h4 j h).1; exact ⟨by omega, by omega⟩
theorem rg_clB (b : Bool) : rgC (clB b) := by cases b <;> exact ⟨by decide, by decide, by decide, by decide, by decide, by decide, by decide, by decide, by decide, by decide⟩
abbrev rwN (n : Int) : List RV := [⟨1, n, ⟨#[]⟩⟩]
theorem vld_clB (b : Bool) : vldP (clB b) vs1 := by cases b <;> decide +kernel
theorem valid_cn (b : Bool) : Pure Tryz.prog 7 [clC (clB b), vsC .nn vs1] (.c (bC true)) := by
  have := rvalid_any (clB b) vs1 .nn (rg_clB b) (by decide)
  rw [decide_eq_true (vld_clB b)] at this; exact this
theorem hol_any (b : Bool) (n : Int) : Pure Tryz.prog 11 [clC (clB b), rowC .nn (rwN n)] (.c (bC (decide (holP (clB b) (rwN n))))) :=
  holds_any (clB b) (rwN n) .nn (rg_clB b) (by simp) (fun v hv => by rw [List.mem_singleton.1 hv]; show (0 : Nat) ≤ _; omega) (okC_of (vld_clB b) rfl) (fun t ht => by cases b <;> cases ht)
theorem hol_c (b x : Bool) (n : Int) (h : decide (holP (clB b) (rwN n)) = x) : Pure Tryz.prog 11 [clC (clB b), rowC .nn (rwN n)] (.c (bC x)) := h ▸ hol_any b n

set_option maxHeartbeats 4000000 in
set_option maxRecDepth 20000 in
theorem awake_any  : Pure Tryz.prog 4 [] (.c (bC true)) := by
  intro H
  refine Spec.enter Tryz.func4 rfl ?_
  refine AW.wk (Wk.keep 75 [] [] (H) rfl trivial trivial (fun _ _ h => h) rfl) ?_
  refine AW.seq ?_
  refine AW.reg ?_
  refine SeqK.q (q_asC rfl rfl) rfl rfl rfl ?_
  refine SeqK.nil ?_
  refine AW.seq ?_
  refine AW.reg ?_
  refine SeqK.q (q_build2 (zs := [_, _, _, _, _]) (r := [_, _, _, _, _]) [(0, 1), (1, 1), (2, 1), (3, 1), (4, 1)] _ rfl Fx.ze36 rfl Fx.bp36 rfl rfl rfl rfl) rfl rfl rfl ?_
  refine SeqK.q (q_buildSlice _ rfl Fx.el29 rfl (by decide) rfl) rfl rfl rfl ?_
  refine SeqK.q (q_asC rfl rfl) rfl rfl rfl ?_
  refine SeqK.nil ?_
  refine AW.seq ?_
  refine AW.reg ?_
  refine SeqK.q (q_build2 (zs := [_, _, _, _, _]) (r := [_, _, _, _, _]) [(0, 1), (1, 1), (2, 1), (3, 1), (4, 1)] _ rfl Fx.ze39 rfl Fx.bp39 rfl rfl rfl rfl) rfl rfl rfl ?_
  refine SeqK.q (q_buildSlice _ rfl Fx.el40 rfl (by decide) rfl) rfl rfl rfl ?_
  refine SeqK.q (q_build2 (zs := [_, _]) (r := [_, _]) [(0, 1), (1, 1)] _ rfl Fx.ze42 rfl Fx.bp42 rfl rfl rfl rfl) rfl rfl rfl ?_
  refine SeqK.q (q_build2 (zs := [_, _, _, _, _, _, _, _, _]) (r := [_, _, _, _, _, _, _, _, _]) [(0, 1), (1, 1), (2, 1), (3, 2), (5, 4)] _ rfl Fx.ze46 rfl Fx.bp46 rfl rfl rfl rfl) rfl rfl rfl ?_
  refine SeqK.q (q_build2 (zs := [_, _, _, _, _, _, _, _, _, _, _]) (r := [_, _, _, _, _, _, _, _, _, _, _]) [(0, 1), (1, 9), (10, 1)] _ rfl Fx.ze49 rfl Fx.bp49 rfl rfl rfl rfl) rfl rfl rfl ?_
  refine SeqK.r (b_alloc (r := [_, _, _, _, _, _, _, _, _, _, _]) rfl rfl Fx.ze49 rfl rfl rfl rfl) rfl ?_
  refine SeqK.r (b_store (r := [_, _, _, _, _, _, _, _, _, _, _]) rfl rfl Fx.ty49 rfl rfl rfl rfl rfl rfl) rfl ?_
  refine SeqK.nil ?_
  refine AW.seq ?_
  refine AW.reg ?_
  refine SeqK.r (b_load (r := .g [_, _, _, _, _, _, _, _, _, _, _]) rfl Fx.ty49 rfl rfl rfl rfl rfl rfl) rfl ?_
  refine SeqK.q (q_mvC rfl rfl) rfl rfl rfl ?_
  refine SeqK.q (q_call _ rfl Fx.fn10 rfl (clauses_c0) rfl) rfl rfl rfl ?_
  refine SeqK.q (q_mvT rfl rfl) rfl rfl rfl ?_
  refine SeqK.q (q_extract _ rfl rfl rfl) rfl rfl rfl ?_
  refine SeqK.q (q_extract _ rfl rfl rfl) rfl rfl rfl ?_
  refine SeqK.q (q_asC rfl rfl) rfl rfl rfl ?_
  refine SeqK.q (q_asC rfl rfl) rfl rfl rfl ?_
  refine SeqK.nil ?_
  refine AW.seq ?_
  refine AW.seq ?_
  refine AW.reg ?_
  refine SeqK.q (q_mvC rfl rfl) rfl rfl rfl ?_
  refine SeqK.q (q_neq rfl rfl rfl) rfl rfl rfl ?_
  refine SeqK.q (q_mvC rfl rfl) rfl rfl rfl ?_
  refine SeqK.on (q_mvC rfl rfl) rfl rfl rfl rfl rfl ?_
  refine SeqK.on (q_len rfl Fx.un50 rfl) rfl rfl rfl rfl rfl ?_
  refine SeqK.on (q_neq rfl rfl rfl) rfl rfl rfl rfl rfl ?_
  refine SeqK.q (q_pkF rfl rfl rfl) rfl rfl rfl ?_
  refine SeqK.q (q_mvC rfl rfl) rfl rfl rfl ?_
  refine SeqK.on (q_mvC rfl rfl) rfl rfl rfl rfl rfl ?_
  refine SeqK.on (q_index _ rfl Fx.sl50 rfl rfl (by omega) (rfl)) rfl rfl rfl rfl rfl ?_
  refine SeqK.on (q_load (.g [_, _, _, _, _, _, _]) rfl Fx.ty28 rfl rfl rfl) rfl rfl rfl rfl rfl ?_
  refine SeqK.on (q_mvC rfl rfl) rfl rfl rfl rfl rfl ?_
  refine SeqK.on (q_call _ rfl Fx.fn7 rfl (valid_cn false) rfl) rfl rfl rfl rfl rfl ?_
  refine SeqK.on (q_not rfl rfl) rfl rfl rfl rfl rfl ?_
  refine SeqK.q (q_pkF rfl rfl rfl) rfl rfl rfl ?_
  refine SeqK.q (q_mvC rfl rfl) rfl rfl rfl ?_
  refine SeqK.on (q_mvC rfl rfl) rfl rfl rfl rfl rfl ?_
  refine SeqK.on (q_index _ rfl Fx.sl50 rfl rfl (by omega) (rfl)) rfl rfl rfl rfl rfl ?_
  refine SeqK.on (q_load (.g [_, _, _, _, _, _, _]) rfl Fx.ty28 rfl rfl rfl) rfl rfl rfl rfl rfl ?_
  refine SeqK.on (q_mvC rfl rfl) rfl rfl rfl rfl rfl ?_
  refine SeqK.on (q_call _ rfl Fx.fn7 rfl (valid_cn true) rfl) rfl rfl rfl rfl rfl ?_
  refine SeqK.on (q_not rfl rfl) rfl rfl rfl rfl rfl ?_
  refine SeqK.q (q_pkF rfl rfl rfl) rfl rfl rfl ?_
  refine SeqK.nil ?_
  refine AW.condF rfl ?_
  refine AW.skip ?_
  refine AW.seq ?_
  refine AW.reg ?_
  refine SeqK.q (q_build2 (zs := [_, _, _]) (r := [_, _, _]) [(0, 1), (1, 1), (2, 1)] _ rfl Fx.ze55 rfl Fx.bp55 rfl rfl rfl rfl) rfl rfl rfl ?_
  refine SeqK.q (q_buildSlice _ rfl Fx.el57 rfl (by decide) rfl) rfl rfl rfl ?_
  refine SeqK.q (q_build2 (zs := [_, _, _]) (r := [_, _, _]) [(0, 1), (1, 1), (2, 1)] _ rfl Fx.ze55 rfl Fx.bp55 rfl rfl rfl rfl) rfl rfl rfl ?_
  refine SeqK.q (q_buildSlice _ rfl Fx.el57 rfl (by decide) rfl) rfl rfl rfl ?_
  refine SeqK.q (q_asC rfl rfl) rfl rfl rfl ?_
  refine SeqK.q (q_asC rfl rfl) rfl rfl rfl ?_
  refine SeqK.nil ?_
  refine AW.seq ?_
  refine AW.reg ?_
  refine SeqK.q (q_mvC rfl rfl) rfl rfl rfl ?_
  refine SeqK.q (q_index _ rfl Fx.sl50 rfl rfl (by omega) (rfl)) rfl rfl rfl ?_
  refine SeqK.q (q_load (.g [_, _, _, _, _, _, _]) rfl Fx.ty28 rfl rfl rfl) rfl rfl rfl ?_
  refine SeqK.q (q_mvC rfl rfl) rfl rfl rfl ?_
  refine SeqK.q (q_call _ rfl Fx.fn11 rfl (hol_c false false 3 (by decide +kernel)) rfl) rfl rfl rfl ?_
  refine SeqK.q (q_not rfl rfl) rfl rfl rfl ?_
  refine SeqK.q (q_mvC rfl rfl) rfl rfl rfl ?_
  refine SeqK.on (q_mvC rfl rfl) rfl rfl rfl rfl rfl ?_
  refine SeqK.on (q_index _ rfl Fx.sl50 rfl rfl (by omega) (rfl)) rfl rfl rfl rfl rfl ?_
  refine SeqK.on (q_load (.g [_, _, _, _, _, _, _]) rfl Fx.ty28 rfl rfl rfl) rfl rfl rfl rfl rfl ?_
  refine SeqK.on (q_mvC rfl rfl) rfl rfl rfl rfl rfl ?_
  refine SeqK.on (q_call _ rfl Fx.fn11 rfl (hol_c true false 3 (by decide +kernel)) rfl) rfl rfl rfl rfl rfl ?_
  refine SeqK.on (q_not rfl rfl) rfl rfl rfl rfl rfl ?_
  refine SeqK.q (q_pkT rfl rfl rfl) rfl rfl rfl ?_
  refine SeqK.q (q_mvC rfl rfl) rfl rfl rfl ?_
  refine SeqK.on (q_mvC rfl rfl) rfl rfl rfl rfl rfl ?_
  refine SeqK.on (q_index _ rfl Fx.sl50 rfl rfl (by omega) (rfl)) rfl rfl rfl rfl rfl ?_
  refine SeqK.on (q_load (.g [_, _, _, _, _, _, _]) rfl Fx.ty28 rfl rfl rfl) rfl rfl rfl rfl rfl ?_
  refine SeqK.on (q_mvC rfl rfl) rfl rfl rfl rfl rfl ?_
  refine SeqK.on (q_call _ rfl Fx.fn11 rfl (hol_c false false 4 (by decide +kernel)) rfl) rfl rfl rfl rfl rfl ?_
  refine SeqK.on (q_mvC rfl rfl) rfl rfl rfl rfl rfl ?_
  refine SeqK.on (q_mvC rfl rfl) rfl rfl rfl rfl rfl ?_
  refine SeqK.on (q_index _ rfl Fx.sl50 rfl rfl (by omega) (rfl)) rfl rfl rfl rfl rfl ?_
  refine SeqK.on (q_load (.g [_, _, _, _, _, _, _]) rfl Fx.ty28 rfl rfl rfl) rfl rfl rfl rfl rfl ?_
  refine SeqK.on (q_mvC rfl rfl) rfl rfl rfl rfl rfl ?_
  refine SeqK.on (q_call _ rfl Fx.fn11 rfl (hol_c true true 4 (by decide +kernel)) rfl) rfl rfl rfl rfl rfl ?_
  refine SeqK.on (q_pkF rfl rfl rfl) rfl rfl rfl rfl rfl ?_
  refine SeqK.q (q_pkT rfl rfl rfl) rfl rfl rfl ?_
  refine SeqK.q (q_asC rfl rfl) rfl rfl rfl ?_
  refine SeqK.nil ?_
  refine AW.ret ?_
  exact fin_x (x := .c _) H (.tmp rfl .nil) rfl (fun _ _ h => h) ⟨rfl, rfl⟩

end Go.Proofs.YtnmfjojhgfipcaaGreatDoor.W
