/- Parts of the proof, one after the other: W11, W12, W13, W14, W15, W16, W17, W18, W19, W20, W21, W22, W23, W24, W25, W26, W27. No condition. -/
import Derived.Test.YtnmfjojhgfipcaaM15
namespace Go.Proofs.Ytnmfjojhgfipcaa.W
open Go.RowKit E
set_option linter.unusedVariables false
set_option linter.unusedSimpArgs false
set_option linter.unusedSectionVars false

set_option maxRecDepth 20000 in
theorem len64_0  : Pure Try.prog 107 [u64C 0] (.c (iC 0)) := by
 intro H
 refine Spec.enter Try.func107 rfl ?_
 refine AW.wk (Wk.keep 25 [(0, .c (u64C 0))] [] (H) rfl ⟨rfl, trivial⟩ trivial (fun _ _ h => h) rfl) ?_
 refine sR ?_
 refine sA ?_
 refine SeqK.nil ?_
 refine AW.seq ?_
 refine sR ?_
 refine sM ?_
 refine SeqK.q (q_geq rfl rfl rfl) rfl rfl rfl ?_
 refine SeqK.nil ?_
 refine AW.condF rfl ?_
 refine AW.skip ?_
 refine AW.seq ?_
 refine sR ?_
 refine sM ?_
 refine SeqK.q (q_geq rfl rfl rfl) rfl rfl rfl ?_
 refine SeqK.nil ?_
 refine AW.condF rfl ?_
 refine AW.skip ?_
 refine AW.seq ?_
 refine sR ?_
 refine sM ?_
 refine SeqK.q (q_geq rfl rfl rfl) rfl rfl rfl ?_
 refine SeqK.nil ?_
 refine AW.condF rfl ?_
 refine AW.skip ?_
 refine sR ?_
 refine sM ?_
 refine sM ?_
 refine SeqK.q (q_conv _ rfl Fx.un5 rfl ((rfl : IntKind.u8.wrap 0 = 0)) ⟨_, Fx.un107⟩) rfl rfl rfl ?_
 rw [show IntKind.u8.wrap 0 = 0 from rfl]
 refine SeqK.q (q_indexS _ rfl Fx.un9 rfl rfl (by omega) (rfl)) rfl rfl rfl ?_
 refine SeqK.q (q_conv _ rfl Fx.un3 rfl ((rfl : IntKind.i64.wrap 0 = 0)) ⟨_, Fx.un5⟩) rfl rfl rfl ?_
 refine SeqK.q (q_add _ rfl rfl rfl ((rfl : IntKind.i64.wrap (0 + 0) = 0))) rfl rfl rfl ?_
 refine sA ?_
 refine SeqK.nil ?_
 refine AW.ret ?_
 exact fin_x (x := .c _) H (.tmp rfl .nil) rfl (fun _ _ h => h) ⟨rfl, rfl⟩

set_option maxRecDepth 20000 in
theorem len_0  : Pure Try.prog 91 [u64C 0] (.c (iC 0)) := by
 intro H
 refine Spec.enter Try.func91 rfl ?_
 refine AW.wk (Wk.keep 8 [(0, .c (u64C 0))] [] (H) rfl ⟨rfl, trivial⟩ trivial (fun _ _ h => h) rfl) ?_
 refine sR ?_
 refine sA ?_
 refine SeqK.nil ?_
 refine AW.seq ?_
 refine AW.condF rfl ?_
 refine AW.skip ?_
 refine sR ?_
 refine sM ?_
 refine SeqK.q (q_call _ rfl Fx.fn107 rfl (len64_0) rfl) rfl rfl rfl ?_
 refine sA ?_
 refine SeqK.nil ?_
 refine AW.ret ?_
 exact fin_x (x := .c _) H (.tmp rfl .nil) rfl (fun _ _ h => h) ⟨rfl, rfl⟩

set_option maxRecDepth 20000 in
theorem len64_1  : Pure Try.prog 107 [u64C 1] (.c (iC 1)) := by
 intro H
 refine Spec.enter Try.func107 rfl ?_
 refine AW.wk (Wk.keep 25 [(0, .c (u64C 1))] [] (H) rfl ⟨rfl, trivial⟩ trivial (fun _ _ h => h) rfl) ?_
 refine sR ?_
 refine sA ?_
 refine SeqK.nil ?_
 refine AW.seq ?_
 refine sR ?_
 refine sM ?_
 refine SeqK.q (q_geq rfl rfl rfl) rfl rfl rfl ?_
 refine SeqK.nil ?_
 refine AW.condF rfl ?_
 refine AW.skip ?_
 refine AW.seq ?_
 refine sR ?_
 refine sM ?_
 refine SeqK.q (q_geq rfl rfl rfl) rfl rfl rfl ?_
 refine SeqK.nil ?_
 refine AW.condF rfl ?_
 refine AW.skip ?_
 refine AW.seq ?_
 refine sR ?_
 refine sM ?_
 refine SeqK.q (q_geq rfl rfl rfl) rfl rfl rfl ?_
 refine SeqK.nil ?_
 refine AW.condF rfl ?_
 refine AW.skip ?_
 refine sR ?_
 refine sM ?_
 refine sM ?_
 refine SeqK.q (q_conv _ rfl Fx.un5 rfl ((rfl : IntKind.u8.wrap 1 = 1)) ⟨_, Fx.un107⟩) rfl rfl rfl ?_
 rw [show IntKind.u8.wrap 1 = 1 from rfl]
 refine SeqK.q (q_indexS _ rfl Fx.un9 rfl rfl (by omega) (rfl)) rfl rfl rfl ?_
 refine SeqK.q (q_conv _ rfl Fx.un3 rfl ((rfl : IntKind.i64.wrap 1 = 1)) ⟨_, Fx.un5⟩) rfl rfl rfl ?_
 refine SeqK.q (q_add _ rfl rfl rfl ((rfl : IntKind.i64.wrap (0 + 1) = 1))) rfl rfl rfl ?_
 refine sA ?_
 refine SeqK.nil ?_
 refine AW.ret ?_
 exact fin_x (x := .c _) H (.tmp rfl .nil) rfl (fun _ _ h => h) ⟨rfl, rfl⟩

set_option maxRecDepth 20000 in
theorem len_1  : Pure Try.prog 91 [u64C 1] (.c (iC 1)) := by
 intro H
 refine Spec.enter Try.func91 rfl ?_
 refine AW.wk (Wk.keep 8 [(0, .c (u64C 1))] [] (H) rfl ⟨rfl, trivial⟩ trivial (fun _ _ h => h) rfl) ?_
 refine sR ?_
 refine sA ?_
 refine SeqK.nil ?_
 refine AW.seq ?_
 refine AW.condF rfl ?_
 refine AW.skip ?_
 refine sR ?_
 refine sM ?_
 refine SeqK.q (q_call _ rfl Fx.fn107 rfl (len64_1) rfl) rfl rfl rfl ?_
 refine sA ?_
 refine SeqK.nil ?_
 refine AW.ret ?_
 exact fin_x (x := .c _) H (.tmp rfl .nil) rfl (fun _ _ h => h) ⟨rfl, rfl⟩

set_option maxRecDepth 20000 in
theorem ins_0 (z : Nz) : Pure Try.prog 97 [.a (.t (.sl z 1 [])), iC 0, iC 0] (.tup []) := by
 intro H
 refine Spec.enter Try.func97 rfl ?_
 refine AW.wk (Wk.keep 49 [(0, .c (.a (.t (.sl z 1 [])))), (1, .c (iC 0)), (2, .c (iC 0))] [] (H) rfl ⟨rfl, rfl, rfl, trivial⟩ trivial (fun _ _ h => h) rfl) ?_
 refine sR ?_
 refine sM ?_
 refine SeqK.q (q_add _ rfl rfl rfl (w64 (by omega) (by omega))) rfl rfl rfl ?_
 refine sA ?_
 refine SeqK.nil ?_
 refine AW.block ?_
 refine AW.unroll ?_
 refine AW.seq ?_
 refine sR ?_
 refine sM ?_
 refine sM ?_
 refine SeqK.q (q_lss rfl rfl rfl) rfl rfl rfl ?_
 refine SeqK.nil ?_
 refine AW.condF rfl ?_
 refine AW.exit ?_
 refine eth_e ?_
 refine eth_e ?_
 refine exit_here ?_
 exact fin_xN (x := .tup []) H .nil rfl (fun _ _ h => h) ⟨rfl, rfl⟩

set_option maxRecDepth 20000 in
theorem pdq_0 (z : Nz) : Pure Try.prog 90 [.a (.t (.sl z 1 [])), iC 0, iC 0, iC 0] (.tup []) := by
 intro H
 refine Spec.enter Try.func90 rfl ?_
 refine AW.wk (Wk.keep 134 [(0, .c (.a (.t (.sl z 1 [])))), (1, .c (iC 0)), (2, .c (iC 0)), (3, .c (iC 0))] [] (H) rfl ⟨rfl, rfl, rfl, rfl, trivial⟩ trivial (fun _ _ h => h) rfl) ?_
 refine sR ?_
 refine sA ?_
 refine SeqK.nil ?_
 refine sR ?_
 refine sA ?_
 refine SeqK.nil ?_
 refine AW.block ?_
 refine AW.unroll ?_
 refine AW.block ?_
 refine sR ?_
 refine sM ?_
 refine sM ?_
 refine SeqK.q (q_sub _ rfl rfl rfl (w64 (by omega) (by omega))) rfl rfl rfl ?_
 refine sA ?_
 refine SeqK.nil ?_
 refine AW.seq ?_
 refine sR ?_
 refine sM ?_
 refine SeqK.q (q_leq rfl rfl rfl) rfl rfl rfl ?_
 refine SeqK.nil ?_
 refine AW.condT rfl ?_
 refine sR ?_
 refine sM ?_
 refine sM ?_
 refine sM ?_
 refine SeqK.q (q_call _ rfl Fx.fn97 rfl (ins_0 z) rfl) rfl rfl rfl ?_
 refine SeqK.nil ?_
 refine AW.ret ?_
 exact fin_x (x := .tup []) H .nil rfl (fun _ _ h => h) ⟨rfl, rfl⟩

set_option maxRecDepth 20000 in
theorem sort_0 (z : Nz) : Pure Try.prog 74 [.a (.t (.sl z 1 []))] (.tup []) := by
 intro H
 refine Spec.enter Try.func74 rfl ?_
 refine AW.wk (Wk.keep 11 [(0, .c (.a (.t (.sl z 1 []))))] [] (H) rfl ⟨rfl, trivial⟩ trivial (fun _ _ h => h) rfl) ?_
 refine sR ?_
 refine sM ?_
 refine SeqK.q (q_len rfl Fx.un22 rfl) rfl rfl rfl ?_
 refine sA ?_
 refine SeqK.nil ?_
 refine AW.reg ?_
 refine sM ?_
 refine sM ?_
 refine sM ?_
 refine SeqK.q (q_conv _ rfl Fx.un154 rfl ((rfl : IntKind.u64.wrap 0 = 0)) ⟨_, Fx.un3⟩) rfl rfl rfl ?_
 refine SeqK.q (q_call _ rfl Fx.fn91 rfl (len_0) rfl) rfl rfl rfl ?_
 refine SeqK.q (q_call _ rfl Fx.fn90 rfl (pdq_0 z) rfl) rfl rfl rfl ?_
 refine SeqK.nil ?_
 exact fin_xN (x := .tup []) H .nil rfl (fun _ _ h => h) ⟨rfl, rfl⟩

set_option maxRecDepth 20000 in
theorem compact_0 (z : Nz) : Pure Try.prog 75 [.a (.t (.sl z 1 []))] (.c (.a (.t (.sl z 1 [])))) := by
 intro H
 refine Spec.enter Try.func75 rfl ?_
 refine AW.wk (Wk.keep 61 [(0, .c (.a (.t (.sl z 1 []))))] [] (H) rfl ⟨rfl, trivial⟩ trivial (fun _ _ h => h) rfl) ?_
 refine sR ?_
 refine sA ?_
 refine SeqK.nil ?_
 refine AW.seq ?_
 refine sR ?_
 refine sM ?_
 refine SeqK.q (q_len rfl Fx.un22 rfl) rfl rfl rfl ?_
 refine SeqK.q (q_lss rfl rfl rfl) rfl rfl rfl ?_
 refine SeqK.nil ?_
 refine AW.condT rfl ?_
 refine sR ?_
 refine sM ?_
 refine sA ?_
 refine SeqK.nil ?_
 refine AW.ret ?_
 exact fin_x (x := .c _) H (.tmp rfl .nil) rfl (fun _ _ h => h) ⟨rfl, rfl⟩

set_option maxRecDepth 20000 in
theorem sorted_0 (z : Nz) : Pure Try.prog 42 [.a (.t (.sl z 1 []))] (.c (.a (.t (.sl z 1 [])))) := by
 intro H
 refine Spec.enter Try.func42 rfl ?_
 refine AW.wk (Wk.keep 7 [(0, .c (.a (.t (.sl z 1 []))))] [] (H) rfl ⟨rfl, trivial⟩ trivial (fun _ _ h => h) rfl) ?_
 refine sR ?_
 refine sA ?_
 refine SeqK.nil ?_
 refine sR ?_
 refine sM ?_
 refine SeqK.q (q_call _ rfl Fx.fn74 rfl (sort_0 z) rfl) rfl rfl rfl ?_
 refine SeqK.nil ?_
 refine sR ?_
 refine sM ?_
 refine SeqK.q (q_call _ rfl Fx.fn75 rfl (compact_0 z) rfl) rfl rfl rfl ?_
 refine sA ?_
 refine SeqK.nil ?_
 refine AW.ret ?_
 exact fin_x (x := .c _) H (.tmp rfl .nil) rfl (fun _ _ h => h) ⟨rfl, rfl⟩

set_option maxRecDepth 20000 in
theorem ins_1 (z : Nz) (e : List E.T) : Pure Try.prog 97 [.a (.t (.sl z 1 [e])), iC 0, iC 1] (.tup []) := by
 intro H
 refine Spec.enter Try.func97 rfl ?_
 refine AW.wk (Wk.keep 49 [(0, .c (.a (.t (.sl z 1 [e])))), (1, .c (iC 0)), (2, .c (iC 1))] [] (H) rfl ⟨rfl, rfl, rfl, trivial⟩ trivial (fun _ _ h => h) rfl) ?_
 refine sR ?_
 refine sM ?_
 refine SeqK.q (q_add _ rfl rfl rfl (w64 (by omega) (by omega))) rfl rfl rfl ?_
 refine sA ?_
 refine SeqK.nil ?_
 refine AW.block ?_
 refine AW.unroll ?_
 refine AW.seq ?_
 refine sR ?_
 refine sM ?_
 refine sM ?_
 refine SeqK.q (q_lss rfl rfl rfl) rfl rfl rfl ?_
 refine SeqK.nil ?_
 refine AW.condF rfl ?_
 refine AW.exit ?_
 refine eth_e ?_
 refine eth_e ?_
 refine exit_here ?_
 exact fin_xN (x := .tup []) H .nil rfl (fun _ _ h => h) ⟨rfl, rfl⟩

set_option maxRecDepth 20000 in
theorem pdq_1 (z : Nz) (e : List E.T) : Pure Try.prog 90 [.a (.t (.sl z 1 [e])), iC 0, iC 1, iC 1] (.tup []) := by
 intro H
 refine Spec.enter Try.func90 rfl ?_
 refine AW.wk (Wk.keep 134 [(0, .c (.a (.t (.sl z 1 [e])))), (1, .c (iC 0)), (2, .c (iC 1)), (3, .c (iC 1))] [] (H) rfl ⟨rfl, rfl, rfl, rfl, trivial⟩ trivial (fun _ _ h => h) rfl) ?_
 refine sR ?_
 refine sA ?_
 refine SeqK.nil ?_
 refine sR ?_
 refine sA ?_
 refine SeqK.nil ?_
 refine AW.block ?_
 refine AW.unroll ?_
 refine AW.block ?_
 refine sR ?_
 refine sM ?_
 refine sM ?_
 refine SeqK.q (q_sub _ rfl rfl rfl (w64 (by omega) (by omega))) rfl rfl rfl ?_
 refine sA ?_
 refine SeqK.nil ?_
 refine AW.seq ?_
 refine sR ?_
 refine sM ?_
 refine SeqK.q (q_leq rfl rfl rfl) rfl rfl rfl ?_
 refine SeqK.nil ?_
 refine AW.condT rfl ?_
 refine sR ?_
 refine sM ?_
 refine sM ?_
 refine sM ?_
 refine SeqK.q (q_call _ rfl Fx.fn97 rfl (ins_1 z e) rfl) rfl rfl rfl ?_
 refine SeqK.nil ?_
 refine AW.ret ?_
 exact fin_x (x := .tup []) H .nil rfl (fun _ _ h => h) ⟨rfl, rfl⟩

set_option maxRecDepth 20000 in
theorem sort_1 (z : Nz) (e : List E.T) : Pure Try.prog 74 [.a (.t (.sl z 1 [e]))] (.tup []) := by
 intro H
 refine Spec.enter Try.func74 rfl ?_
 refine AW.wk (Wk.keep 11 [(0, .c (.a (.t (.sl z 1 [e]))))] [] (H) rfl ⟨rfl, trivial⟩ trivial (fun _ _ h => h) rfl) ?_
 refine sR ?_
 refine sM ?_
 refine SeqK.q (q_len rfl Fx.un22 rfl) rfl rfl rfl ?_
 refine sA ?_
 refine SeqK.nil ?_
 refine AW.reg ?_
 refine sM ?_
 refine sM ?_
 refine sM ?_
 refine SeqK.q (q_conv _ rfl Fx.un154 rfl ((rfl : IntKind.u64.wrap 1 = 1)) ⟨_, Fx.un3⟩) rfl rfl rfl ?_
 refine SeqK.q (q_call _ rfl Fx.fn91 rfl (len_1) rfl) rfl rfl rfl ?_
 refine SeqK.q (q_call _ rfl Fx.fn90 rfl (pdq_1 z e) rfl) rfl rfl rfl ?_
 refine SeqK.nil ?_
 exact fin_xN (x := .tup []) H .nil rfl (fun _ _ h => h) ⟨rfl, rfl⟩

set_option maxRecDepth 20000 in
theorem compact_1 (z : Nz) (e : List E.T) : Pure Try.prog 75 [.a (.t (.sl z 1 [e]))] (.c (.a (.t (.sl z 1 [e])))) := by
 intro H
 refine Spec.enter Try.func75 rfl ?_
 refine AW.wk (Wk.keep 61 [(0, .c (.a (.t (.sl z 1 [e]))))] [] (H) rfl ⟨rfl, trivial⟩ trivial (fun _ _ h => h) rfl) ?_
 refine sR ?_
 refine sA ?_
 refine SeqK.nil ?_
 refine AW.seq ?_
 refine sR ?_
 refine sM ?_
 refine SeqK.q (q_len rfl Fx.un22 rfl) rfl rfl rfl ?_
 refine SeqK.q (q_lss rfl rfl rfl) rfl rfl rfl ?_
 refine SeqK.nil ?_
 refine AW.condT rfl ?_
 refine sR ?_
 refine sM ?_
 refine sA ?_
 refine SeqK.nil ?_
 refine AW.ret ?_
 exact fin_x (x := .c _) H (.tmp rfl .nil) rfl (fun _ _ h => h) ⟨rfl, rfl⟩

set_option maxRecDepth 20000 in
theorem sorted_1 (z : Nz) (e : List E.T) : Pure Try.prog 42 [.a (.t (.sl z 1 [e]))] (.c (.a (.t (.sl z 1 [e])))) := by
 intro H
 refine Spec.enter Try.func42 rfl ?_
 refine AW.wk (Wk.keep 7 [(0, .c (.a (.t (.sl z 1 [e]))))] [] (H) rfl ⟨rfl, trivial⟩ trivial (fun _ _ h => h) rfl) ?_
 refine sR ?_
 refine sA ?_
 refine SeqK.nil ?_
 refine sR ?_
 refine sM ?_
 refine SeqK.q (q_call _ rfl Fx.fn74 rfl (sort_1 z e) rfl) rfl rfl rfl ?_
 refine SeqK.nil ?_
 refine sR ?_
 refine sM ?_
 refine SeqK.q (q_call _ rfl Fx.fn75 rfl (compact_1 z e) rfl) rfl rfl rfl ?_
 refine sA ?_
 refine SeqK.nil ?_
 refine AW.ret ?_
 exact fin_x (x := .c _) H (.tmp rfl .nil) rfl (fun _ _ h => h) ⟨rfl, rfl⟩

end Go.Proofs.Ytnmfjojhgfipcaa.W
namespace Go.Proofs.Ytnmfjojhgfipcaa.W
open Go.RowKit E
set_option linter.unusedVariables false
set_option linter.unusedSimpArgs false
set_option linter.unusedSectionVars false
/-! the formula of the check that all laws begin with -/
abbrev pt1 : List E.T := [.v (.int .i64 1), .v (.int .i64 0), .v (.int .i64 0), .v (.int .i64 0), .v (.slice none 0 0)]
abbrev fr1 : E.T := .sl .nn 5 [pt1]
abbrev frA : List A := [.t (.v (.int .i64 (-3))), .t fr1]
abbrev atA : List A := [.t (.v (.int .i64 4)), .t (.v (.int .i64 0)), .t (.v (.int .i64 0)), .t (.v (.int .i64 (-3))), .t fr1, .t (.v (.int .i64 0)), .t (.v (.int .i64 0)), .t (.v (.bool false)), .t (.v (.string ⟨#[]⟩))]
abbrev fmA : List A := .t (.v (.int .i64 2)) :: (atA ++ [.t (.v (.slice none 0 0))])
abbrev ltT (b : Bool) : List E.T := [.v (.int .i64 4), .v (.int .i64 0), .v (.int .i64 0), .v (.int .i64 (-3)), fr1, .v (.int .i64 0), .v (.int .i64 0), .v (.bool false), .v (.string ⟨#[]⟩), .v (.bool b)]
abbrev vs1 : List Vr := [⟨1, 0, 9, 0, false⟩]

set_option maxHeartbeats 4000000 in
set_option maxRecDepth 20000 in
theorem simplify_c  : Pure Try.prog 61 [.g fmA, vsC .nn vs1] (.c (.g fmA)) := by
 intro H
 refine Spec.enter Try.func61 rfl ?_
 refine AW.wk (Wk.keep 57 [(0, .c (.g fmA)), (1, .c (vsC .nn vs1))] [] (H) rfl ⟨rfl, rfl, trivial⟩ trivial (fun _ _ h => h) rfl) ?_
 refine sR ?_
 refine SeqK.r (b_box (r := [_, _, _, _, _, _, _, _, _, _, _]) rfl rfl rfl rfl rfl rfl) rfl ?_
 refine SeqK.r (b_alloc (r := [_, _, _, _, _, _, _, _, _, _, _]) rfl rfl Fx.ze66 rfl rfl rfl rfl) rfl ?_
 refine SeqK.nil ?_
 refine AW.seq ?_
 refine sR ?_
 refine SeqK.q (q_fieldL _ rfl Fx.fl66_0 rfl rfl) rfl rfl rfl ?_
 refine SeqK.r (b_load (r := .a _) rfl Fx.ty3 rfl rfl rfl rfl rfl rfl) rfl ?_
 refine SeqK.q (q_eql rfl rfl rfl) rfl rfl rfl ?_
 refine SeqK.nil ?_
 refine AW.condT rfl ?_
 refine sR ?_
 refine SeqK.q (q_fieldL _ rfl Fx.fl66_1 rfl rfl) rfl rfl rfl ?_
 refine SeqK.r (b_load (r := .g [_, _, _, _, _, _, _, _, _]) rfl Fx.ty63 rfl rfl rfl rfl rfl rfl) rfl ?_
 refine SeqK.r (b_alloc (r := [_, _, _, _, _, _, _, _, _]) rfl rfl Fx.ze63 rfl rfl rfl rfl) rfl ?_
 refine SeqK.r (b_store (r := [_, _, _, _, _, _, _, _, _]) rfl rfl Fx.ty63 rfl rfl rfl rfl rfl rfl) rfl ?_
 refine SeqK.nil ?_
 refine AW.seq ?_
 refine sR ?_
 refine SeqK.q (q_fieldL _ rfl Fx.fl63_0 rfl rfl) rfl rfl rfl ?_
 refine SeqK.r (b_load (r := .a _) rfl Fx.ty3 rfl rfl rfl rfl rfl rfl) rfl ?_
 refine SeqK.q (q_eql rfl rfl rfl) rfl rfl rfl ?_
 refine sM ?_
 refine SeqK.on (q_fieldL _ rfl Fx.fl63_0 rfl rfl) rfl rfl rfl rfl rfl ?_
 refine SeqK.rOn (b_load (r := .a _) rfl Fx.ty3 rfl rfl rfl rfl rfl rfl) rfl rfl rfl ?_
 refine SeqK.on (q_eql rfl rfl rfl) rfl rfl rfl rfl rfl ?_
 refine SeqK.q (q_pkF rfl rfl rfl) rfl rfl rfl ?_
 refine sM ?_
 refine SeqK.off rfl rfl rfl rfl rfl rfl ?_
 refine SeqK.off rfl rfl rfl rfl rfl rfl ?_
 refine SeqK.off rfl rfl rfl rfl rfl rfl ?_
 refine SeqK.off rfl rfl rfl rfl rfl rfl ?_
 refine SeqK.off rfl rfl rfl rfl rfl rfl ?_
 refine SeqK.off rfl rfl rfl rfl rfl rfl ?_
 refine SeqK.off rfl rfl rfl rfl rfl rfl ?_
 refine SeqK.q (q_pkF rfl rfl rfl) rfl rfl rfl ?_
 refine SeqK.nil ?_
 refine AW.condF rfl ?_
 refine AW.skip ?_
 refine sR ?_
 refine SeqK.r (b_load (r := .g [_, _, _, _, _, _, _, _, _, _, _]) rfl Fx.ty66 rfl rfl rfl rfl rfl rfl) rfl ?_
 refine SeqK.r (b_store (r := [_, _, _, _, _, _, _, _, _, _, _]) rfl rfl Fx.ty66 rfl rfl rfl rfl rfl rfl) rfl ?_
 refine SeqK.nil ?_
 refine AW.ret ?_
 exact fin_x (x := .c _) H (.cellL rfl rfl Fx.ty66 rfl rfl .nil) rfl (fun _ _ h => h) ⟨rfl, rfl⟩

set_option maxRecDepth 20000 in
theorem count_c  : Pure Try.prog 62 [.g fmA] (.c (iC 2)) := by
 intro H
 refine Spec.enter Try.func62 rfl ?_
 refine AW.wk (Wk.keep 41 [(0, .c (.g fmA))] [] (H) rfl ⟨rfl, trivial⟩ trivial (fun _ _ h => h) rfl) ?_
 refine sR ?_
 refine SeqK.r (b_box (r := [_, _, _, _, _, _, _, _, _, _, _]) rfl rfl rfl rfl rfl rfl) rfl ?_
 refine sA ?_
 refine SeqK.nil ?_
 refine AW.seq ?_
 refine sR ?_
 refine SeqK.q (q_fieldL _ rfl Fx.fl66_0 rfl rfl) rfl rfl rfl ?_
 refine SeqK.r (b_load (r := .a _) rfl Fx.ty3 rfl rfl rfl rfl rfl rfl) rfl ?_
 refine SeqK.q (q_eql rfl rfl rfl) rfl rfl rfl ?_
 refine SeqK.nil ?_
 refine AW.condT rfl ?_
 refine AW.seq ?_
 refine sR ?_
 refine SeqK.q (q_fieldL _ rfl Fx.fl66_1 rfl rfl) rfl rfl rfl ?_
 refine SeqK.q (q_fieldL _ rfl Fx.fl63_0 rfl rfl) rfl rfl rfl ?_
 refine SeqK.r (b_load (r := .a _) rfl Fx.ty3 rfl rfl rfl rfl rfl rfl) rfl ?_
 refine SeqK.q (q_eql rfl rfl rfl) rfl rfl rfl ?_
 refine SeqK.nil ?_
 refine AW.condT rfl ?_
 refine sR ?_
 refine sA ?_
 refine SeqK.nil ?_
 refine AW.ret ?_
 exact fin_x (x := .c _) H (.tmp rfl .nil) rfl (fun _ _ h => h) ⟨rfl, rfl⟩

set_option maxHeartbeats 4000000 in
set_option maxRecDepth 20000 in
theorem expand_c  : Pure Try.prog 63 [.g fmA] (.c (.a (.t (.sl .nn 1 [[.sl .nn 10 [ltT false]], [.sl .nn 10 [ltT true]]])))) := by
 intro H
 refine Spec.enter Try.func63 rfl ?_
 refine AW.wk (Wk.keep 89 [(0, .c (.g fmA))] [] (H) rfl ⟨rfl, trivial⟩ trivial (fun _ _ h => h) rfl) ?_
 refine sR ?_
 refine SeqK.r (b_box (r := [_, _, _, _, _, _, _, _, _, _, _]) rfl rfl rfl rfl rfl rfl) rfl ?_
 refine sA ?_
 refine SeqK.nil ?_
 refine AW.seq ?_
 refine sR ?_
 refine SeqK.r (b_load (r := .g [_, _, _, _, _, _, _, _, _, _, _]) rfl Fx.ty66 rfl rfl rfl rfl rfl rfl) rfl ?_
 refine SeqK.q (q_call _ rfl Fx.fn62 rfl (count_c) rfl) rfl rfl rfl ?_
 refine SeqK.q (q_eql rfl rfl rfl) rfl rfl rfl ?_
 refine SeqK.nil ?_
 refine AW.condF rfl ?_
 refine AW.skip ?_
 refine AW.seq ?_
 refine sR ?_
 refine SeqK.q (q_fieldL _ rfl Fx.fl66_0 rfl rfl) rfl rfl rfl ?_
 refine SeqK.r (b_load (r := .a _) rfl Fx.ty3 rfl rfl rfl rfl rfl rfl) rfl ?_
 refine SeqK.nil ?_
 refine AW.block ?_
 refine sR ?_
 refine SeqK.q (q_eql rfl rfl rfl) rfl rfl rfl ?_
 refine sA ?_
 refine SeqK.nil ?_
 refine AW.condT rfl ?_
 refine AW.seq ?_
 refine sR ?_
 refine SeqK.q (q_fieldL _ rfl Fx.fl66_1 rfl rfl) rfl rfl rfl ?_
 refine SeqK.q (q_fieldL _ rfl Fx.fl63_0 rfl rfl) rfl rfl rfl ?_
 refine SeqK.r (b_load (r := .a _) rfl Fx.ty3 rfl rfl rfl rfl rfl rfl) rfl ?_
 refine SeqK.q (q_eql rfl rfl rfl) rfl rfl rfl ?_
 refine SeqK.nil ?_
 refine AW.condT rfl ?_
 refine sR ?_
 refine SeqK.q (q_fieldL _ rfl Fx.fl66_1 rfl rfl) rfl rfl rfl ?_
 refine SeqK.r (b_load (r := .g [_, _, _, _, _, _, _, _, _]) rfl Fx.ty63 rfl rfl rfl rfl rfl rfl) rfl ?_
 refine SeqK.q (q_build2 (zs := [_, _, _, _, _, _, _, _, _, _]) (r := [_, _, _, _, _, _, _, _, _, _]) [(0, 9), (9, 1)] _ rfl Fx.ze143 rfl Fx.bp143 rfl rfl rfl rfl) rfl rfl rfl ?_
 refine SeqK.q (q_buildSlice _ rfl Fx.el116 rfl (by decide) rfl) rfl rfl rfl ?_
 refine SeqK.q (q_fieldL _ rfl Fx.fl66_1 rfl rfl) rfl rfl rfl ?_
 refine SeqK.r (b_load (r := .g [_, _, _, _, _, _, _, _, _]) rfl Fx.ty63 rfl rfl rfl rfl rfl rfl) rfl ?_
 refine SeqK.q (q_build2 (zs := [_, _, _, _, _, _, _, _, _, _]) (r := [_, _, _, _, _, _, _, _, _, _]) [(0, 9), (9, 1)] _ rfl Fx.ze143 rfl Fx.bp143 rfl rfl rfl rfl) rfl rfl rfl ?_
 refine SeqK.q (q_buildSlice _ rfl Fx.el116 rfl (by decide) rfl) rfl rfl rfl ?_
 refine SeqK.q (q_buildSlice _ rfl Fx.el114 rfl (by decide) rfl) rfl rfl rfl ?_
 refine sA ?_
 refine SeqK.nil ?_
 refine AW.ret ?_
 exact fin_x (x := .c _) H (.tmp rfl .nil) rfl (fun _ _ h => h) ⟨rfl, rfl⟩

end Go.Proofs.Ytnmfjojhgfipcaa.W
namespace Go.Proofs.Ytnmfjojhgfipcaa.W
open Go.RowKit E
set_option linter.unusedVariables false
set_option linter.unusedSimpArgs false
set_option linter.unusedSectionVars false

set_option maxRecDepth 20000 in
theorem negative_c0  : Pure Try.prog 95 [.g [.t (.v (.int .i64 (-3))), .t (.sl .un 2 [[.v (.int .i64 0), .v (.int .i64 1)]])]] (.c (.g [.t (.v (.int .i64 3)), .t (.sl .ne 2 [[.v (.int .i64 0), .v (.int .i64 (-1))]])])) := by
 intro H
 refine Spec.enter Try.func95 rfl ?_
 refine AW.wk (Wk.keep 30 [(0, .c (.g [.t (.v (.int .i64 (-3))), .t (.sl .un 2 [[.v (.int .i64 0), .v (.int .i64 1)]])]))] [] (H) rfl ⟨rfl, trivial⟩ trivial (fun _ _ h => h) rfl) ?_
 refine sR ?_
 refine SeqK.r (b_box (r := [_, _]) rfl rfl rfl rfl rfl rfl) rfl ?_
 refine SeqK.r (b_alloc (r := [_, _]) rfl rfl Fx.ze74 rfl rfl rfl rfl) rfl ?_
 refine SeqK.nil ?_
 refine sR ?_
 refine SeqK.q (q_fieldL _ rfl Fx.fl74_0 rfl rfl) rfl rfl rfl ?_
 refine SeqK.r (b_load (r := .a _) rfl Fx.ty2 rfl rfl rfl rfl rfl rfl) rfl ?_
 refine SeqK.q (q_neg _ rfl rfl ((rfl : IntKind.i64.wrap (-(-3)) = 3))) rfl rfl rfl ?_
 refine SeqK.q (q_build2 (zs := [_, _]) (r := [_, _]) [(0, 1), (1, 1)] _ rfl Fx.ze74 rfl Fx.bp74 rfl rfl rfl rfl) rfl rfl rfl ?_
 refine SeqK.r (b_alloc (r := [_, _]) rfl rfl Fx.ze74 rfl rfl rfl rfl) rfl ?_
 refine SeqK.r (b_store (r := [_, _]) rfl rfl Fx.ty74 rfl rfl rfl rfl rfl rfl) rfl ?_
 refine SeqK.nil ?_
 refine AW.seq ?_
 refine sR ?_
 refine SeqK.q (q_fieldL _ rfl Fx.fl74_1 rfl rfl) rfl rfl rfl ?_
 refine SeqK.r (b_load (r := .a _) rfl Fx.ty72 rfl rfl rfl rfl rfl rfl) rfl ?_
 refine SeqK.q (q_len rfl Fx.un72 rfl) rfl rfl rfl ?_
 refine sM ?_
 refine SeqK.nil ?_
 refine AW.block ?_
 refine AW.unroll ?_
 refine sR ?_
 refine SeqK.q (q_lss rfl rfl rfl) rfl rfl rfl ?_
 refine SeqK.nil ?_
 refine AW.seq ?_
 refine AW.condT rfl ?_
 refine AW.skip ?_
 refine AW.seq ?_
 refine AW.block ?_
 refine sR ?_
 refine SeqK.q (q_index _ rfl Fx.sl72 rfl rfl (by omega) (rfl)) rfl rfl rfl ?_
 refine SeqK.q (q_load (.g [_, _]) rfl Fx.ty106 rfl rfl rfl) rfl rfl rfl ?_
 refine SeqK.r (b_alloc (r := [_, _]) rfl rfl Fx.ze106 rfl rfl rfl rfl) rfl ?_
 refine SeqK.r (b_store (r := [_, _]) rfl rfl Fx.ty106 rfl rfl rfl rfl rfl rfl) rfl ?_
 refine SeqK.nil ?_
 refine AW.reg ?_
 refine SeqK.q (q_fieldL _ rfl Fx.fl74_1 rfl rfl) rfl rfl rfl ?_
 refine SeqK.r (b_load (r := .a _) rfl Fx.ty72 rfl rfl rfl rfl rfl rfl) rfl ?_
 refine SeqK.q (q_fieldL _ rfl Fx.fl106_0 rfl rfl) rfl rfl rfl ?_
 refine SeqK.r (b_load (r := .a _) rfl Fx.ty3 rfl rfl rfl rfl rfl rfl) rfl ?_
 refine SeqK.q (q_fieldL _ rfl Fx.fl106_1 rfl rfl) rfl rfl rfl ?_
 refine SeqK.r (b_load (r := .a _) rfl Fx.ty2 rfl rfl rfl rfl rfl rfl) rfl ?_
 refine SeqK.q (q_neg _ rfl rfl ((rfl : IntKind.i64.wrap (-1) = -1))) rfl rfl rfl ?_
 refine SeqK.q (q_build2 (zs := [_, _]) (r := [_, _]) [(0, 1), (1, 1)] _ rfl Fx.ze106 rfl Fx.bp106 rfl rfl rfl rfl) rfl rfl rfl ?_
 refine SeqK.q (q_buildSlice _ rfl Fx.el72 rfl (by decide) rfl) rfl rfl rfl ?_
 refine SeqK.q (q_appNil rfl Fx.el72 rfl rfl (by simp)) rfl rfl rfl ?_
 refine SeqK.q (q_fieldL _ rfl Fx.fl74_1 rfl rfl) rfl rfl rfl ?_
 refine SeqK.r (b_store (r := [_, _]) rfl rfl Fx.ty72 rfl rfl rfl rfl rfl rfl) rfl ?_
 refine SeqK.nil ?_
 refine AW.reg ?_
 refine SeqK.q (q_add _ rfl rfl rfl (w64 (by omega) (by omega))) rfl rfl rfl ?_
 refine sM ?_
 refine SeqK.nil ?_
 first | with_reducible refine LoopW.again ?_ | with_reducible refine eth_n (LoopW.again ?_) | with_reducible refine eb_n (eth_n (LoopW.again ?_)) | with_reducible refine eth_n (eb_n (eth_n (LoopW.again ?_)))
 refine sR ?_
 refine SeqK.q (q_lss rfl rfl rfl) rfl rfl rfl ?_
 refine SeqK.nil ?_
 refine AW.seq ?_
 refine AW.condF rfl ?_
 refine AW.exit ?_
 refine eth_e ?_
 refine eth_e ?_
 refine exit_here ?_
 refine sR ?_
 refine SeqK.r (b_load (r := .g [_, _]) rfl Fx.ty74 rfl rfl rfl rfl rfl rfl) rfl ?_
 refine SeqK.r (b_store (r := [_, _]) rfl rfl Fx.ty74 rfl rfl rfl rfl rfl rfl) rfl ?_
 refine SeqK.nil ?_
 refine AW.ret ?_
 exact fin_x (x := .c _) H (.cellL rfl rfl Fx.ty74 rfl rfl .nil) rfl (fun _ _ h => h) ⟨rfl, rfl⟩

theorem negative_c : Pure Try.prog 95 [.g [.t (.v (.int .i64 (-3))), .t (.sl .un 2 [[.v (.int .i64 0), .v (.int .i64 1)]])]] (.c (.g [.t (.v (.int .i64 3)), .t (.sl .un 2 [[.v (.int .i64 0), .v (.int .i64 (-1))]])])) := negative_c0.res (XW.g (.cons XW.reA (.cons XW.un .nil)))
set_option maxRecDepth 20000 in
theorem coefs_c0 (H : Heap) (km b ck : Nat) (hm : H km = some (.map (.int .i64) [⟨.int .i64 0, .a (.t (.v (.int .i64 1))), b⟩] ck)) (hb : b < ck) : E.Spec Try.prog 72 [.a (.mp km)] H fun x H' => x = .c (.a (.t (.sl .ne 2 [[.v (.int .i64 0), .v (.int .i64 1)]]))) ∧ H' = H := by
 refine Spec.enter Try.func72 rfl ?_
 refine AW.wk (Wk.keep 40 [(0, .c (.a (.mp km)))] [] (H) rfl ⟨rfl, trivial⟩ trivial (fun _ _ h => h) rfl) ?_
 refine sR ?_
 refine sA ?_
 refine SeqK.nil ?_
 refine sR ?_
 refine sA ?_
 refine SeqK.nil ?_
 refine AW.seq ?_
 refine sR ?_
 refine sM ?_
 refine SeqK.r (b_range rfl rfl Fx.un122 rfl (hm) rfl rfl) rfl ?_
 refine SeqK.nil ?_
 refine AW.block ?_
 refine AW.unroll ?_
 refine sR ?_
 refine SeqK.next rfl rfl rfl rfl rfl rfl (hm) (fun m h => by rw [List.mem_singleton.1 h]; exact hb) (Nat.le_refl _) (fun hd11 => ?_) (fun m11 hm11 hn11 => ?_)
 ·
  exact absurd (hd11 _ (List.mem_singleton.2 rfl)) (by simp)
 ·
  obtain rfl := List.mem_singleton.1 hm11
  refine SeqK.q (q_extract _ rfl rfl rfl) rfl rfl rfl ?_
  refine SeqK.nil ?_
  refine AW.seq ?_
  refine AW.condT rfl ?_
  refine AW.skip ?_
  refine AW.block ?_
  refine sR ?_
  refine SeqK.r (b_entry rfl rfl rfl (by (repeat rw [upd_ne _ _ (by first | assumption | exact Ne.symm (by assumption))]); first | assumption | exact upd_same _ _ _) (by assumption) rfl rfl) rfl ?_
  refine SeqK.q (q_extract _ rfl rfl rfl) rfl rfl rfl ?_
  refine SeqK.q (q_extract _ rfl rfl rfl) rfl rfl rfl ?_
  refine sA ?_
  refine sA ?_
  refine SeqK.nil ?_
  refine sR ?_
  refine sM ?_
  refine SeqK.q (q_neq rfl rfl rfl) rfl rfl rfl ?_
  refine SeqK.nil ?_
  refine AW.condT rfl ?_
  refine AW.reg ?_
  refine sM ?_
  refine sM ?_
  refine SeqK.q (q_buildSlice _ rfl Fx.el22 rfl (by decide) rfl) rfl rfl rfl ?_
  refine SeqK.q (q_appNil rfl Fx.el22 rfl rfl (by simp)) rfl rfl rfl ?_
  refine sA ?_
  refine SeqK.nil ?_
  first | with_reducible refine LoopW.again ?_ | with_reducible refine eth_n (LoopW.again ?_) | with_reducible refine eb_n (eth_n (LoopW.again ?_)) | with_reducible refine eth_n (eb_n (eth_n (LoopW.again ?_)))
  refine sR ?_
  refine SeqK.next rfl rfl rfl rfl rfl rfl (hm) (fun m h => by rw [List.mem_singleton.1 h]; exact hb) (Nat.le_refl _) (fun hd11 => ?_) (fun m11 hm11 hn11 => ?_)
  ·
   refine SeqK.q (q_extract _ rfl rfl rfl) rfl rfl rfl ?_
   refine SeqK.nil ?_
   refine AW.seq ?_
   refine AW.condF rfl ?_
   refine AW.exit ?_
   refine eth_e ?_
   refine eth_e ?_
   refine exit_here ?_
   refine sR ?_
   refine sM ?_
   refine SeqK.q (q_call _ rfl Fx.fn74 rfl (sort_1 _ _) rfl) rfl rfl rfl ?_
   refine SeqK.nil ?_
   refine sR ?_
   refine sA ?_
   refine SeqK.nil ?_
   refine AW.seq ?_
   refine sR ?_
   refine sM ?_
   refine SeqK.q (q_len rfl Fx.un22 rfl) rfl rfl rfl ?_
   refine sM ?_
   refine SeqK.nil ?_
   refine AW.block ?_
   refine AW.unroll ?_
   refine sR ?_
   refine SeqK.q (q_lss rfl rfl rfl) rfl rfl rfl ?_
   refine SeqK.nil ?_
   refine AW.seq ?_
   refine AW.condT rfl ?_
   refine AW.skip ?_
   refine AW.seq ?_
   refine AW.block ?_
   refine sR ?_
   refine SeqK.q (q_index _ rfl Fx.sl22 rfl rfl (by omega) (rfl)) rfl rfl rfl ?_
   refine SeqK.q (q_load (.a _) rfl Fx.ty3 rfl rfl rfl) rfl rfl rfl ?_
   refine sA ?_
   refine SeqK.nil ?_
   refine AW.reg ?_
   refine sM ?_
   refine sM ?_
   refine sM ?_
   refine sM ?_
   refine SeqK.r (g_lookup (r := .c (.a _)) (.int Fx.un3) rfl Fx.un122 Fx.ze2 rfl (by (repeat rw [upd_ne _ _ (by first | assumption | exact Ne.symm (by assumption))]); first | assumption | exact upd_same _ _ _) rfl rfl (rfl) rfl rfl rfl) rfl ?_
   refine SeqK.q (q_build2 (zs := [_, _]) (r := [_, _]) [(0, 1), (1, 1)] _ rfl Fx.ze106 rfl Fx.bp106 rfl rfl rfl rfl) rfl rfl rfl ?_
   refine SeqK.q (q_buildSlice _ rfl Fx.el72 rfl (by decide) rfl) rfl rfl rfl ?_
   refine SeqK.q (q_appNil rfl Fx.el72 rfl rfl (by simp)) rfl rfl rfl ?_
   refine sA ?_
   refine SeqK.nil ?_
   refine AW.reg ?_
   refine SeqK.q (q_add _ rfl rfl rfl (w64 (by omega) (by omega))) rfl rfl rfl ?_
   refine sM ?_
   refine SeqK.nil ?_
   first | with_reducible refine LoopW.again ?_ | with_reducible refine eth_n (LoopW.again ?_) | with_reducible refine eb_n (eth_n (LoopW.again ?_)) | with_reducible refine eth_n (eb_n (eth_n (LoopW.again ?_)))
   refine sR ?_
   refine SeqK.q (q_lss rfl rfl rfl) rfl rfl rfl ?_
   refine SeqK.nil ?_
   refine AW.seq ?_
   refine AW.condF rfl ?_
   refine AW.exit ?_
   refine eth_e ?_
   refine eth_e ?_
   refine exit_here ?_
   refine sR ?_
   refine sM ?_
   refine sA ?_
   refine SeqK.nil ?_
   refine AW.ret ?_
   exact fin_x (x := .c _) (H) (.tmp rfl .nil) rfl (fun _ _ h => h) (⟨rfl, rfl⟩)
  ·
   exact absurd (by rw [List.mem_singleton.1 hm11]; simp) hn11

theorem coefs_c (H : Heap) (km b ck : Nat) (hm : H km = some (.map (.int .i64) [⟨.int .i64 0, .a (.t (.v (.int .i64 1))), b⟩] ck)) (hb : b < ck) : E.Spec Try.prog 72 [.a (.mp km)] H fun x H' => x = .c (.a (.t (.sl .un 2 [[.v (.int .i64 0), .v (.int .i64 1)]]))) ∧ H' = H :=
  (coefs_c0 H km b ck hm hb).res fun x H' ⟨hx, hH⟩ => ⟨_, by rw [hx]; exact XW.un, rfl, hH⟩
end Go.Proofs.Ytnmfjojhgfipcaa.W
namespace Go.Proofs.Ytnmfjojhgfipcaa.W
open Go.RowKit E
set_option linter.unusedVariables false
set_option linter.unusedSimpArgs false
set_option linter.unusedSectionVars false
def clB (b : Bool) : Cl := ⟨[], [0], [], [⟨⟨if b then 4 else -2, [⟨0, if b then -1 else 1⟩]⟩, false⟩], [], [], []⟩
abbrev ltA (b : Bool) : List A := atA ++ [.t (.v (.bool b))]
abbrev nilA : A := .t (.v (.slice none 0 0))
abbrev bl0 : List A := [.t (.v (.int .i64 1)), nilA, nilA, nilA, nilA, nilA, nilA, nilA]
abbrev bl1 (b : Bool) : List A := [.t (.v (.int .i64 1)), nilA, .t (.sl .ne 1 [i64T 0]), nilA, .t (.sl .ne 3 [[.v (.int .i64 (if b then 4 else -2)), .sl .un 2 [[.v (.int .i64 0), .v (.int .i64 (if b then -1 else 1))]], .v (.bool false)]]), nilA, nilA, nilA]

set_option maxRecDepth 20000 in
theorem variables_c  : Pure Try.prog 93 [.g frA] (.c (.a (.t (.sl .ne 1 [i64T 0])))) := by
 intro H
 refine Spec.enter Try.func93 rfl ?_
 refine AW.wk (Wk.keep 33 [(0, .c (.g frA))] [] (H) rfl ⟨rfl, trivial⟩ trivial (fun _ _ h => h) rfl) ?_
 refine sR ?_
 refine SeqK.r (b_box (r := [_, _]) rfl rfl rfl rfl rfl rfl) rfl ?_
 refine sA ?_
 refine SeqK.nil ?_
 refine sR ?_
 refine sA ?_
 refine SeqK.nil ?_
 refine AW.seq ?_
 refine sR ?_
 refine SeqK.q (q_fieldL _ rfl Fx.fl59_1 rfl rfl) rfl rfl rfl ?_
 refine SeqK.r (b_load (r := .a _) rfl Fx.ty57 rfl rfl rfl rfl rfl rfl) rfl ?_
 refine SeqK.q (q_len rfl Fx.un57 rfl) rfl rfl rfl ?_
 refine sM ?_
 refine SeqK.nil ?_
 refine AW.block ?_
 refine AW.unroll ?_
 refine sR ?_
 refine SeqK.q (q_lss rfl rfl rfl) rfl rfl rfl ?_
 refine SeqK.nil ?_
 refine AW.seq ?_
 refine AW.condT rfl ?_
 refine AW.skip ?_
 refine AW.seq ?_
 refine AW.block ?_
 refine sR ?_
 refine SeqK.q (q_index _ rfl Fx.sl57 rfl rfl (by omega) (rfl)) rfl rfl rfl ?_
 refine SeqK.q (q_load (.g [_, _, _, _, _]) rfl Fx.ty56 rfl rfl rfl) rfl rfl rfl ?_
 refine SeqK.r (b_alloc (r := [_, _, _, _, _]) rfl rfl Fx.ze56 rfl rfl rfl rfl) rfl ?_
 refine SeqK.r (b_store (r := [_, _, _, _, _]) rfl rfl Fx.ty56 rfl rfl rfl rfl rfl rfl) rfl ?_
 refine SeqK.nil ?_
 refine sR ?_
 refine SeqK.q (q_fieldL _ rfl Fx.fl56_1 rfl rfl) rfl rfl rfl ?_
 refine SeqK.r (b_load (r := .a _) rfl Fx.ty3 rfl rfl rfl rfl rfl rfl) rfl ?_
 refine SeqK.q (q_eql rfl rfl rfl) rfl rfl rfl ?_
 refine SeqK.nil ?_
 refine AW.condF rfl ?_
 refine AW.reg ?_
 refine sM ?_
 refine SeqK.q (q_fieldL _ rfl Fx.fl56_2 rfl rfl) rfl rfl rfl ?_
 refine SeqK.r (b_load (r := .a _) rfl Fx.ty3 rfl rfl rfl rfl rfl rfl) rfl ?_
 refine SeqK.q (q_buildSlice _ rfl Fx.el22 rfl (by decide) rfl) rfl rfl rfl ?_
 refine SeqK.q (q_appNil rfl Fx.el22 rfl rfl (by simp)) rfl rfl rfl ?_
 refine sA ?_
 refine SeqK.nil ?_
 refine AW.reg ?_
 refine SeqK.q (q_add _ rfl rfl rfl (w64 (by omega) (by omega))) rfl rfl rfl ?_
 refine sM ?_
 refine SeqK.nil ?_
 first | with_reducible refine LoopW.again ?_ | with_reducible refine eth_n (LoopW.again ?_) | with_reducible refine eb_n (eth_n (LoopW.again ?_)) | with_reducible refine eth_n (eb_n (eth_n (LoopW.again ?_)))
 refine sR ?_
 refine SeqK.q (q_lss rfl rfl rfl) rfl rfl rfl ?_
 refine SeqK.nil ?_
 refine AW.seq ?_
 refine AW.condF rfl ?_
 refine AW.exit ?_
 refine eth_e ?_
 refine eth_e ?_
 refine exit_here ?_
 refine sR ?_
 refine sM ?_
 refine SeqK.q (q_call _ rfl Fx.fn74 rfl (sort_1 _ _) rfl) rfl rfl rfl ?_
 refine SeqK.nil ?_
 refine sR ?_
 refine sM ?_
 refine SeqK.q (q_call _ rfl Fx.fn75 rfl (compact_1 _ _) rfl) rfl rfl rfl ?_
 refine sA ?_
 refine SeqK.nil ?_
 refine AW.ret ?_
 exact fin_x (x := .c _) H (.tmp rfl .nil) rfl (fun _ _ h => h) ⟨rfl, rfl⟩

set_option maxRecDepth 20000 in
theorem form_c (x : A) : Pure Try.prog 94 [.a x, .g frA] (.c (.g [.t (.v (.int .i64 (-3))), .t (.sl .un 2 [[.v (.int .i64 0), .v (.int .i64 1)]])])) := by
 intro H
 refine Spec.enter Try.func94 rfl ?_
 refine AW.wk (Wk.keep 53 [(0, .c (.a x)), (1, .c (.g frA))] [] (H) rfl ⟨rfl, rfl, trivial⟩ trivial (fun _ _ h => h) rfl) ?_
 refine sR ?_
 refine SeqK.r (b_box (r := [_, _]) rfl rfl rfl rfl rfl rfl) rfl ?_
 refine SeqK.r (b_alloc (r := [_, _]) rfl rfl Fx.ze74 rfl rfl rfl rfl) rfl ?_
 refine SeqK.nil ?_
 refine sR ?_
 refine SeqK.newMap (.int .i64) rfl rfl rfl rfl (fun k9 hk9 => ?_)
 refine sA ?_
 refine SeqK.nil ?_
 refine AW.seq ?_
 refine sR ?_
 refine SeqK.q (q_fieldL _ rfl Fx.fl59_1 rfl rfl) rfl rfl rfl ?_
 refine SeqK.r (b_load (r := .a _) rfl Fx.ty57 rfl rfl rfl rfl rfl rfl) rfl ?_
 refine SeqK.q (q_len rfl Fx.un57 rfl) rfl rfl rfl ?_
 refine sM ?_
 refine SeqK.nil ?_
 refine AW.block ?_
 refine AW.unroll ?_
 refine sR ?_
 refine SeqK.q (q_lss rfl rfl rfl) rfl rfl rfl ?_
 refine SeqK.nil ?_
 refine AW.seq ?_
 refine AW.condT rfl ?_
 refine AW.skip ?_
 refine AW.seq ?_
 refine AW.block ?_
 refine sR ?_
 refine SeqK.q (q_index _ rfl Fx.sl57 rfl rfl (by omega) (rfl)) rfl rfl rfl ?_
 refine SeqK.q (q_load (.g [_, _, _, _, _]) rfl Fx.ty56 rfl rfl rfl) rfl rfl rfl ?_
 refine SeqK.r (b_alloc (r := [_, _, _, _, _]) rfl rfl Fx.ze56 rfl rfl rfl rfl) rfl ?_
 refine SeqK.r (b_store (r := [_, _, _, _, _]) rfl rfl Fx.ty56 rfl rfl rfl rfl rfl rfl) rfl ?_
 refine SeqK.nil ?_
 refine sR ?_
 refine SeqK.q (q_fieldL _ rfl Fx.fl56_2 rfl rfl) rfl rfl rfl ?_
 refine SeqK.r (b_load (r := .a _) rfl Fx.ty3 rfl rfl rfl rfl rfl rfl) rfl ?_
 refine sA ?_
 refine SeqK.nil ?_
 refine AW.seq ?_
 refine sR ?_
 refine SeqK.q (q_fieldL _ rfl Fx.fl56_1 rfl rfl) rfl rfl rfl ?_
 refine SeqK.r (b_load (r := .a _) rfl Fx.ty3 rfl rfl rfl rfl rfl rfl) rfl ?_
 refine SeqK.nil ?_
 refine AW.block ?_
 refine sR ?_
 refine SeqK.q (q_eql rfl rfl rfl) rfl rfl rfl ?_
 refine sA ?_
 refine SeqK.nil ?_
 refine AW.condF rfl ?_
 refine sR ?_
 refine SeqK.q (q_eql rfl rfl rfl) rfl rfl rfl ?_
 refine sA ?_
 refine SeqK.nil ?_
 refine AW.condF rfl ?_
 refine AW.skip ?_
 refine AW.reg ?_
 refine sM ?_
 refine sM ?_
 refine SeqK.r (g_lookup (r := .c (.a _)) (.int Fx.un3) rfl Fx.un122 Fx.ze2 rfl (by (repeat rw [upd_ne _ _ (by first | assumption | exact Ne.symm (by assumption))]); first | assumption | exact upd_same _ _ _) rfl rfl (rfl) rfl rfl rfl) rfl ?_
 refine SeqK.q (q_fieldL _ rfl Fx.fl56_0 rfl rfl) rfl rfl rfl ?_
 refine SeqK.r (b_load (r := .a _) rfl Fx.ty2 rfl rfl rfl rfl rfl rfl) rfl ?_
 refine SeqK.q (q_add _ rfl rfl rfl (w64 (by omega) (by omega))) rfl rfl rfl ?_
 refine SeqK.r (g_mapUpdate (.int Fx.un3) rfl rfl Fx.un122 rfl (by (repeat rw [upd_ne _ _ (by first | assumption | exact Ne.symm (by assumption))]); first | assumption | exact upd_same _ _ _) rfl rfl rfl) rfl ?_
 refine SeqK.nil ?_
 refine AW.reg ?_
 refine SeqK.q (q_add _ rfl rfl rfl (w64 (by omega) (by omega))) rfl rfl rfl ?_
 refine sM ?_
 refine SeqK.nil ?_
 first | with_reducible refine LoopW.again ?_ | with_reducible refine eth_n (LoopW.again ?_) | with_reducible refine eb_n (eth_n (LoopW.again ?_)) | with_reducible refine eth_n (eb_n (eth_n (LoopW.again ?_)))
 refine sR ?_
 refine SeqK.q (q_lss rfl rfl rfl) rfl rfl rfl ?_
 refine SeqK.nil ?_
 refine AW.seq ?_
 refine AW.condF rfl ?_
 refine AW.exit ?_
 refine eth_e ?_
 refine eth_e ?_
 refine exit_here ?_
 refine AW.seq ?_
 refine AW.draw Fx.mo ?_
 refine LexK.q (q_fieldL _ rfl Fx.fl59_0 rfl rfl) rfl rfl rfl ?_
 refine LexK.r (b_load (r := .a _) rfl Fx.ty2 rfl rfl rfl rfl rfl rfl) rfl ?_
 refine LexK.q (q_mvC rfl rfl) rfl rfl rfl ?_
 refine LexK.r (g_call rfl Fx.fn72 rfl (coefs_c _ k9 0 1 (by exact upd_same _ _ _) (by decide)) rfl rfl rfl) rfl ?_
 refine LexK.q (q_build2 (zs := [_, _]) (r := [_, _]) [(0, 1), (1, 1)] _ rfl Fx.ze74 rfl Fx.bp74 rfl rfl rfl rfl) rfl rfl rfl ?_
 refine LexK.r (b_store (r := [_, _]) rfl rfl Fx.ty74 rfl rfl rfl rfl rfl rfl) rfl ?_
 refine LexK.nil (by kernel_rfl) ?_
 refine AW.ret ?_
 exact fin_x (x := .c _) (H) (.cellL rfl rfl Fx.ty74 rfl rfl .nil) rfl (fun j o h => by
  show upd (upd H k9 _) k9 _ j = _
  rw [upd_upd]; exact upd_sub hk9 j o h) (⟨rfl, rfl⟩)

set_option maxHeartbeats 4000000 in
set_option maxRecDepth 20000 in
theorem add_f (H : Heap) (k : Nat) (hk : H k = some (.box bl0)) : E.Spec Try.prog 86 [.a (.bp k 0), .g (ltA false)] H fun x H' => x = .tup [] ∧ H' = upd H k (some (.box (bl1 false))) := by
 refine Spec.enter Try.func86 rfl ?_
 refine AW.wk (Wk.keep 208 [(0, .c (.a (.bp k 0))), (1, .c (.g (ltA false)))] [] (H) rfl ⟨rfl, rfl, trivial⟩ trivial (fun _ _ h => h) rfl) ?_
 refine sR ?_
 refine SeqK.r (b_box (r := [_, _, _, _, _, _, _, _, _, _]) rfl rfl rfl rfl rfl rfl) rfl ?_
 refine SeqK.nil ?_
 refine AW.seq ?_
 refine sR ?_
 refine SeqK.q (q_fieldL _ rfl Fx.fl143_0 rfl rfl) rfl rfl rfl ?_
 refine SeqK.q (q_fieldL _ rfl Fx.fl63_0 rfl rfl) rfl rfl rfl ?_
 refine SeqK.r (b_load (r := .a _) rfl Fx.ty3 rfl rfl rfl rfl rfl rfl) rfl ?_
 refine SeqK.nil ?_
 refine AW.block ?_
 refine sR ?_
 refine SeqK.q (q_eql rfl rfl rfl) rfl rfl rfl ?_
 refine sA ?_
 refine SeqK.nil ?_
 refine AW.condF rfl ?_
 refine AW.seq ?_
 refine sR ?_
 refine SeqK.q (q_eql rfl rfl rfl) rfl rfl rfl ?_
 refine sA ?_
 refine SeqK.nil ?_
 refine AW.condF rfl ?_
 refine sR ?_
 refine SeqK.q (q_eql rfl rfl rfl) rfl rfl rfl ?_
 refine sA ?_
 refine SeqK.nil ?_
 refine AW.condF rfl ?_
 refine AW.reg ?_
 refine SeqK.q (q_eql rfl rfl rfl) rfl rfl rfl ?_
 refine sA ?_
 refine SeqK.nil ?_
 refine AW.condT rfl ?_
 refine AW.seq ?_
 refine AW.draw Fx.mo ?_
 refine LexK.q (q_mvC rfl rfl) rfl rfl rfl ?_
 refine LexK.q (q_mvC rfl rfl) rfl rfl rfl ?_
 refine LexK.q (q_nilH rfl rfl) rfl rfl rfl ?_
 refine LexK.q (q_fieldH _ rfl Fx.fl147_1 rfl rfl) rfl rfl rfl ?_
 refine LexK.q (q_fieldH _ rfl Fx.fl28_1 rfl rfl) rfl rfl rfl ?_
 refine LexK.r (g_load (r := .a _) rfl Fx.ty22 rfl (by (repeat rw [upd_ne _ _ (by first | assumption | exact Ne.symm (by assumption))]); first | assumption | exact upd_same _ _ _) rfl rfl rfl rfl) rfl ?_
 refine LexK.q (q_fieldL _ rfl Fx.fl143_0 rfl rfl) rfl rfl rfl ?_
 refine LexK.q (q_fieldL _ rfl Fx.fl63_3 rfl rfl) rfl rfl rfl ?_
 refine LexK.r (b_load (r := .g [_, _]) rfl Fx.ty59 rfl rfl rfl rfl rfl rfl) rfl ?_
 refine LexK.q (q_call _ rfl Fx.fn93 rfl (variables_c) rfl) rfl rfl rfl ?_
 refine LexK.q (q_appNil rfl Fx.el22 rfl rfl (by simp)) rfl rfl rfl ?_
 refine LexK.q (q_nilH rfl rfl) rfl rfl rfl ?_
 refine LexK.q (q_fieldH _ rfl Fx.fl147_1 rfl rfl) rfl rfl rfl ?_
 refine LexK.q (q_fieldH _ rfl Fx.fl28_1 rfl rfl) rfl rfl rfl ?_
 refine LexK.r (g_store rfl rfl Fx.ty22 rfl rfl (by (repeat rw [upd_ne _ _ (by first | assumption | exact Ne.symm (by assumption))]); first | assumption | exact upd_same _ _ _) rfl rfl rfl) rfl ?_
 refine LexK.nil (by kernel_rfl) ?_
 refine sR ?_
 refine sM ?_
 refine SeqK.q (q_fieldL _ rfl Fx.fl143_0 rfl rfl) rfl rfl rfl ?_
 refine SeqK.q (q_fieldL _ rfl Fx.fl63_3 rfl rfl) rfl rfl rfl ?_
 refine SeqK.r (b_load (r := .g [_, _]) rfl Fx.ty59 rfl rfl rfl rfl rfl rfl) rfl ?_
 refine SeqK.q (q_call _ rfl Fx.fn94 rfl (form_c _) rfl) rfl rfl rfl ?_
 refine SeqK.r (b_alloc (r := [_, _]) rfl rfl Fx.ze74 rfl rfl rfl rfl) rfl ?_
 refine SeqK.r (b_store (r := [_, _]) rfl rfl Fx.ty74 rfl rfl rfl rfl rfl rfl) rfl ?_
 refine SeqK.nil ?_
 refine AW.seq ?_
 refine sR ?_
 refine SeqK.q (q_fieldL _ rfl Fx.fl143_0 rfl rfl) rfl rfl rfl ?_
 refine SeqK.q (q_fieldL _ rfl Fx.fl63_0 rfl rfl) rfl rfl rfl ?_
 refine SeqK.r (b_load (r := .a _) rfl Fx.ty3 rfl rfl rfl rfl rfl rfl) rfl ?_
 refine SeqK.nil ?_
 refine AW.block ?_
 refine sR ?_
 refine SeqK.q (q_eql rfl rfl rfl) rfl rfl rfl ?_
 refine sA ?_
 refine SeqK.nil ?_
 refine AW.condF rfl ?_
 refine sR ?_
 refine SeqK.q (q_eql rfl rfl rfl) rfl rfl rfl ?_
 refine sA ?_
 refine SeqK.nil ?_
 refine AW.condT rfl ?_
 refine AW.seq ?_
 refine sR ?_
 refine SeqK.q (q_fieldL _ rfl Fx.fl143_1 rfl rfl) rfl rfl rfl ?_
 refine SeqK.r (b_load (r := .a _) rfl Fx.ty4 rfl rfl rfl rfl rfl rfl) rfl ?_
 refine SeqK.nil ?_
 refine AW.condF rfl ?_
 refine AW.skip ?_
 refine sR ?_
 refine SeqK.q (q_fieldL _ rfl Fx.fl74_0 rfl rfl) rfl rfl rfl ?_
 refine SeqK.r (b_load (r := .a _) rfl Fx.ty2 rfl rfl rfl rfl rfl rfl) rfl ?_
 refine SeqK.q (q_add _ rfl rfl rfl (w64 (by omega) (by omega))) rfl rfl rfl ?_
 refine SeqK.q (q_fieldL _ rfl Fx.fl74_0 rfl rfl) rfl rfl rfl ?_
 refine SeqK.r (b_store (r := [_, _]) rfl rfl Fx.ty2 rfl rfl rfl rfl rfl rfl) rfl ?_
 refine SeqK.nil ?_
 refine AW.draw Fx.mo ?_
 refine LexK.q (q_mvC rfl rfl) rfl rfl rfl ?_
 refine LexK.q (q_mvC rfl rfl) rfl rfl rfl ?_
 refine LexK.q (q_nilH rfl rfl) rfl rfl rfl ?_
 refine LexK.q (q_fieldH _ rfl Fx.fl147_1 rfl rfl) rfl rfl rfl ?_
 refine LexK.q (q_fieldH _ rfl Fx.fl28_3 rfl rfl) rfl rfl rfl ?_
 refine LexK.r (g_load (r := .a _) rfl Fx.ty24 rfl (by (repeat rw [upd_ne _ _ (by first | assumption | exact Ne.symm (by assumption))]); first | assumption | exact upd_same _ _ _) rfl rfl rfl rfl) rfl ?_
 refine LexK.r (b_load (r := .g [_, _]) rfl Fx.ty74 rfl rfl rfl rfl rfl rfl) rfl ?_
 refine LexK.q (q_build2 (zs := [_, _, _]) (r := [_, _, _]) [(0, 2), (2, 1)] _ rfl Fx.ze76 rfl Fx.bp76 rfl rfl rfl rfl) rfl rfl rfl ?_
 refine LexK.q (q_buildSlice _ rfl Fx.el24 rfl (by decide) rfl) rfl rfl rfl ?_
 refine LexK.q (q_appNil rfl Fx.el24 rfl rfl (by simp)) rfl rfl rfl ?_
 refine LexK.q (q_nilH rfl rfl) rfl rfl rfl ?_
 refine LexK.q (q_fieldH _ rfl Fx.fl147_1 rfl rfl) rfl rfl rfl ?_
 refine LexK.q (q_fieldH _ rfl Fx.fl28_3 rfl rfl) rfl rfl rfl ?_
 refine LexK.r (g_store rfl rfl Fx.ty24 rfl rfl (by (repeat rw [upd_ne _ _ (by first | assumption | exact Ne.symm (by assumption))]); first | assumption | exact upd_same _ _ _) rfl rfl rfl) rfl ?_
 refine LexK.nil (by kernel_rfl) ?_
 refine AW.ret ?_
 exact fin_x (x := .tup []) (_) .nil rfl (fun _ _ h => h) (⟨rfl, by
  show upd (upd H k _) k _ = _
  rw [upd_upd]; rfl⟩)

set_option maxHeartbeats 4000000 in
set_option maxRecDepth 20000 in
theorem add_t (H : Heap) (k : Nat) (hk : H k = some (.box bl0)) : E.Spec Try.prog 86 [.a (.bp k 0), .g (ltA true)] H fun x H' => x = .tup [] ∧ H' = upd H k (some (.box (bl1 true))) := by
 refine Spec.enter Try.func86 rfl ?_
 refine AW.wk (Wk.keep 208 [(0, .c (.a (.bp k 0))), (1, .c (.g (ltA true)))] [] (H) rfl ⟨rfl, rfl, trivial⟩ trivial (fun _ _ h => h) rfl) ?_
 refine sR ?_
 refine SeqK.r (b_box (r := [_, _, _, _, _, _, _, _, _, _]) rfl rfl rfl rfl rfl rfl) rfl ?_
 refine SeqK.nil ?_
 refine AW.seq ?_
 refine sR ?_
 refine SeqK.q (q_fieldL _ rfl Fx.fl143_0 rfl rfl) rfl rfl rfl ?_
 refine SeqK.q (q_fieldL _ rfl Fx.fl63_0 rfl rfl) rfl rfl rfl ?_
 refine SeqK.r (b_load (r := .a _) rfl Fx.ty3 rfl rfl rfl rfl rfl rfl) rfl ?_
 refine SeqK.nil ?_
 refine AW.block ?_
 refine sR ?_
 refine SeqK.q (q_eql rfl rfl rfl) rfl rfl rfl ?_
 refine sA ?_
 refine SeqK.nil ?_
 refine AW.condF rfl ?_
 refine AW.seq ?_
 refine sR ?_
 refine SeqK.q (q_eql rfl rfl rfl) rfl rfl rfl ?_
 refine sA ?_
 refine SeqK.nil ?_
 refine AW.condF rfl ?_
 refine sR ?_
 refine SeqK.q (q_eql rfl rfl rfl) rfl rfl rfl ?_
 refine sA ?_
 refine SeqK.nil ?_
 refine AW.condF rfl ?_
 refine AW.reg ?_
 refine SeqK.q (q_eql rfl rfl rfl) rfl rfl rfl ?_
 refine sA ?_
 refine SeqK.nil ?_
 refine AW.condT rfl ?_
 refine AW.seq ?_
 refine AW.draw Fx.mo ?_
 refine LexK.q (q_mvC rfl rfl) rfl rfl rfl ?_
 refine LexK.q (q_mvC rfl rfl) rfl rfl rfl ?_
 refine LexK.q (q_nilH rfl rfl) rfl rfl rfl ?_
 refine LexK.q (q_fieldH _ rfl Fx.fl147_1 rfl rfl) rfl rfl rfl ?_
 refine LexK.q (q_fieldH _ rfl Fx.fl28_1 rfl rfl) rfl rfl rfl ?_
 refine LexK.r (g_load (r := .a _) rfl Fx.ty22 rfl (by (repeat rw [upd_ne _ _ (by first | assumption | exact Ne.symm (by assumption))]); first | assumption | exact upd_same _ _ _) rfl rfl rfl rfl) rfl ?_
 refine LexK.q (q_fieldL _ rfl Fx.fl143_0 rfl rfl) rfl rfl rfl ?_
 refine LexK.q (q_fieldL _ rfl Fx.fl63_3 rfl rfl) rfl rfl rfl ?_
 refine LexK.r (b_load (r := .g [_, _]) rfl Fx.ty59 rfl rfl rfl rfl rfl rfl) rfl ?_
 refine LexK.q (q_call _ rfl Fx.fn93 rfl (variables_c) rfl) rfl rfl rfl ?_
 refine LexK.q (q_appNil rfl Fx.el22 rfl rfl (by simp)) rfl rfl rfl ?_
 refine LexK.q (q_nilH rfl rfl) rfl rfl rfl ?_
 refine LexK.q (q_fieldH _ rfl Fx.fl147_1 rfl rfl) rfl rfl rfl ?_
 refine LexK.q (q_fieldH _ rfl Fx.fl28_1 rfl rfl) rfl rfl rfl ?_
 refine LexK.r (g_store rfl rfl Fx.ty22 rfl rfl (by (repeat rw [upd_ne _ _ (by first | assumption | exact Ne.symm (by assumption))]); first | assumption | exact upd_same _ _ _) rfl rfl rfl) rfl ?_
 refine LexK.nil (by kernel_rfl) ?_
 refine sR ?_
 refine sM ?_
 refine SeqK.q (q_fieldL _ rfl Fx.fl143_0 rfl rfl) rfl rfl rfl ?_
 refine SeqK.q (q_fieldL _ rfl Fx.fl63_3 rfl rfl) rfl rfl rfl ?_
 refine SeqK.r (b_load (r := .g [_, _]) rfl Fx.ty59 rfl rfl rfl rfl rfl rfl) rfl ?_
 refine SeqK.q (q_call _ rfl Fx.fn94 rfl (form_c _) rfl) rfl rfl rfl ?_
 refine SeqK.r (b_alloc (r := [_, _]) rfl rfl Fx.ze74 rfl rfl rfl rfl) rfl ?_
 refine SeqK.r (b_store (r := [_, _]) rfl rfl Fx.ty74 rfl rfl rfl rfl rfl rfl) rfl ?_
 refine SeqK.nil ?_
 refine AW.seq ?_
 refine sR ?_
 refine SeqK.q (q_fieldL _ rfl Fx.fl143_0 rfl rfl) rfl rfl rfl ?_
 refine SeqK.q (q_fieldL _ rfl Fx.fl63_0 rfl rfl) rfl rfl rfl ?_
 refine SeqK.r (b_load (r := .a _) rfl Fx.ty3 rfl rfl rfl rfl rfl rfl) rfl ?_
 refine SeqK.nil ?_
 refine AW.block ?_
 refine sR ?_
 refine SeqK.q (q_eql rfl rfl rfl) rfl rfl rfl ?_
 refine sA ?_
 refine SeqK.nil ?_
 refine AW.condF rfl ?_
 refine sR ?_
 refine SeqK.q (q_eql rfl rfl rfl) rfl rfl rfl ?_
 refine sA ?_
 refine SeqK.nil ?_
 refine AW.condT rfl ?_
 refine AW.seq ?_
 refine sR ?_
 refine SeqK.q (q_fieldL _ rfl Fx.fl143_1 rfl rfl) rfl rfl rfl ?_
 refine SeqK.r (b_load (r := .a _) rfl Fx.ty4 rfl rfl rfl rfl rfl rfl) rfl ?_
 refine SeqK.nil ?_
 refine AW.condT rfl ?_
 refine AW.reg ?_
 refine SeqK.r (b_load (r := .g [_, _]) rfl Fx.ty74 rfl rfl rfl rfl rfl rfl) rfl ?_
 refine SeqK.q (q_call _ rfl Fx.fn95 rfl (negative_c) rfl) rfl rfl rfl ?_
 refine SeqK.r (b_store (r := [_, _]) rfl rfl Fx.ty74 rfl rfl rfl rfl rfl rfl) rfl ?_
 refine SeqK.nil ?_
 refine sR ?_
 refine SeqK.q (q_fieldL _ rfl Fx.fl74_0 rfl rfl) rfl rfl rfl ?_
 refine SeqK.r (b_load (r := .a _) rfl Fx.ty2 rfl rfl rfl rfl rfl rfl) rfl ?_
 refine SeqK.q (q_add _ rfl rfl rfl (w64 (by omega) (by omega))) rfl rfl rfl ?_
 refine SeqK.q (q_fieldL _ rfl Fx.fl74_0 rfl rfl) rfl rfl rfl ?_
 refine SeqK.r (b_store (r := [_, _]) rfl rfl Fx.ty2 rfl rfl rfl rfl rfl rfl) rfl ?_
 refine SeqK.nil ?_
 refine AW.draw Fx.mo ?_
 refine LexK.q (q_mvC rfl rfl) rfl rfl rfl ?_
 refine LexK.q (q_mvC rfl rfl) rfl rfl rfl ?_
 refine LexK.q (q_nilH rfl rfl) rfl rfl rfl ?_
 refine LexK.q (q_fieldH _ rfl Fx.fl147_1 rfl rfl) rfl rfl rfl ?_
 refine LexK.q (q_fieldH _ rfl Fx.fl28_3 rfl rfl) rfl rfl rfl ?_
 refine LexK.r (g_load (r := .a _) rfl Fx.ty24 rfl (by (repeat rw [upd_ne _ _ (by first | assumption | exact Ne.symm (by assumption))]); first | assumption | exact upd_same _ _ _) rfl rfl rfl rfl) rfl ?_
 refine LexK.r (b_load (r := .g [_, _]) rfl Fx.ty74 rfl rfl rfl rfl rfl rfl) rfl ?_
 refine LexK.q (q_build2 (zs := [_, _, _]) (r := [_, _, _]) [(0, 2), (2, 1)] _ rfl Fx.ze76 rfl Fx.bp76 rfl rfl rfl rfl) rfl rfl rfl ?_
 refine LexK.q (q_buildSlice _ rfl Fx.el24 rfl (by decide) rfl) rfl rfl rfl ?_
 refine LexK.q (q_appNil rfl Fx.el24 rfl rfl (by simp)) rfl rfl rfl ?_
 refine LexK.q (q_nilH rfl rfl) rfl rfl rfl ?_
 refine LexK.q (q_fieldH _ rfl Fx.fl147_1 rfl rfl) rfl rfl rfl ?_
 refine LexK.q (q_fieldH _ rfl Fx.fl28_3 rfl rfl) rfl rfl rfl ?_
 refine LexK.r (g_store rfl rfl Fx.ty24 rfl rfl (by (repeat rw [upd_ne _ _ (by first | assumption | exact Ne.symm (by assumption))]); first | assumption | exact upd_same _ _ _) rfl rfl rfl) rfl ?_
 refine LexK.nil (by kernel_rfl) ?_
 refine AW.ret ?_
 exact fin_x (x := .tup []) (_) .nil rfl (fun _ _ h => h) (⟨rfl, by
  show upd (upd H k _) k _ = _
  rw [upd_upd]; rfl⟩)

end Go.Proofs.Ytnmfjojhgfipcaa.W
namespace Go.Proofs.Ytnmfjojhgfipcaa.W
open Go.RowKit E
set_option linter.unusedVariables false
set_option linter.unusedSimpArgs false
set_option linter.unusedSectionVars false

set_option maxHeartbeats 4000000 in
set_option maxRecDepth 20000 in
theorem build_f0  : Pure Try.prog 64 [.a (.t (.sl .nn 10 [ltT false])), iC 1] (.c (.g [.t (.sl .un 1 []), .t (.sl .un 1 [i64T 0]), nilA, .t (.sl .ne 3 [[.v (.int .i64 (if false then 4 else -2)), .sl .un 2 [[.v (.int .i64 0), .v (.int .i64 (if false then -1 else 1))]], .v (.bool false)]]), nilA, nilA, nilA])) := by
 intro H
 refine Spec.enter Try.func64 rfl ?_
 refine AW.wk (Wk.keep 45 [(0, .c (.a (.t (.sl .nn 10 [ltT false])))), (1, .c (iC 1))] [] (H) rfl ⟨rfl, rfl, trivial⟩ trivial (fun _ _ h => h) rfl) ?_
 refine sR ?_
 refine SeqK.r (b_alloc (r := [_, _, _, _, _, _, _]) rfl rfl Fx.ze28 rfl rfl rfl rfl) rfl ?_
 refine SeqK.nil ?_
 refine sR ?_
 refine sM ?_
 refine SeqK.q (q_build2 (zs := [_, _, _, _, _, _, _, _]) (r := [_, _, _, _, _, _, _, _]) [(0, 1), (1, 7)] _ rfl Fx.ze147 rfl Fx.bp147 rfl rfl rfl rfl) rfl rfl rfl ?_
 refine SeqK.newBox (r := [_, _, _, _, _, _, _, _]) rfl rfl rfl rfl rfl rfl (fun k10 hk10 => ?_)
 refine sA ?_
 refine SeqK.nil ?_
 refine AW.seq ?_
 refine sR ?_
 refine sM ?_
 refine SeqK.q (q_len rfl Fx.un116 rfl) rfl rfl rfl ?_
 refine sM ?_
 refine SeqK.nil ?_
 refine AW.block ?_
 refine AW.unroll ?_
 refine sR ?_
 refine SeqK.q (q_lss rfl rfl rfl) rfl rfl rfl ?_
 refine SeqK.nil ?_
 refine AW.seq ?_
 refine AW.condT rfl ?_
 refine AW.skip ?_
 refine AW.seq ?_
 refine AW.block ?_
 refine sR ?_
 refine SeqK.q (q_index _ rfl Fx.sl116 rfl rfl (by omega) (rfl)) rfl rfl rfl ?_
 refine SeqK.q (q_load (.g [_, _, _, _, _, _, _, _, _, _]) rfl Fx.ty143 rfl rfl rfl) rfl rfl rfl ?_
 refine SeqK.r (b_alloc (r := [_, _, _, _, _, _, _, _, _, _]) rfl rfl Fx.ze143 rfl rfl rfl rfl) rfl ?_
 refine SeqK.r (b_store (r := [_, _, _, _, _, _, _, _, _, _]) rfl rfl Fx.ty143 rfl rfl rfl rfl rfl rfl) rfl ?_
 refine SeqK.nil ?_
 refine AW.reg ?_
 refine sM ?_
 refine SeqK.r (b_load (r := .g [_, _, _, _, _, _, _, _, _, _]) rfl Fx.ty143 rfl rfl rfl rfl rfl rfl) rfl ?_
 refine SeqK.callE rfl rfl rfl rfl Fx.fn86 rfl (add_f _ k10 (upd_same _ _ _)) (fun _ _ h => by rw [h.1]; rfl) (fun x19 H19 q19 => ?_)
 obtain ⟨rfl, hHs⟩ := q19
 rw [upd_upd] at hHs
 subst hHs
 refine SeqK.nil ?_
 refine AW.reg ?_
 refine SeqK.q (q_add _ rfl rfl rfl (w64 (by omega) (by omega))) rfl rfl rfl ?_
 refine sM ?_
 refine SeqK.nil ?_
 first | with_reducible refine LoopW.again ?_ | with_reducible refine eth_n (LoopW.again ?_) | with_reducible refine eb_n (eth_n (LoopW.again ?_)) | with_reducible refine eth_n (eb_n (eth_n (LoopW.again ?_)))
 refine sR ?_
 refine SeqK.q (q_lss rfl rfl rfl) rfl rfl rfl ?_
 refine SeqK.nil ?_
 refine AW.seq ?_
 refine AW.condF rfl ?_
 refine AW.exit ?_
 refine eth_e ?_
 refine eth_e ?_
 refine exit_here ?_
 refine AW.seq ?_
 refine AW.draw Fx.mo ?_
 refine LexK.q (q_mvC rfl rfl) rfl rfl rfl ?_
 refine LexK.q (q_mvC rfl rfl) rfl rfl rfl ?_
 refine LexK.q (q_mvC rfl rfl) rfl rfl rfl ?_
 refine LexK.q (q_nilH rfl rfl) rfl rfl rfl ?_
 refine LexK.q (q_fieldH _ rfl Fx.fl147_1 rfl rfl) rfl rfl rfl ?_
 refine LexK.q (q_fieldH _ rfl Fx.fl28_0 rfl rfl) rfl rfl rfl ?_
 refine LexK.r (g_load (r := .a _) rfl Fx.ty22 rfl (by (repeat rw [upd_ne _ _ (by first | assumption | exact Ne.symm (by assumption))]); first | assumption | exact upd_same _ _ _) rfl rfl rfl rfl) rfl ?_
 refine LexK.q (q_call _ rfl Fx.fn42 rfl (Pure.arg [] XW.nilU (sorted_0 .un)) rfl) rfl rfl rfl ?_
 refine LexK.q (q_mvC rfl rfl) rfl rfl rfl ?_
 refine LexK.q (q_nilH rfl rfl) rfl rfl rfl ?_
 refine LexK.q (q_fieldH _ rfl Fx.fl147_1 rfl rfl) rfl rfl rfl ?_
 refine LexK.q (q_fieldH _ rfl Fx.fl28_1 rfl rfl) rfl rfl rfl ?_
 refine LexK.r (g_load (r := .a _) rfl Fx.ty22 rfl (by (repeat rw [upd_ne _ _ (by first | assumption | exact Ne.symm (by assumption))]); first | assumption | exact upd_same _ _ _) rfl rfl rfl rfl) rfl ?_
 refine LexK.q (q_call _ rfl Fx.fn42 rfl ((sorted_1 .ne _).res XW.un) rfl) rfl rfl rfl ?_
 refine LexK.q (q_nilH rfl rfl) rfl rfl rfl ?_
 refine LexK.q (q_fieldH _ rfl Fx.fl147_1 rfl rfl) rfl rfl rfl ?_
 refine LexK.q (q_fieldH _ rfl Fx.fl28_0 rfl rfl) rfl rfl rfl ?_
 refine LexK.r (g_store rfl rfl Fx.ty22 rfl rfl (by (repeat rw [upd_ne _ _ (by first | assumption | exact Ne.symm (by assumption))]); first | assumption | exact upd_same _ _ _) rfl rfl rfl) rfl ?_
 refine LexK.q (q_nilH rfl rfl) rfl rfl rfl ?_
 refine LexK.q (q_fieldH _ rfl Fx.fl147_1 rfl rfl) rfl rfl rfl ?_
 refine LexK.q (q_fieldH _ rfl Fx.fl28_1 rfl rfl) rfl rfl rfl ?_
 refine LexK.r (g_store rfl rfl Fx.ty22 rfl rfl (by (repeat rw [upd_ne _ _ (by first | assumption | exact Ne.symm (by assumption))]); first | assumption | exact upd_same _ _ _) rfl rfl rfl) rfl ?_
 refine LexK.nil (by kernel_rfl) ?_
 refine sR ?_
 refine sM ?_
 refine SeqK.q (q_nilH rfl rfl) rfl rfl rfl ?_
 refine SeqK.q (q_fieldH _ rfl Fx.fl147_1 rfl rfl) rfl rfl rfl ?_
 refine SeqK.r (g_load (r := .g [_, _, _, _, _, _, _]) rfl Fx.ty28 rfl (by (repeat rw [upd_ne _ _ (by first | assumption | exact Ne.symm (by assumption))]); first | assumption | exact upd_same _ _ _) rfl rfl rfl rfl) rfl ?_
 refine SeqK.r (b_store (r := [_, _, _, _, _, _, _]) rfl rfl Fx.ty28 rfl rfl rfl rfl rfl rfl) rfl ?_
 refine SeqK.nil ?_
 refine AW.ret ?_
 exact fin_x (x := .c _) (H) (.cellL rfl rfl Fx.ty28 rfl rfl .nil) rfl (fun j o h => by
  show upd (upd (upd H k10 _) k10 _) k10 _ j = _
  rw [upd_upd, upd_upd]; exact upd_sub hk10 j o h) (⟨rfl, rfl⟩)

set_option maxHeartbeats 4000000 in
set_option maxRecDepth 20000 in
theorem build_t0  : Pure Try.prog 64 [.a (.t (.sl .nn 10 [ltT true])), iC 1] (.c (.g [.t (.sl .un 1 []), .t (.sl .un 1 [i64T 0]), nilA, .t (.sl .ne 3 [[.v (.int .i64 (if true then 4 else -2)), .sl .un 2 [[.v (.int .i64 0), .v (.int .i64 (if true then -1 else 1))]], .v (.bool false)]]), nilA, nilA, nilA])) := by
 intro H
 refine Spec.enter Try.func64 rfl ?_
 refine AW.wk (Wk.keep 45 [(0, .c (.a (.t (.sl .nn 10 [ltT true])))), (1, .c (iC 1))] [] (H) rfl ⟨rfl, rfl, trivial⟩ trivial (fun _ _ h => h) rfl) ?_
 refine sR ?_
 refine SeqK.r (b_alloc (r := [_, _, _, _, _, _, _]) rfl rfl Fx.ze28 rfl rfl rfl rfl) rfl ?_
 refine SeqK.nil ?_
 refine sR ?_
 refine sM ?_
 refine SeqK.q (q_build2 (zs := [_, _, _, _, _, _, _, _]) (r := [_, _, _, _, _, _, _, _]) [(0, 1), (1, 7)] _ rfl Fx.ze147 rfl Fx.bp147 rfl rfl rfl rfl) rfl rfl rfl ?_
 refine SeqK.newBox (r := [_, _, _, _, _, _, _, _]) rfl rfl rfl rfl rfl rfl (fun k10 hk10 => ?_)
 refine sA ?_
 refine SeqK.nil ?_
 refine AW.seq ?_
 refine sR ?_
 refine sM ?_
 refine SeqK.q (q_len rfl Fx.un116 rfl) rfl rfl rfl ?_
 refine sM ?_
 refine SeqK.nil ?_
 refine AW.block ?_
 refine AW.unroll ?_
 refine sR ?_
 refine SeqK.q (q_lss rfl rfl rfl) rfl rfl rfl ?_
 refine SeqK.nil ?_
 refine AW.seq ?_
 refine AW.condT rfl ?_
 refine AW.skip ?_
 refine AW.seq ?_
 refine AW.block ?_
 refine sR ?_
 refine SeqK.q (q_index _ rfl Fx.sl116 rfl rfl (by omega) (rfl)) rfl rfl rfl ?_
 refine SeqK.q (q_load (.g [_, _, _, _, _, _, _, _, _, _]) rfl Fx.ty143 rfl rfl rfl) rfl rfl rfl ?_
 refine SeqK.r (b_alloc (r := [_, _, _, _, _, _, _, _, _, _]) rfl rfl Fx.ze143 rfl rfl rfl rfl) rfl ?_
 refine SeqK.r (b_store (r := [_, _, _, _, _, _, _, _, _, _]) rfl rfl Fx.ty143 rfl rfl rfl rfl rfl rfl) rfl ?_
 refine SeqK.nil ?_
 refine AW.reg ?_
 refine sM ?_
 refine SeqK.r (b_load (r := .g [_, _, _, _, _, _, _, _, _, _]) rfl Fx.ty143 rfl rfl rfl rfl rfl rfl) rfl ?_
 refine SeqK.callE rfl rfl rfl rfl Fx.fn86 rfl (add_t _ k10 (upd_same _ _ _)) (fun _ _ h => by rw [h.1]; rfl) (fun x19 H19 q19 => ?_)
 obtain ⟨rfl, hHs⟩ := q19
 rw [upd_upd] at hHs
 subst hHs
 refine SeqK.nil ?_
 refine AW.reg ?_
 refine SeqK.q (q_add _ rfl rfl rfl (w64 (by omega) (by omega))) rfl rfl rfl ?_
 refine sM ?_
 refine SeqK.nil ?_
 first | with_reducible refine LoopW.again ?_ | with_reducible refine eth_n (LoopW.again ?_) | with_reducible refine eb_n (eth_n (LoopW.again ?_)) | with_reducible refine eth_n (eb_n (eth_n (LoopW.again ?_)))
 refine sR ?_
 refine SeqK.q (q_lss rfl rfl rfl) rfl rfl rfl ?_
 refine SeqK.nil ?_
 refine AW.seq ?_
 refine AW.condF rfl ?_
 refine AW.exit ?_
 refine eth_e ?_
 refine eth_e ?_
 refine exit_here ?_
 refine AW.seq ?_
 refine AW.draw Fx.mo ?_
 refine LexK.q (q_mvC rfl rfl) rfl rfl rfl ?_
 refine LexK.q (q_mvC rfl rfl) rfl rfl rfl ?_
 refine LexK.q (q_mvC rfl rfl) rfl rfl rfl ?_
 refine LexK.q (q_nilH rfl rfl) rfl rfl rfl ?_
 refine LexK.q (q_fieldH _ rfl Fx.fl147_1 rfl rfl) rfl rfl rfl ?_
 refine LexK.q (q_fieldH _ rfl Fx.fl28_0 rfl rfl) rfl rfl rfl ?_
 refine LexK.r (g_load (r := .a _) rfl Fx.ty22 rfl (by (repeat rw [upd_ne _ _ (by first | assumption | exact Ne.symm (by assumption))]); first | assumption | exact upd_same _ _ _) rfl rfl rfl rfl) rfl ?_
 refine LexK.q (q_call _ rfl Fx.fn42 rfl (Pure.arg [] XW.nilU (sorted_0 .un)) rfl) rfl rfl rfl ?_
 refine LexK.q (q_mvC rfl rfl) rfl rfl rfl ?_
 refine LexK.q (q_nilH rfl rfl) rfl rfl rfl ?_
 refine LexK.q (q_fieldH _ rfl Fx.fl147_1 rfl rfl) rfl rfl rfl ?_
 refine LexK.q (q_fieldH _ rfl Fx.fl28_1 rfl rfl) rfl rfl rfl ?_
 refine LexK.r (g_load (r := .a _) rfl Fx.ty22 rfl (by (repeat rw [upd_ne _ _ (by first | assumption | exact Ne.symm (by assumption))]); first | assumption | exact upd_same _ _ _) rfl rfl rfl rfl) rfl ?_
 refine LexK.q (q_call _ rfl Fx.fn42 rfl ((sorted_1 .ne _).res XW.un) rfl) rfl rfl rfl ?_
 refine LexK.q (q_nilH rfl rfl) rfl rfl rfl ?_
 refine LexK.q (q_fieldH _ rfl Fx.fl147_1 rfl rfl) rfl rfl rfl ?_
 refine LexK.q (q_fieldH _ rfl Fx.fl28_0 rfl rfl) rfl rfl rfl ?_
 refine LexK.r (g_store rfl rfl Fx.ty22 rfl rfl (by (repeat rw [upd_ne _ _ (by first | assumption | exact Ne.symm (by assumption))]); first | assumption | exact upd_same _ _ _) rfl rfl rfl) rfl ?_
 refine LexK.q (q_nilH rfl rfl) rfl rfl rfl ?_
 refine LexK.q (q_fieldH _ rfl Fx.fl147_1 rfl rfl) rfl rfl rfl ?_
 refine LexK.q (q_fieldH _ rfl Fx.fl28_1 rfl rfl) rfl rfl rfl ?_
 refine LexK.r (g_store rfl rfl Fx.ty22 rfl rfl (by (repeat rw [upd_ne _ _ (by first | assumption | exact Ne.symm (by assumption))]); first | assumption | exact upd_same _ _ _) rfl rfl rfl) rfl ?_
 refine LexK.nil (by kernel_rfl) ?_
 refine sR ?_
 refine sM ?_
 refine SeqK.q (q_nilH rfl rfl) rfl rfl rfl ?_
 refine SeqK.q (q_fieldH _ rfl Fx.fl147_1 rfl rfl) rfl rfl rfl ?_
 refine SeqK.r (g_load (r := .g [_, _, _, _, _, _, _]) rfl Fx.ty28 rfl (by (repeat rw [upd_ne _ _ (by first | assumption | exact Ne.symm (by assumption))]); first | assumption | exact upd_same _ _ _) rfl rfl rfl rfl) rfl ?_
 refine SeqK.r (b_store (r := [_, _, _, _, _, _, _]) rfl rfl Fx.ty28 rfl rfl rfl rfl rfl rfl) rfl ?_
 refine SeqK.nil ?_
 refine AW.ret ?_
 exact fin_x (x := .c _) (H) (.cellL rfl rfl Fx.ty28 rfl rfl .nil) rfl (fun j o h => by
  show upd (upd (upd H k10 _) k10 _) k10 _ j = _
  rw [upd_upd, upd_upd]; exact upd_sub hk10 j o h) (⟨rfl, rfl⟩)

theorem build_f : Pure Try.prog 64 [.a (.t (.sl .nn 10 [ltT false])), iC 1] (.c (clC (clB false))) := build_f0.res (XW.g (.cons XW.reA (.cons XW.reA (.cons XW.nilU (.cons XW.un (.cons XW.nilU (.cons XW.nilU (.cons XW.nilU .nil))))))))
theorem build_t : Pure Try.prog 64 [.a (.t (.sl .nn 10 [ltT true])), iC 1] (.c (clC (clB true))) := build_t0.res (XW.g (.cons XW.reA (.cons XW.reA (.cons XW.nilU (.cons XW.un (.cons XW.nilU (.cons XW.nilU (.cons XW.nilU .nil))))))))

set_option maxHeartbeats 4000000 in
set_option maxRecDepth 20000 in
theorem clauses_c0  : Pure Try.prog 24 [.g fmA, vsC .nn vs1] (.tup [.a (.t (.sl .ne 7 [clT (clB false), clT (clB true)])), iC 0]) := by
 intro H
 refine Spec.enter Try.func24 rfl ?_
 refine AW.wk (Wk.keep 31 [(0, .c (.g fmA)), (1, .c (vsC .nn vs1))] [] (H) rfl ⟨rfl, rfl, trivial⟩ trivial (fun _ _ h => h) rfl) ?_
 refine sR ?_
 refine SeqK.r (b_box (r := [_, _, _, _, _, _, _, _, _, _, _]) rfl rfl rfl rfl rfl rfl) rfl ?_
 refine sA ?_
 refine sA ?_
 refine SeqK.nil ?_
 refine sR ?_
 refine SeqK.r (b_load (r := .g [_, _, _, _, _, _, _, _, _, _, _]) rfl Fx.ty66 rfl rfl rfl rfl rfl rfl) rfl ?_
 refine sM ?_
 refine SeqK.q (q_call _ rfl Fx.fn61 rfl (simplify_c) rfl) rfl rfl rfl ?_
 refine SeqK.r (b_store (r := [_, _, _, _, _, _, _, _, _, _, _]) rfl rfl Fx.ty66 rfl rfl rfl rfl rfl rfl) rfl ?_
 refine SeqK.nil ?_
 refine AW.seq ?_
 refine sR ?_
 refine SeqK.r (b_load (r := .g [_, _, _, _, _, _, _, _, _, _, _]) rfl Fx.ty66 rfl rfl rfl rfl rfl rfl) rfl ?_
 refine SeqK.q (q_call _ rfl Fx.fn62 rfl (count_c) rfl) rfl rfl rfl ?_
 refine SeqK.q (q_gtr rfl rfl rfl) rfl rfl rfl ?_
 refine SeqK.nil ?_
 refine AW.condF rfl ?_
 refine AW.skip ?_
 refine sR ?_
 refine sA ?_
 refine SeqK.nil ?_
 refine AW.seq ?_
 refine sR ?_
 refine SeqK.r (b_load (r := .g [_, _, _, _, _, _, _, _, _, _, _]) rfl Fx.ty66 rfl rfl rfl rfl rfl rfl) rfl ?_
 refine SeqK.q (q_call _ rfl Fx.fn63 rfl (expand_c) rfl) rfl rfl rfl ?_
 refine SeqK.q (q_len rfl Fx.un114 rfl) rfl rfl rfl ?_
 refine sM ?_
 refine SeqK.nil ?_
 refine AW.block ?_
 refine AW.tip 6 28 7 rfl (fun k0 hk0 => ?_)
 refine AW.wk (Wk.keep 31 [(1, .c (vsC .nn vs1)), (6, .c (.a (.ts k0 .ne 7 []))), (16, .c (.a (.t (.sl .nn 1 [[.sl .nn 10 [ltT false]], [.sl .nn 10 [ltT true]]])))), (17, iX .i64 2), (18, iX .i64 0)] [] (upd H k0 (some (.tip 28 7 ([] : List (List E.T)).length))) rfl ⟨rfl, rfl, rfl, rfl, rfl, trivial⟩ trivial (fun _ _ h => h) rfl) ?_
 refine AW.unroll ?_
 refine sR ?_
 refine SeqK.q (q_lss rfl rfl rfl) rfl rfl rfl ?_
 refine SeqK.nil ?_
 refine AW.seq ?_
 refine AW.condT rfl ?_
 refine AW.skip ?_
 refine AW.seq ?_
 refine AW.block ?_
 refine sR ?_
 refine SeqK.q (q_index _ rfl Fx.sl114 rfl rfl (by omega) (rfl)) rfl rfl rfl ?_
 refine SeqK.q (q_load (.a _) rfl Fx.ty116 rfl rfl rfl) rfl rfl rfl ?_
 refine sA ?_
 refine SeqK.nil ?_
 refine AW.reg ?_
 refine sM ?_
 refine sM ?_
 refine sM ?_
 refine SeqK.q (q_len rfl Fx.un29 rfl) rfl rfl rfl ?_
 refine SeqK.q (q_call _ rfl Fx.fn64 rfl (build_f) rfl) rfl rfl rfl ?_
 refine SeqK.q (q_buildSlice _ rfl Fx.el67 rfl (by decide) rfl) rfl rfl rfl ?_
 refine SeqK.app1 rfl (by assumption) rfl Fx.el67 rfl rfl (by simp) rfl rfl (fun k28 hk28 => ?_)
 refine sA ?_
 refine SeqK.nil ?_
 refine AW.reg ?_
 refine SeqK.q (q_add _ rfl rfl rfl (w64 (by omega) (by omega))) rfl rfl rfl ?_
 refine sM ?_
 refine SeqK.nil ?_
 first | with_reducible refine LoopW.again ?_ | with_reducible refine eth_n (LoopW.again ?_) | with_reducible refine eb_n (eth_n (LoopW.again ?_)) | with_reducible refine eth_n (eb_n (eth_n (LoopW.again ?_)))
 refine sR ?_
 refine SeqK.q (q_lss rfl rfl rfl) rfl rfl rfl ?_
 refine SeqK.nil ?_
 refine AW.seq ?_
 refine AW.condT rfl ?_
 refine AW.skip ?_
 refine AW.seq ?_
 refine AW.block ?_
 refine sR ?_
 refine SeqK.q (q_index _ rfl Fx.sl114 rfl rfl (by omega) (rfl)) rfl rfl rfl ?_
 refine SeqK.q (q_load (.a _) rfl Fx.ty116 rfl rfl rfl) rfl rfl rfl ?_
 refine sA ?_
 refine SeqK.nil ?_
 refine AW.reg ?_
 refine sM ?_
 refine sM ?_
 refine sM ?_
 refine SeqK.q (q_len rfl Fx.un29 rfl) rfl rfl rfl ?_
 refine SeqK.q (q_call _ rfl Fx.fn64 rfl (build_t) rfl) rfl rfl rfl ?_
 refine SeqK.q (q_buildSlice _ rfl Fx.el67 rfl (by decide) rfl) rfl rfl rfl ?_
 refine SeqK.app1 rfl (by assumption) rfl Fx.el67 rfl rfl (by simp) rfl rfl (fun k28 hk28 => ?_)
 refine sA ?_
 refine SeqK.nil ?_
 refine AW.reg ?_
 refine SeqK.q (q_add _ rfl rfl rfl (w64 (by omega) (by omega))) rfl rfl rfl ?_
 refine sM ?_
 refine SeqK.nil ?_
 first | with_reducible refine LoopW.again ?_ | with_reducible refine eth_n (LoopW.again ?_) | with_reducible refine eb_n (eth_n (LoopW.again ?_)) | with_reducible refine eth_n (eb_n (eth_n (LoopW.again ?_)))
 refine sR ?_
 refine SeqK.q (q_lss rfl rfl rfl) rfl rfl rfl ?_
 refine SeqK.nil ?_
 refine AW.seq ?_
 refine AW.condF rfl ?_
 refine AW.exit ?_
 refine eth_e ?_
 refine eth_e ?_
 refine exit_here ?_
 refine sR ?_
 refine sM ?_
 refine sA ?_
 refine sA ?_
 refine SeqK.nil ?_
 refine AW.ret ?_
 exact fin_w (x := .tup [_, _]) (H) (.tmp rfl (.tmp rfl .nil)) rfl (fun j o h => upd_sub hk28 j o h) (⟨rfl, rfl⟩)

end Go.Proofs.Ytnmfjojhgfipcaa.W
namespace Go.Proofs.Ytnmfjojhgfipcaa.W
open Go.RowKit E
set_option linter.unusedVariables false
set_option linter.unusedSimpArgs false
set_option linter.unusedSectionVars false
theorem okC_of {c : Cl} {l : List Vr} {r : List RV} (hv : vldP c l) (hi : r.length = l.length) : okC c r := by
  obtain ⟨h1, h2, h3, h4, h5, h6, h7⟩ := hv
  have hb : ∀ (l' : List Ax), (bsF l.length l').length = l'.length := fun l' => bsF_len _ _
  refine ⟨fun j h => ?_, fun j h => ?_, fun j h => ⟨fun h0 => ?_, fun h0 => ?_⟩, fun j h => fun i hh => ?_, fun j h => ?_, fun j h => ?_, fun j h => ?_, fun a ha => ?_, fun a ha => ?_⟩
  · have := h1 j h; exact ⟨this.1, by rw [hi]; exact this.2.1⟩
  · have := h2 j h; exact ⟨this.1, by rw [hi]; exact this.2.1⟩
  · rcases h3 j h with ⟨_, _, _, k, _⟩ | ⟨k, _⟩
    · rw [hi]; exact k
    · exact absurd h0 k
  · rcases h3 j h with ⟨k, _⟩ | ⟨_, k, k2, _⟩
    · exact absurd k h0
    · refine ⟨k2, fun i hh => ?_⟩
      have := k.2.1 i hh
      rw [hb, List.length_take] at this
      have h8 := this.1
      rw [hi]; omega
  · have := (h4 j h).2.1 i hh
    rw [hb] at this
    have h8 := this.1
    rw [hi]; omega
  · have := (h5 j h).2.1; rw [hi]; exact this
  · have := h6 j h; rw [hi]; exact ⟨this.1.1, this.2.1.1⟩
  · have := h7 j h; rw [hi]; exact ⟨this.1.1, this.2.1.1⟩
  · obtain ⟨j, h, rfl⟩ := List.mem_iff_getElem.1 ha
    rcases h3 j h with ⟨_, _, k, _⟩ | ⟨_, k, _⟩
    · rw [k]; decide
    · have := k.1; exact ⟨by omega, by omega⟩
  · obtain ⟨j, h, rfl⟩ := List.mem_iff_getElem.1 ha
    have := (h4 j h).1; exact ⟨by omega, by omega⟩
theorem rg_clB (b : Bool) : rgC (clB b) := by cases b <;> exact ⟨by decide, by decide, by decide, by decide, by decide, by decide, by decide, by decide, by decide, by decide⟩
abbrev rwN (n : Int) : List RV := [⟨1, n, ⟨#[]⟩⟩]
theorem vld_clB (b : Bool) : vldP (clB b) vs1 := by cases b <;> decide +kernel
theorem valid_cn (b : Bool) : Pure Try.prog 20 [clC (clB b), vsC .nn vs1] (.c (bC true)) := by
  have := rvalid_any (clB b) vs1 .nn (rg_clB b) (by decide)
  rw [decide_eq_true (vld_clB b)] at this; exact this
theorem hol_any (b : Bool) (n : Int) : Pure Try.prog 10 [clC (clB b), rowC .nn (rwN n)] (.c (bC (decide (holP (clB b) (rwN n))))) :=
  holds_any (clB b) (rwN n) .nn (rg_clB b) (by simp) (fun v hv => by rw [List.mem_singleton.1 hv]; show (0 : Nat) ≤ _; omega) (okC_of (vld_clB b) rfl) (fun t ht => by cases b <;> cases ht)
theorem hol_c (b x : Bool) (n : Int) (h : decide (holP (clB b) (rwN n)) = x) : Pure Try.prog 10 [clC (clB b), rowC .nn (rwN n)] (.c (bC x)) := h ▸ hol_any b n

set_option maxHeartbeats 4000000 in
set_option maxRecDepth 20000 in
theorem awake_any  : Pure Try.prog 8 [] (.c (bC true)) := by
 intro H
 refine Spec.enter Try.func8 rfl ?_
 refine AW.wk (Wk.keep 75 [] [] (H) rfl trivial trivial (fun _ _ h => h) rfl) ?_
 refine sR ?_
 refine sA ?_
 refine SeqK.nil ?_
 refine sR ?_
 refine SeqK.q (q_build2 (zs := [_, _, _, _, _]) (r := [_, _, _, _, _]) [(0, 1), (1, 1), (2, 1), (3, 1), (4, 1)] _ rfl Fx.ze53 rfl Fx.bp53 rfl rfl rfl rfl) rfl rfl rfl ?_
 refine SeqK.q (q_buildSlice _ rfl Fx.el29 rfl (by decide) rfl) rfl rfl rfl ?_
 refine sA ?_
 refine SeqK.nil ?_
 refine sR ?_
 refine SeqK.q (q_build2 (zs := [_, _, _, _, _]) (r := [_, _, _, _, _]) [(0, 1), (1, 1), (2, 1), (3, 1), (4, 1)] _ rfl Fx.ze56 rfl Fx.bp56 rfl rfl rfl rfl) rfl rfl rfl ?_
 refine SeqK.q (q_buildSlice _ rfl Fx.el57 rfl (by decide) rfl) rfl rfl rfl ?_
 refine SeqK.q (q_build2 (zs := [_, _]) (r := [_, _]) [(0, 1), (1, 1)] _ rfl Fx.ze59 rfl Fx.bp59 rfl rfl rfl rfl) rfl rfl rfl ?_
 refine SeqK.q (q_build2 (zs := [_, _, _, _, _, _, _, _, _]) (r := [_, _, _, _, _, _, _, _, _]) [(0, 1), (1, 1), (2, 1), (3, 2), (5, 4)] _ rfl Fx.ze63 rfl Fx.bp63 rfl rfl rfl rfl) rfl rfl rfl ?_
 refine SeqK.q (q_build2 (zs := [_, _, _, _, _, _, _, _, _, _, _]) (r := [_, _, _, _, _, _, _, _, _, _, _]) [(0, 1), (1, 9), (10, 1)] _ rfl Fx.ze66 rfl Fx.bp66 rfl rfl rfl rfl) rfl rfl rfl ?_
 refine SeqK.r (b_alloc (r := [_, _, _, _, _, _, _, _, _, _, _]) rfl rfl Fx.ze66 rfl rfl rfl rfl) rfl ?_
 refine SeqK.r (b_store (r := [_, _, _, _, _, _, _, _, _, _, _]) rfl rfl Fx.ty66 rfl rfl rfl rfl rfl rfl) rfl ?_
 refine SeqK.nil ?_
 refine sR ?_
 refine SeqK.r (b_load (r := .g [_, _, _, _, _, _, _, _, _, _, _]) rfl Fx.ty66 rfl rfl rfl rfl rfl rfl) rfl ?_
 refine sM ?_
 refine SeqK.q (q_call _ rfl Fx.fn24 rfl (clauses_c0) rfl) rfl rfl rfl ?_
 refine SeqK.q (q_mvT rfl rfl) rfl rfl rfl ?_
 refine SeqK.q (q_extract _ rfl rfl rfl) rfl rfl rfl ?_
 refine SeqK.q (q_extract _ rfl rfl rfl) rfl rfl rfl ?_
 refine sA ?_
 refine sA ?_
 refine SeqK.nil ?_
 refine AW.seq ?_
 refine sR ?_
 refine sM ?_
 refine SeqK.q (q_neq rfl rfl rfl) rfl rfl rfl ?_
 refine sM ?_
 refine SeqK.on (q_mvC rfl rfl) rfl rfl rfl rfl rfl ?_
 refine SeqK.on (q_len rfl Fx.un67 rfl) rfl rfl rfl rfl rfl ?_
 refine SeqK.on (q_neq rfl rfl rfl) rfl rfl rfl rfl rfl ?_
 refine SeqK.q (q_pkF rfl rfl rfl) rfl rfl rfl ?_
 refine sM ?_
 refine SeqK.on (q_mvC rfl rfl) rfl rfl rfl rfl rfl ?_
 refine SeqK.on (q_index _ rfl Fx.sl67 rfl rfl (by omega) (rfl)) rfl rfl rfl rfl rfl ?_
 refine SeqK.on (q_load (.g [_, _, _, _, _, _, _]) rfl Fx.ty28 rfl rfl rfl) rfl rfl rfl rfl rfl ?_
 refine SeqK.on (q_mvC rfl rfl) rfl rfl rfl rfl rfl ?_
 refine SeqK.on (q_call _ rfl Fx.fn20 rfl (valid_cn false) rfl) rfl rfl rfl rfl rfl ?_
 refine SeqK.on (q_not rfl rfl) rfl rfl rfl rfl rfl ?_
 refine SeqK.q (q_pkF rfl rfl rfl) rfl rfl rfl ?_
 refine sM ?_
 refine SeqK.on (q_mvC rfl rfl) rfl rfl rfl rfl rfl ?_
 refine SeqK.on (q_index _ rfl Fx.sl67 rfl rfl (by omega) (rfl)) rfl rfl rfl rfl rfl ?_
 refine SeqK.on (q_load (.g [_, _, _, _, _, _, _]) rfl Fx.ty28 rfl rfl rfl) rfl rfl rfl rfl rfl ?_
 refine SeqK.on (q_mvC rfl rfl) rfl rfl rfl rfl rfl ?_
 refine SeqK.on (q_call _ rfl Fx.fn20 rfl (valid_cn true) rfl) rfl rfl rfl rfl rfl ?_
 refine SeqK.on (q_not rfl rfl) rfl rfl rfl rfl rfl ?_
 refine SeqK.q (q_pkF rfl rfl rfl) rfl rfl rfl ?_
 refine SeqK.nil ?_
 refine AW.condF rfl ?_
 refine AW.skip ?_
 refine sR ?_
 refine SeqK.q (q_build2 (zs := [_, _, _]) (r := [_, _, _]) [(0, 1), (1, 1), (2, 1)] _ rfl Fx.ze42 rfl Fx.bp42 rfl rfl rfl rfl) rfl rfl rfl ?_
 refine SeqK.q (q_buildSlice _ rfl Fx.el31 rfl (by decide) rfl) rfl rfl rfl ?_
 refine SeqK.q (q_build2 (zs := [_, _, _]) (r := [_, _, _]) [(0, 1), (1, 1), (2, 1)] _ rfl Fx.ze42 rfl Fx.bp42 rfl rfl rfl rfl) rfl rfl rfl ?_
 refine SeqK.q (q_buildSlice _ rfl Fx.el31 rfl (by decide) rfl) rfl rfl rfl ?_
 refine sA ?_
 refine sA ?_
 refine SeqK.nil ?_
 refine sR ?_
 refine sM ?_
 refine SeqK.q (q_index _ rfl Fx.sl67 rfl rfl (by omega) (rfl)) rfl rfl rfl ?_
 refine SeqK.q (q_load (.g [_, _, _, _, _, _, _]) rfl Fx.ty28 rfl rfl rfl) rfl rfl rfl ?_
 refine sM ?_
 refine SeqK.q (q_call _ rfl Fx.fn10 rfl (hol_c false false 3 (by decide +kernel)) rfl) rfl rfl rfl ?_
 refine SeqK.q (q_not rfl rfl) rfl rfl rfl ?_
 refine sM ?_
 refine SeqK.on (q_mvC rfl rfl) rfl rfl rfl rfl rfl ?_
 refine SeqK.on (q_index _ rfl Fx.sl67 rfl rfl (by omega) (rfl)) rfl rfl rfl rfl rfl ?_
 refine SeqK.on (q_load (.g [_, _, _, _, _, _, _]) rfl Fx.ty28 rfl rfl rfl) rfl rfl rfl rfl rfl ?_
 refine SeqK.on (q_mvC rfl rfl) rfl rfl rfl rfl rfl ?_
 refine SeqK.on (q_call _ rfl Fx.fn10 rfl (hol_c true false 3 (by decide +kernel)) rfl) rfl rfl rfl rfl rfl ?_
 refine SeqK.on (q_not rfl rfl) rfl rfl rfl rfl rfl ?_
 refine SeqK.q (q_pkT rfl rfl rfl) rfl rfl rfl ?_
 refine sM ?_
 refine SeqK.on (q_mvC rfl rfl) rfl rfl rfl rfl rfl ?_
 refine SeqK.on (q_index _ rfl Fx.sl67 rfl rfl (by omega) (rfl)) rfl rfl rfl rfl rfl ?_
 refine SeqK.on (q_load (.g [_, _, _, _, _, _, _]) rfl Fx.ty28 rfl rfl rfl) rfl rfl rfl rfl rfl ?_
 refine SeqK.on (q_mvC rfl rfl) rfl rfl rfl rfl rfl ?_
 refine SeqK.on (q_call _ rfl Fx.fn10 rfl (hol_c false false 4 (by decide +kernel)) rfl) rfl rfl rfl rfl rfl ?_
 refine SeqK.on (q_mvC rfl rfl) rfl rfl rfl rfl rfl ?_
 refine SeqK.on (q_mvC rfl rfl) rfl rfl rfl rfl rfl ?_
 refine SeqK.on (q_index _ rfl Fx.sl67 rfl rfl (by omega) (rfl)) rfl rfl rfl rfl rfl ?_
 refine SeqK.on (q_load (.g [_, _, _, _, _, _, _]) rfl Fx.ty28 rfl rfl rfl) rfl rfl rfl rfl rfl ?_
 refine SeqK.on (q_mvC rfl rfl) rfl rfl rfl rfl rfl ?_
 refine SeqK.on (q_call _ rfl Fx.fn10 rfl (hol_c true true 4 (by decide +kernel)) rfl) rfl rfl rfl rfl rfl ?_
 refine SeqK.on (q_pkF rfl rfl rfl) rfl rfl rfl rfl rfl ?_
 refine SeqK.q (q_pkT rfl rfl rfl) rfl rfl rfl ?_
 refine sA ?_
 refine SeqK.nil ?_
 refine AW.ret ?_
 exact fin_x (x := .c _) H (.tmp rfl .nil) rfl (fun _ _ h => h) ⟨rfl, rfl⟩

end Go.Proofs.Ytnmfjojhgfipcaa.W
namespace Go.Proofs.Ytnmfjojhgfipcaa.W
open Go.RowKit E
set_option linter.unusedVariables false
set_option linter.unusedSimpArgs false
set_option linter.unusedSectionVars false
end Go.Proofs.Ytnmfjojhgfipcaa.W
namespace Go.Proofs.Ytnmfjojhgfipcaa.W
open Go.RowKit E
set_option linter.unusedVariables false
set_option linter.unusedSimpArgs false
set_option linter.unusedSectionVars false
theorem rg_of {c : Cl} (h : ok28 c) : rgC c := by
  obtain ⟨h1, h2, h3, h4, h5, h6, h7, _⟩ := h
  refine ⟨by have := h1.1; omega, by have := h2.1; omega, by have := h3.1; omega, by have := h4.1; omega, by have := h5.1; omega, by have := h6.1; omega, by have := h7.1; omega, fun a ha => ?_, fun a ha => ?_, fun t ht => ?_⟩
  · have := (h3.2.2 a ha).1.2.1.1; omega
  · have := (h4.2.2 a ha).1.2.1.1; omega
  · have := (h5.2.2 t ht).2.2.2.1; omega
theorem rg_row {r : List RV} (h : ok31 r) : r.length ≤ 17592186044000 ∧ ∀ v ∈ r, v.s.size ≤ 1000000000000000 :=
  ⟨by have := h.1; omega, fun v hv => by have := (h.2.2 v hv).2.2.1; omega⟩
theorem rg_dom {l : List Vr} (h : ok29 l) : l.length ≤ 17592186044000 := by have := h.1; omega

end Go.Proofs.Ytnmfjojhgfipcaa.W
namespace Go.Proofs.Ytnmfjojhgfipcaa.W
open Go.RowKit E
set_option linter.unusedVariables false
set_option linter.unusedSimpArgs false
set_option linter.unusedSectionVars false
/-! patterns: the reachable places of a pattern -/
theorem like_nn : likeL [] [] = true := by rw [likeL]
theorem like_sn {x : UInt8} {s : List UInt8} : likeL (x :: s) [] = false := by rw [likeL]
theorem like_any {s p : List UInt8} : likeL s (37 :: p) = (List.range (s.length + 1)).any (fun i => likeL (s.drop i) p) := by
  cases s <;> rw [likeL, if_pos rfl]
theorem like_n1 {c : UInt8} {p : List UInt8} (h : c ≠ 37) : likeL [] (c :: p) = false := by rw [likeL, if_neg h]
theorem like_s1 {x c : UInt8} {s p : List UInt8} (h : c ≠ 37) : likeL (x :: s) (c :: p) = ((decide (c = 95) || decide (c = x)) && likeL s p) := by rw [likeL, if_neg h]
theorem like_pn {p : List UInt8} : likeL [] (37 :: p) = likeL [] p := by
  rw [like_any]; simp
theorem like_ps {x : UInt8} {s p : List UInt8} : likeL (x :: s) (37 :: p) = (likeL (x :: s) p || likeL s (37 :: p)) := by
  rw [like_any, like_any, List.length_cons, List.range_succ_eq_map, List.any_cons, List.any_map]
  rfl
abbrev pat (p : List UInt8) (j : Nat) : UInt8 := p.getD j 0
theorem drop_pat {p : List UInt8} {j : Nat} (h : j < p.length) : p.drop j = pat p j :: p.drop (j + 1) := by
  rw [List.drop_eq_getElem_cons h, pat, List.getD_eq_getElem?_getD, List.getElem?_eq_getElem h]; rfl
def setB (f : Nat → Bool) (k : Nat) : Nat → Bool := fun j => if j = k then true else f j
def clN (p : List UInt8) (f : Nat → Bool) : Nat → Nat → Bool
  | 0 => f
  | j + 1 => if (decide (pat p j = 37) && clN p f j j) = true then setB (clN p f j) (j + 1) else clN p f j
theorem clN_hi {p : List UInt8} {f : Nat → Bool} : ∀ {j k : Nat}, j < k → clN p f j k = f k
  | 0, k, _ => rfl
  | j + 1, k, h => by
    rw [clN]
    split
    · rw [setB, if_neg (by omega), clN_hi (by omega)]
    · exact clN_hi (by omega)
theorem clN_lo {p : List UInt8} {f : Nat → Bool} {j k : Nat} (h : k ≤ j) : ∀ d, clN p f (j + d) k = clN p f j k
  | 0 => rfl
  | d + 1 => by
    rw [← Nat.add_assoc, clN]
    split
    · rw [setB, if_neg (by omega), clN_lo h d]
    · exact clN_lo h d
theorem clN_at {p : List UInt8} {f : Nat → Bool} {m k : Nat} (h : k ≤ m) : clN p f m k = clN p f k k := by
  have := clN_lo (p := p) (f := f) (Nat.le_refl k) (m - k)
  rwa [Nat.add_sub_cancel' h] at this
theorem clN_rec {p : List UInt8} {f : Nat → Bool} {m j : Nat} (h : j < m) : clN p f m (j + 1) = (f (j + 1) || (decide (pat p j = 37) && clN p f m j)) := by
  rw [clN_at (show j + 1 ≤ m by omega), clN_at (show j ≤ m by omega), clN]
  split
  · rename_i hh; rw [setB, if_pos rfl, hh]; simp
  · rename_i hh; rw [clN_hi (Nat.lt_succ_self j)]; simp at hh ⊢; intro a b; rw [hh a] at b; cases b
def stN (p : List UInt8) (c : UInt8) (f : Nat → Bool) : Nat → Nat → Bool
  | 0 => fun _ => false
  | j + 1 => if f j = true then (if pat p j = 37 then setB (stN p c f j) j else if (decide (pat p j = 95) || decide (pat p j = c)) = true then setB (stN p c f j) (j + 1) else stN p c f j) else stN p c f j
abbrev stP (p : List UInt8) (c : UInt8) (f : Nat → Bool) (m k : Nat) : Prop := ∃ j, j < m ∧ f j = true ∧ ((pat p j = 37 ∧ k = j) ∨ (pat p j ≠ 37 ∧ (decide (pat p j = 95) || decide (pat p j = c)) = true ∧ k = j + 1))
theorem setB_iff {f : Nat → Bool} {k j : Nat} : setB f k j = true ↔ j = k ∨ f j = true := by
  rw [setB]; split
  · rename_i h; simp [h]
  · rename_i h; simp [h]
theorem stN_iff {p : List UInt8} {c : UInt8} {f : Nat → Bool} : ∀ {m k : Nat}, stN p c f m k = true ↔ stP p c f m k
  | 0, k => by rw [stN]; exact ⟨(fun h => by cases h), fun ⟨j, h, _⟩ => absurd h (Nat.not_lt_zero j)⟩
  | m + 1, k => by
    have ih := @stN_iff p c f m k
    have key : stP p c f (m + 1) k ↔ stP p c f m k ∨ (f m = true ∧ ((pat p m = 37 ∧ k = m) ∨ (pat p m ≠ 37 ∧ (decide (pat p m = 95) || decide (pat p m = c)) = true ∧ k = m + 1))) := by
      constructor
      · rintro ⟨j, h1, h2⟩
        by_cases e : j = m
        · subst e; exact .inr h2
        · exact .inl ⟨j, by omega, h2⟩
      · rintro (⟨j, h1, h2⟩ | h)
        · exact ⟨j, by omega, h2⟩
        · exact ⟨m, by omega, h⟩
    rw [key, stN, ← ih]
    split
    · rename_i h1
      split
      · rename_i h2; rw [setB_iff]; constructor
        · rintro (h | h)
          · exact .inr ⟨h1, .inl ⟨h2, h⟩⟩
          · exact .inl h
        · rintro (h | ⟨_, ⟨_, h⟩ | ⟨h, _⟩⟩)
          · exact .inr h
          · exact .inl h
          · exact absurd h2 h
      · rename_i h2
        split
        · rename_i h3; rw [setB_iff]; constructor
          · rintro (h | h)
            · exact .inr ⟨h1, .inr ⟨h2, h3, h⟩⟩
            · exact .inl h
          · rintro (h | ⟨_, ⟨h, _⟩ | ⟨_, _, h⟩⟩)
            · exact .inr h
            · exact absurd h h2
            · exact .inl h
        · rename_i h3; constructor
          · exact .inl
          · rintro (h | ⟨_, ⟨h, _⟩ | ⟨_, h, _⟩⟩)
            · exact h
            · exact absurd h h2
            · exact absurd h h3
    · rename_i h1; constructor
      · exact .inl
      · rintro (h | ⟨h, _⟩)
        · exact h
        · exact absurd h h1
abbrev okR (p : List UInt8) (f : Nat → Bool) (t : List UInt8) : Prop := ∃ j, j ≤ p.length ∧ f j = true ∧ likeL t (p.drop j) = true
theorem like_up {t p : List UInt8} (h : likeL t p = true) : likeL t (37 :: p) = true := by
  cases t with
  | nil => rw [like_pn]; exact h
  | cons x s => rw [like_ps, h]; rfl
theorem cl_mono {p : List UInt8} {f : Nat → Bool} {m j : Nat} (h : j ≤ m) (hf : f j = true) : clN p f m j = true := by
  cases j with
  | zero => rw [clN_at h]; exact hf
  | succ j => rw [clN_rec (by omega), hf]; rfl
theorem cl_ok {p : List UInt8} {f : Nat → Bool} {t : List UInt8} : okR p (clN p f p.length) t ↔ okR p f t := by
  constructor
  · rintro ⟨j, h1, h2, h3⟩
    induction j with
    | zero => exact ⟨0, by omega, by rw [clN_at (by omega)] at h2; exact h2, h3⟩
    | succ j ih =>
      rw [clN_rec (by omega)] at h2
      rcases Bool.or_eq_true_iff.1 h2 with h | h
      · exact ⟨j + 1, h1, h, h3⟩
      · obtain ⟨ha, hb⟩ := Bool.and_eq_true_iff.1 h
        refine ih (by omega) hb ?_
        rw [drop_pat (by omega), of_decide_eq_true ha]; exact like_up h3
  · rintro ⟨j, h1, h2, h3⟩
    exact ⟨j, h1, cl_mono h1 h2, h3⟩
abbrev shut (p : List UInt8) (f : Nat → Bool) : Prop := ∀ j, j < p.length → pat p j = 37 → f j = true → f (j + 1) = true
theorem cl_shut {p : List UInt8} {f : Nat → Bool} : shut p (clN p f p.length) := fun j h h1 h2 => by
  rw [clN_rec h, h2, h1]; simp
theorem ok_nil {p : List UInt8} {f : Nat → Bool} (hs : shut p f) : okR p f [] ↔ f p.length = true := by
  constructor
  · rintro ⟨j, h1, h2, h3⟩
    generalize hd : p.length - j = d
    induction d generalizing j with
    | zero => rwa [show p.length = j by omega]
    | succ d ih =>
      rw [drop_pat (by omega)] at h3
      by_cases h : pat p j = 37
      · rw [h, like_pn] at h3
        exact ih (j + 1) (by omega) (hs j (by omega) h h2) h3 (by omega)
      · rw [like_n1 h] at h3; cases h3
  · intro h
    exact ⟨p.length, Nat.le_refl _, h, by rw [List.drop_length, like_nn]⟩
theorem ok_cons {p : List UInt8} {f : Nat → Bool} {c : UInt8} {t : List UInt8} (hs : shut p f) : okR p f (c :: t) ↔ okR p (stN p c f p.length) t := by
  constructor
  · rintro ⟨j, h1, h2, h3⟩
    generalize hd : p.length - j = d
    induction d generalizing j with
    | zero => rw [show j = p.length by omega, List.drop_length, like_sn] at h3; cases h3
    | succ d ih =>
      have h3' := h3
      rw [drop_pat (by omega)] at h3
      by_cases h : pat p j = 37
      · rw [h, like_ps] at h3
        rcases Bool.or_eq_true_iff.1 h3 with h4 | h4
        · exact ih (j + 1) (by omega) (hs j (by omega) h h2) h4 (by omega)
        · exact ⟨j, h1, stN_iff.2 ⟨j, by omega, h2, .inl ⟨h, rfl⟩⟩, by rw [drop_pat (by omega), h]; exact h4⟩
      · rw [like_s1 h] at h3
        obtain ⟨h4, h5⟩ := Bool.and_eq_true_iff.1 h3
        exact ⟨j + 1, by omega, stN_iff.2 ⟨j, by omega, h2, .inr ⟨h, h4, rfl⟩⟩, h5⟩
  · rintro ⟨k, h1, h2, h3⟩
    obtain ⟨j, hj, hf, ⟨ha, rfl⟩ | ⟨ha, hb, rfl⟩⟩ := stN_iff.1 h2
    · rw [drop_pat hj, ha] at h3
      exact ⟨k, h1, hf, by rw [drop_pat hj, ha, like_ps, h3]; simp⟩
    · exact ⟨j, by omega, hf, by rw [drop_pat hj, like_s1 ha, hb, h3]; rfl⟩
theorem ok_start {p s : List UInt8} : okR p (fun j => decide (j = 0)) s ↔ likeL s p = true := by
  constructor
  · rintro ⟨j, h1, h2, h3⟩
    have := of_decide_eq_true h2; subst this
    exact h3
  · intro h; exact ⟨0, by omega, rfl, h⟩

end Go.Proofs.Ytnmfjojhgfipcaa.W
namespace Go.Proofs.Ytnmfjojhgfipcaa.W
open Go.RowKit E
set_option linter.unusedVariables false
set_option linter.unusedSimpArgs false
set_option linter.unusedSectionVars false
abbrev blT (b : Bool) : List E.T := [.v (.bool b)]
theorem bll (b : Bool) : (blT b).length = 1 := rfl
abbrev tb (f : Nat → Bool) (m : Nat) : List Bool := (List.range m).map f
theorem tb_len {f : Nat → Bool} {m : Nat} : (tb f m).length = m := by simp [tb]
theorem tb_in {f : Nat → Bool} {m k : Nat} (h : k < m) : k < (tb f m).length := by rw [tb_len]; exact h
theorem tb_get {f : Nat → Bool} {m k : Nat} (h : k < (tb f m).length) : (tb f m)[k] = f k := by simp [tb]
theorem tb_set {f : Nat → Bool} {m k : Nat} : (tb f m).set k true = tb (setB f k) m := by
  apply List.ext_getElem
  · simp [tb]
  · intro i h1 h2
    rw [List.getElem_set]
    simp only [tb, List.getElem_map, List.getElem_range, setB]
    by_cases e : k = i
    · rw [if_pos e, if_pos e.symm]
    · rw [if_neg e, if_neg (fun h => e h.symm)]
theorem tb_rep {m : Nat} : List.replicate m false = tb (fun _ => false) m := by
  apply List.ext_getElem
  · simp [tb]
  · intro i h1 h2; simp [tb]
theorem idx_pat {s : ByteArray} {j : Nat} (h : j < s.size) : s.data.toList[((j : Nat) : Int).toNat]? = some (pat s.data.toList j) := by
  have h2 : j < s.data.toList.length := by rw [Array.length_toList]; exact h
  rw [Int.toNat_natCast, List.getElem?_eq_getElem h2, pat, List.getD_eq_getElem?_getD, List.getElem?_eq_getElem h2]; rfl
theorem u8_eq {a b : UInt8} : ((a.toNat : Int) = (b.toNat : Int)) ↔ a = b := ⟨fun h => UInt8.toNat_inj.1 (by exact_mod_cast h), fun h => by rw [h]⟩
theorem u8_pct {a : UInt8} : ((a.toNat : Int) = 37) ↔ a = 37 := u8_eq (b := 37)
theorem u8_und {a : UInt8} : ((a.toNat : Int) = 95) ↔ a = 95 := u8_eq (b := 95)
theorem clN_yes {p : List UInt8} {f : Nat → Bool} {j : Nat} (h : pat p j = 37) (h2 : clN p f j j = true) : clN p f (j + 1) = setB (clN p f j) (j + 1) := by rw [clN, h2, h]; rfl
theorem clN_no {p : List UInt8} {f : Nat → Bool} {j : Nat} (h : ¬ pat p j = 37 ∨ clN p f j j = false) : clN p f (j + 1) = clN p f j := by
  rw [clN, if_neg]; rcases h with h | h
  · rw [decide_eq_false h]; simp
  · rw [h]; simp
theorem tb_ld {f : Nat → Bool} {m j : Nat} (h : j < m) : mkC false (List.take 1 (List.drop (0 + ((j : Nat) : Int).toNat * 1) (rowE blT (tb f m)))) = bC (f j) := by
  rw [Int.toNat_natCast, row_load bll (tb_in h), tb_get]; rfl
theorem upd_id {H : Heap} {k : Nat} {x : Option AO} (h : H k = x) : upd H k x = H := by
  funext i; by_cases e : i = k
  · subst e; rw [upd_same, h]
  · rw [upd_ne _ _ e]
abbrev rwB (f : Nat → Bool) (m : Nat) : Option AO := some (.row 4 1 (rowE blT (tb f m)))

set_option maxRecDepth 20000 in
theorem clos_any (H : Heap) (kp kt kr : Nat) (p : ByteArray) (f : Nat → Bool) (h1 : H kp = some (.box [.t (.v (.string p))])) (h2 : H kt = some (.box [.os kr 0 (p.size + 1) 1])) (h3 : H kr = rwB f (p.size + 1)) (hs : p.size ≤ 1000000000000000) : E.Spec Try.prog 88 [.a (.bp kp 0), .a (.bp kt 0)] H fun x H' => x = .tup [] ∧ H' = upd H kr (rwB (clN p.data.toList f p.size) (p.size + 1)) := by
 have nkp : kp ≠ kr := fun e => by rw [e, h3] at h1; cases h1
 have nkt : kt ≠ kr := fun e => by rw [e, h3] at h2; cases h2
 refine Spec.enter Try.func88 rfl ?_
 refine AW.wk (Wk.keep 23 [(0, .c (.a (.bp kp 0))), (1, .c (.a (.bp kt 0)))] [] (H) rfl ⟨rfl, rfl, trivial⟩ trivial (fun _ _ h => h) rfl) ?_
 refine sR ?_
 refine SeqK.r (g_load (r := .a _) rfl Fx.ty9 rfl (by (repeat rw [upd_ne _ _ (by first | assumption | exact Ne.symm (by assumption))]); first | assumption | exact upd_same _ _ _) rfl rfl rfl rfl) rfl ?_
 refine SeqK.q (q_lenS rfl Fx.un9 rfl) rfl rfl rfl ?_
 refine sM ?_
 refine SeqK.nil ?_
 refine AW.block ?_
 refine AW.wk (Wk.keep 23 [(0, .c (.a (.bp kp 0))), (1, .c (.a (.bp kt 0))), (4, iX .i64 ((p.size : Nat) : Int)), (5, iX .i64 0)] [] (upd H kr (rwB (clN p.data.toList f 0) (p.size + 1))) rfl ⟨rfl, rfl, rfl, rfl, trivial⟩ trivial (fun i o h => by rw [clN, upd_id h3] at h; exact h) rfl) ?_
 refine AW.loop (fun (j : Nat) s => (j ≤ p.size) ∧ s = ⟨23, sp [(0, .c (.a (.bp kp 0))), (1, .c (.a (.bp kt 0))), (4, iX .i64 ((p.size : Nat) : Int)), (5, iX .i64 ((j : Nat) : Int))], lv [], upd H kr (rwB (clN p.data.toList f j) (p.size + 1))⟩) (fun j => p.size - j) 0 ⟨_, Wk.keep 23 [(0, .c (.a (.bp kp 0))), (1, .c (.a (.bp kt 0))), (4, iX .i64 ((p.size : Nat) : Int)), (5, iX .i64 ((((0 : Nat)) : Nat) : Int))] [] (upd H kr (rwB (clN p.data.toList f ((0 : Nat))) (p.size + 1))) rfl ⟨rfl, rfl, rfl, rfl, trivial⟩ trivial (fun _ _ h => h) rfl, Nat.zero_le _, rfl⟩ (fun j s hs => ?_)
 obtain ⟨hj, rfl⟩ := hs
 refine sR ?_
 refine SeqK.q (q_lss rfl rfl rfl) rfl rfl rfl ?_
 refine SeqK.nil ?_
 refine AW.seq ?_
 refine AW.condD rfl (fun h6 => ?_) (fun h6 => ?_)
 ·
  refine AW.skip ?_
  refine AW.seq ?_
  refine AW.block ?_
  refine sR ?_
  refine sM ?_
  refine sA ?_
  refine SeqK.nil ?_
  refine sR ?_
  refine SeqK.r (g_load (r := .a _) rfl Fx.ty9 rfl (by (repeat rw [upd_ne _ _ (by first | assumption | exact Ne.symm (by assumption))]); first | assumption | exact upd_same _ _ _) rfl rfl rfl rfl) rfl ?_
  refine sM ?_
  refine SeqK.q (q_indexS _ rfl Fx.un9 rfl rfl (by omega) (idx_pat (by omega))) rfl rfl rfl ?_
  refine SeqK.q (q_eql rfl rfl rfl) rfl rfl rfl ?_
  refine SeqK.qD (q_mvC rfl rfl) rfl rfl rfl (fun g12 => ?_) (fun g12 => ?_)
  ·
   refine SeqK.rOn (g_load (r := .a _) rfl Fx.ty150 rfl (by (repeat rw [upd_ne _ _ (by first | assumption | exact Ne.symm (by assumption))]); first | assumption | exact upd_same _ _ _) rfl rfl rfl rfl) rfl rfl rfl ?_
   refine SeqK.on (q_mvC rfl rfl) rfl rfl rfl rfl rfl ?_
   refine SeqK.on (q_indexOs _ rfl Fx.sl150 rfl rfl (by omega) (by omega) rfl) rfl rfl rfl rfl rfl ?_
   refine SeqK.rOn (g_loadR rfl Fx.ty4 rfl (by (repeat rw [upd_ne _ _ (by first | assumption | exact Ne.symm (by assumption))]); first | assumption | exact upd_same _ _ _) (tb_ld (f := (clN p.data.toList f j)) (by omega : j < p.size + 1)) (row_in0 bll (tb_in (f := (clN p.data.toList f j)) (by omega : j < p.size + 1))) (by decide) rfl rfl) rfl rfl rfl ?_
   refine SeqK.q (q_pkT rfl rfl rfl) rfl rfl rfl ?_
   refine SeqK.nil ?_
   refine AW.cond _ rfl (fun h17 => ?_) (fun h17 => ?_)
   ·
    refine AW.reg ?_
    refine SeqK.r (g_load (r := .a _) rfl Fx.ty150 rfl (by (repeat rw [upd_ne _ _ (by first | assumption | exact Ne.symm (by assumption))]); first | assumption | exact upd_same _ _ _) rfl rfl rfl rfl) rfl ?_
    refine sM ?_
    refine SeqK.q (q_add _ rfl rfl rfl ((by rw [w64 (by omega) (by omega)]; omega : IntKind.i64.wrap _ = ((j + 1 : Nat) : Int)))) rfl rfl rfl ?_
    refine SeqK.q (q_indexOs _ rfl Fx.sl150 rfl rfl (by omega) (by omega) rfl) rfl rfl rfl ?_
    refine SeqK.r (g_storeR rfl rfl Fx.ty4 rfl rfl (by (repeat rw [upd_ne _ _ (by first | assumption | exact Ne.symm (by assumption))]); first | assumption | exact upd_same _ _ _) (row_st bll (tb_in (f := (clN p.data.toList f j)) (by omega : j + 1 < p.size + 1)) true) rfl (row_in0 bll (tb_in (f := (clN p.data.toList f j)) (by omega : j + 1 < p.size + 1))) (by decide)) rfl ?_
    refine SeqK.nil ?_
    refine AW.reg ?_
    refine SeqK.q (q_add _ rfl rfl rfl (w64 (by omega) (by omega))) rfl rfl rfl ?_
    refine sM ?_
    refine SeqK.nil ?_
    exact ⟨j + 1, _, Wk.keep 23 [(0, .c (.a (.bp kp 0))), (1, .c (.a (.bp kt 0))), (4, iX .i64 ((p.size : Nat) : Int)), (5, iX .i64 (((j + 1) : Nat) : Int))] [] (upd H kr (rwB (clN p.data.toList f (j + 1)) (p.size + 1))) rfl ⟨rfl, rfl, rfl, rfl, trivial⟩ trivial (fun i o h => by
     show upd (upd H kr _) kr _ i = _
     rw [upd_upd, tb_set, ← clN_yes (u8_pct.1 g12) h17]; exact h) rfl, by omega, by omega, rfl⟩
   ·
    refine AW.skip ?_
    refine AW.reg ?_
    refine SeqK.q (q_add _ rfl rfl rfl (w64 (by omega) (by omega))) rfl rfl rfl ?_
    refine sM ?_
    refine SeqK.nil ?_
    exact ⟨j + 1, _, Wk.keep 23 [(0, .c (.a (.bp kp 0))), (1, .c (.a (.bp kt 0))), (4, iX .i64 ((p.size : Nat) : Int)), (5, iX .i64 (((j + 1) : Nat) : Int))] [] (upd H kr (rwB (clN p.data.toList f (j + 1)) (p.size + 1))) rfl ⟨rfl, rfl, rfl, rfl, trivial⟩ trivial (fun i o h => by rw [clN_no (.inr h17)] at h; exact h) rfl, by omega, by omega, rfl⟩
  ·
   refine SeqK.off rfl rfl rfl rfl rfl rfl ?_
   refine SeqK.off rfl rfl rfl rfl rfl rfl ?_
   refine SeqK.off rfl rfl rfl rfl rfl rfl ?_
   refine SeqK.off rfl rfl rfl rfl rfl rfl ?_
   refine SeqK.q (q_pkF rfl rfl rfl) rfl rfl rfl ?_
   refine SeqK.nil ?_
   refine AW.condF rfl ?_
   refine AW.skip ?_
   refine AW.reg ?_
   refine SeqK.q (q_add _ rfl rfl rfl (w64 (by omega) (by omega))) rfl rfl rfl ?_
   refine sM ?_
   refine SeqK.nil ?_
   exact ⟨j + 1, _, Wk.keep 23 [(0, .c (.a (.bp kp 0))), (1, .c (.a (.bp kt 0))), (4, iX .i64 ((p.size : Nat) : Int)), (5, iX .i64 (((j + 1) : Nat) : Int))] [] (upd H kr (rwB (clN p.data.toList f (j + 1)) (p.size + 1))) rfl ⟨rfl, rfl, rfl, rfl, trivial⟩ trivial (fun i o h => by rw [clN_no (.inl (fun e => g12 (u8_pct.2 e)))] at h; exact h) rfl, by omega, by omega, rfl⟩
 ·
  refine AW.exit ?_
  refine eth_e ?_
  refine eth_e ?_
  refine exit_here ?_
  exact fin_xN (x := .tup []) (_) .nil rfl (fun _ _ h => h) (⟨rfl, by rw [show j = p.size by omega]⟩)

end Go.Proofs.Ytnmfjojhgfipcaa.W
namespace Go.Proofs.Ytnmfjojhgfipcaa.W
open Go.RowKit E
set_option linter.unusedVariables false
set_option linter.unusedSimpArgs false
set_option linter.unusedSectionVars false
theorem st_off {p : List UInt8} {c : UInt8} {f : Nat → Bool} {j : Nat} (h : ¬ f j = true) : stN p c f (j + 1) = stN p c f j := by rw [stN, if_neg h]
theorem st_pct {p : List UInt8} {c : UInt8} {f : Nat → Bool} {j : Nat} (h : f j = true) (h2 : pat p j = 37) : stN p c f (j + 1) = setB (stN p c f j) j := by rw [stN, if_pos h, if_pos h2]
theorem st_hit {p : List UInt8} {c : UInt8} {f : Nat → Bool} {j : Nat} (h : f j = true) (h2 : ¬ pat p j = 37) (h3 : pat p j = 95 ∨ pat p j = c) : stN p c f (j + 1) = setB (stN p c f j) (j + 1) := by
  rw [stN, if_pos h, if_neg h2, if_pos]; rcases h3 with h3 | h3 <;> rw [h3] <;> simp
theorem st_mis {p : List UInt8} {c : UInt8} {f : Nat → Bool} {j : Nat} (h : f j = true) (h2 : ¬ pat p j = 37) (h3 : ¬ pat p j = 95) (h4 : ¬ pat p j = c) : stN p c f (j + 1) = stN p c f j := by
  rw [stN, if_pos h, if_neg h2, if_neg]; rw [decide_eq_false h3, decide_eq_false h4]; decide
abbrev st0 : Nat → Bool := setB (fun _ => false) 0
theorem ok_start0 {p s : List UInt8} : okR p st0 s ↔ likeL s p = true := by
  rw [← ok_start, show st0 = fun j => decide (j = 0) from funext fun j => by rw [st0, setB]; split <;> simp_all]
abbrev HX (H : Heap) (kp kt kr : Nat) (p : ByteArray) (f : Nat → Bool) : Heap := upd (upd (upd H kp (some (.box [.t (.v (.string p))]))) kt (some (.box [.os kr 0 (p.size + 1) 1]))) kr (rwB f (p.size + 1))
structure NX (H : Heap) (kp kt kr : Nat) : Prop where
  p : H kp = none
  t : H kt = none
  r : H kr = none
  pt : kp ≠ kt
  pr : kp ≠ kr
  tr : kt ≠ kr
theorem NX.hp {H : Heap} {kp kt kr : Nat} {p : ByteArray} {f : Nat → Bool} (n : NX H kp kt kr) : HX H kp kt kr p f kp = some (.box [.t (.v (.string p))]) := by
  rw [HX, upd_ne _ _ n.pr, upd_ne _ _ n.pt, upd_same]
theorem NX.ht {H : Heap} {kp kt kr : Nat} {p : ByteArray} {f : Nat → Bool} (n : NX H kp kt kr) : HX H kp kt kr p f kt = some (.box [.os kr 0 (p.size + 1) 1]) := by
  rw [HX, upd_ne _ _ n.tr, upd_same]
theorem NX.hr {H : Heap} {kp kt kr : Nat} {p : ByteArray} {f : Nat → Bool} : HX H kp kt kr p f kr = rwB f (p.size + 1) := upd_same _ _ _
theorem NX.new {H : Heap} {kp kt kr kn : Nat} {p : ByteArray} {f : Nat → Bool} (n : NX H kp kt kr) (h : HX H kp kt kr p f kn = none) : NX H kp kt kn ∧ kr ≠ kn := by
  obtain ⟨h1, h⟩ := upd_lt h
  obtain ⟨h2, h⟩ := upd_lt h
  obtain ⟨h3, h⟩ := upd_lt h
  exact ⟨⟨n.p, n.t, h, n.pt, fun e => h3 e.symm, fun e => h2 e.symm⟩, fun e => h1 e.symm⟩
/-- the old row forgotten -/
theorem NX.swap {H : Heap} {kp kt kr kn : Nat} {p : ByteArray} {f f' : Nat → Bool} (n : NX H kp kt kr) (n' : NX H kp kt kn) (hn : kr ≠ kn) :
    ∀ i o, HX H kp kt kn p f' i = some o → upd (upd (HX H kp kt kr p f) kn (rwB f' (p.size + 1))) kt (some (.box [.os kn 0 (p.size + 1) 1])) i = some o := fun i o h => by
  by_cases e1 : i = kn
  · subst e1; rw [HX, upd_same] at h; rw [upd_ne _ _ (fun e => n'.tr e.symm), upd_same]; exact h
  · rw [HX, upd_ne _ _ e1] at h
    by_cases e2 : i = kt
    · subst e2; rw [upd_same] at h ⊢; exact h
    · rw [upd_ne _ _ e2] at h ⊢
      rw [upd_ne _ _ e1]
      have e3 : i ≠ kr := fun e => by
        subst e
        rw [upd_ne _ _ (fun e => n.pr e.symm), n.r] at h; cases h
      rw [HX, upd_ne _ _ e3, upd_ne _ _ e2]; exact h
theorem NX.sub {H : Heap} {kp kt kr : Nat} {p : ByteArray} {f : Nat → Bool} (n : NX H kp kt kr) : ∀ i o, H i = some o → HX H kp kt kr p f i = some o := fun i o h => by
  rw [HX, upd_ne _ _ (fun e => by subst e; rw [n.r] at h; cases h), upd_ne _ _ (fun e => by subst e; rw [n.t] at h; cases h), upd_ne _ _ (fun e => by subst e; rw [n.p] at h; cases h)]; exact h

theorem NX.start {H : Heap} {kp kt kr : Nat} {p : ByteArray} {f : Nat → Bool} {B0 : Option AO} (n : NX H kp kt kr) :
    ∀ i o, HX H kp kt kr p f i = some o → upd (upd (upd (upd H kp (some (.box [.t (.v (.string p))]))) kr (rwB f (p.size + 1))) kt B0) kt (some (.box [.os kr 0 (p.size + 1) 1])) i = some o := fun i o h => by
  rw [upd_upd]
  by_cases e1 : i = kr
  · subst e1; rw [HX, upd_same] at h; rw [upd_ne _ _ (fun e => n.tr e.symm), upd_same]; exact h
  · rw [HX, upd_ne _ _ e1] at h
    by_cases e2 : i = kt
    · subst e2; rw [upd_same] at h ⊢; exact h
    · rw [upd_ne _ _ e2] at h ⊢
      rw [upd_ne _ _ e1]; exact h
theorem cl_ok' {p : ByteArray} {f : Nat → Bool} {t : List UInt8} : okR p.data.toList (clN p.data.toList f p.size) t ↔ okR p.data.toList f t := by
  have := cl_ok (p := p.data.toList) (f := f) (t := t)
  rwa [ba_len] at this
theorem cl_shut' {p : ByteArray} {f : Nat → Bool} : shut p.data.toList (clN p.data.toList f p.size) := by
  have := cl_shut (p := p.data.toList) (f := f)
  rwa [ba_len] at this

set_option maxHeartbeats 4000000 in
set_option maxRecDepth 20000 in
theorem evlike_any (u p : ByteArray) (hs : u.size ≤ 1000000000000000) (hp0 : p.size ≤ 1000000) : Pure Try.prog 67 [sC u, sC p] (.c (bC (likeL u.data.toList p.data.toList))) := by
 intro H
 refine Spec.enter Try.func67 rfl ?_
 refine AW.wk (Wk.keep 66 [(0, .c (sC u)), (1, .c (sC p))] [] (H) rfl ⟨rfl, rfl, trivial⟩ trivial (fun _ _ h => h) rfl) ?_
 refine sR ?_
 refine SeqK.newBox (r := [_]) rfl rfl rfl rfl rfl rfl (fun k3 hk3 => ?_)
 refine sA ?_
 refine SeqK.nil ?_
 refine sR ?_
 refine SeqK.r (g_load (r := .a _) rfl Fx.ty9 rfl (by (repeat rw [upd_ne _ _ (by first | assumption | exact Ne.symm (by assumption))]); first | assumption | exact upd_same _ _ _) rfl rfl rfl rfl) rfl ?_
 refine SeqK.q (q_lenS rfl Fx.un9 rfl) rfl rfl rfl ?_
 refine SeqK.q (q_add _ rfl rfl rfl ((by rw [w64 (by omega) (by omega)]; omega : IntKind.i64.wrap _ = ((p.size + 1 : Nat) : Int)))) rfl rfl rfl ?_
 refine SeqK.make (zc := (blT false).map .t) (m := p.size + 1) rfl rfl Fx.el150 Fx.ze4 rfl rfl rfl rfl (by omega) rfl rfl (fun kr hkr => ?_)
 rw [rowE_rep, tb_rep]
 refine SeqK.newAlloc (r := [_]) rfl rfl rfl Fx.ze150 rfl rfl rfl (fun k5 hk5 => ?_)
 refine SeqK.r (g_store rfl rfl Fx.ty150 rfl rfl (by (repeat rw [upd_ne _ _ (by first | assumption | exact Ne.symm (by assumption))]); first | assumption | exact upd_same _ _ _) rfl rfl rfl) rfl ?_
 refine SeqK.nil ?_
 refine AW.seq ?_
 obtain ⟨nrp, hkr0⟩ := upd_lt hkr
 obtain ⟨ntr, hk50⟩ := upd_lt hk5
 obtain ⟨ntp, hk50⟩ := upd_lt hk50
 have n1 : NX H k3 k5 kr := ⟨hk3, hk50, hkr0, fun e => ntp e.symm, fun e => nrp e.symm, ntr⟩
 refine AW.wk (Wk.keep 66 [(0, .c (sC u)), (3, .c (.a (.bp k3 0))), (5, .c (.a (.bp k5 0)))] [] (HX H k3 k5 kr p (fun _ => false)) rfl ⟨rfl, rfl, rfl, trivial⟩ trivial (n1.start) rfl) ?_
 refine AW.reg ?_
 refine SeqK.r (g_load (r := .a _) rfl Fx.ty150 rfl (n1.ht) rfl rfl rfl rfl) rfl ?_
 refine SeqK.q (q_indexOs _ rfl Fx.sl150 rfl rfl (by omega) (by omega) rfl) rfl rfl rfl ?_
 refine SeqK.r (g_storeR rfl rfl Fx.ty4 rfl rfl (NX.hr) (row_st bll (tb_in (f := fun _ => false) (by omega : 0 < p.size + 1)) true) rfl (row_in0 bll (tb_in (f := fun _ => false) (by omega : 0 < p.size + 1))) (by decide)) rfl ?_
 refine SeqK.nil ?_
 refine AW.seq ?_
 refine AW.wk (Wk.keep 66 [(0, .c (sC u)), (3, .c (.a (.bp k3 0))), (5, .c (.a (.bp k5 0)))] [] (HX H k3 k5 kr p st0) rfl ⟨rfl, rfl, rfl, trivial⟩ trivial (fun i o h => by show upd (upd _ kr _) kr _ i = _; rw [upd_upd, tb_set]; exact h) rfl) ?_
 refine AW.reg ?_
 refine SeqK.q (q_mkFn rfl rfl rfl) rfl rfl rfl ?_
 refine sA ?_
 refine SeqK.nil ?_
 refine sR ?_
 refine sM ?_
 refine SeqK.callV (f := 88) (cs := [.bp k3 0, .bp k5 0]) rfl rfl rfl rfl rfl Fx.fn88 rfl (clos_any _ k3 k5 kr p st0 n1.hp n1.ht NX.hr (by omega)) (fun _ _ h => by rw [h.1]; rfl) (fun x18 H18 q18 => ?_)
 obtain ⟨rfl, hHs⟩ := q18
 replace hHs : H18 = HX H k3 k5 kr p (clN p.data.toList st0 p.size) := hHs.trans (by show upd (upd _ kr _) kr _ = upd _ kr _; rw [upd_upd])
 subst hHs
 refine SeqK.nil ?_
 refine AW.seq ?_
 refine sR ?_
 refine sM ?_
 refine SeqK.q (q_lenS rfl Fx.un9 rfl) rfl rfl rfl ?_
 refine sM ?_
 refine SeqK.nil ?_
 refine AW.block ?_
 refine AW.loop (fun (i : Nat) s => ∃ (kr : Nat) (f : Nat → Bool), (i ≤ u.size ∧ NX H k3 k5 kr ∧ shut p.data.toList f ∧ (okR p.data.toList f ((u.data.toList).drop i) ↔ likeL u.data.toList p.data.toList = true)) ∧ s = ⟨66, sp [(0, .c (sC u)), (3, .c (.a (.bp k3 0))), (5, .c (.a (.bp k5 0))), (6, .c (.a (.fn 88 [.bp k3 0, .bp k5 0]))), (20, iX .i64 ((u.size : Nat) : Int)), (21, iX .i64 ((i : Nat) : Int))], lv [], HX H k3 k5 kr p f⟩) (fun i => u.size - i) 0 ⟨_, Wk.keep 66 [(0, .c (sC u)), (3, .c (.a (.bp k3 0))), (5, .c (.a (.bp k5 0))), (6, .c (.a (.fn 88 [.bp k3 0, .bp k5 0]))), (20, iX .i64 ((u.size : Nat) : Int)), (21, iX .i64 ((((0 : Nat)) : Nat) : Int))] [] (HX H k3 k5 (kr) p ((clN p.data.toList st0 p.size))) rfl ⟨rfl, rfl, rfl, rfl, rfl, rfl, trivial⟩ trivial (fun _ _ h => h) rfl, kr, (clN p.data.toList st0 p.size), ⟨Nat.zero_le _, n1, cl_shut', cl_ok'.trans ok_start0⟩, rfl⟩ (fun i s hs => ?_)
 obtain ⟨kr, f, ⟨hi, n1, hsh, hok⟩, rfl⟩ := hs
 refine sR ?_
 refine SeqK.q (q_lss rfl rfl rfl) rfl rfl rfl ?_
 refine SeqK.nil ?_
 refine AW.seq ?_
 refine AW.condD rfl (fun h22 => ?_) (fun h22 => ?_)
 ·
  have hc : (u.data.toList).drop i = pat u.data.toList i :: (u.data.toList).drop (i + 1) := drop_pat (by rw [ba_len]; omega)
  rw [hc, ok_cons hsh, ba_len] at hok
  refine AW.skip ?_
  refine AW.seq ?_
  refine AW.block ?_
  refine sR ?_
  refine sM ?_
  refine sA ?_
  refine SeqK.nil ?_
  refine sR ?_
  refine SeqK.r (g_load (r := .a _) rfl Fx.ty9 rfl (n1.hp) rfl rfl rfl rfl) rfl ?_
  refine SeqK.q (q_lenS rfl Fx.un9 rfl) rfl rfl rfl ?_
  refine SeqK.q (q_add _ rfl rfl rfl ((by rw [w64 (by omega) (by omega)]; omega : IntKind.i64.wrap _ = ((p.size + 1 : Nat) : Int)))) rfl rfl rfl ?_
  refine SeqK.make (zc := (blT false).map .t) (m := p.size + 1) rfl rfl Fx.el150 Fx.ze4 rfl rfl rfl rfl (by omega) rfl rfl (fun kn hkn => ?_)
  rw [rowE_rep, tb_rep]
  obtain ⟨n2, nrn⟩ := n1.new hkn
  refine sA ?_
  refine SeqK.nil ?_
  refine AW.seq ?_
  refine sR ?_
  refine SeqK.r (g_load (r := .a _) rfl Fx.ty9 rfl ((upd_ne _ _ n2.pr).trans n1.hp) rfl rfl rfl rfl) rfl ?_
  refine SeqK.q (q_lenS rfl Fx.un9 rfl) rfl rfl rfl ?_
  refine sM ?_
  refine SeqK.nil ?_
  refine AW.block ?_
  refine AW.loop (fun (j : Nat) s => (j ≤ p.size) ∧ s = ⟨66, sp [(0, .c (sC u)), (3, .c (.a (.bp k3 0))), (5, .c (.a (.bp k5 0))), (6, .c (.a (.fn 88 [.bp k3 0, .bp k5 0]))), (7, iX .i64 ((i : Nat) : Int)), (8, .c (.a (.os kn 0 (p.size + 1) 1))), (20, iX .i64 ((u.size : Nat) : Int)), (21, iX .i64 ((i : Nat) : Int)), (29, iX .i64 ((p.size : Nat) : Int)), (30, iX .i64 ((j : Nat) : Int))], lv [], upd (HX H k3 k5 kr p f) kn (rwB (stN p.data.toList (pat u.data.toList i) f j) (p.size + 1))⟩) (fun j => p.size - j) 0 ⟨_, Wk.keep 66 [(0, .c (sC u)), (3, .c (.a (.bp k3 0))), (5, .c (.a (.bp k5 0))), (6, .c (.a (.fn 88 [.bp k3 0, .bp k5 0]))), (7, iX .i64 ((i : Nat) : Int)), (8, .c (.a (.os kn 0 (p.size + 1) 1))), (20, iX .i64 ((u.size : Nat) : Int)), (21, iX .i64 ((i : Nat) : Int)), (29, iX .i64 ((p.size : Nat) : Int)), (30, iX .i64 ((((0 : Nat)) : Nat) : Int))] [] (upd (HX H k3 k5 kr p f) kn (rwB (stN p.data.toList (pat u.data.toList i) f ((0 : Nat))) (p.size + 1))) rfl ⟨rfl, rfl, rfl, rfl, rfl, rfl, rfl, rfl, rfl, rfl, trivial⟩ trivial (fun _ _ h => h) rfl, Nat.zero_le _, rfl⟩ (fun j s hs => ?_)
  obtain ⟨hj, rfl⟩ := hs
  refine sR ?_
  refine SeqK.q (q_lss rfl rfl rfl) rfl rfl rfl ?_
  refine SeqK.nil ?_
  refine AW.seq ?_
  refine AW.condD rfl (fun h31 => ?_) (fun h31 => ?_)
  ·
   refine AW.skip ?_
   refine AW.seq ?_
   refine AW.block ?_
   refine sR ?_
   refine sM ?_
   refine sA ?_
   refine SeqK.nil ?_
   refine AW.seq ?_
   refine sR ?_
   refine SeqK.r (g_load (r := .a _) rfl Fx.ty150 rfl ((upd_ne _ _ n2.tr).trans n1.ht) rfl rfl rfl rfl) rfl ?_
   refine sM ?_
   refine SeqK.q (q_indexOs _ rfl Fx.sl150 rfl rfl (by omega) (by omega) rfl) rfl rfl rfl ?_
   refine SeqK.r (g_loadR rfl Fx.ty4 rfl ((upd_ne _ _ nrn).trans NX.hr) (tb_ld (f := f) (by omega : j < p.size + 1)) (row_in0 bll (tb_in (f := f) (by omega : j < p.size + 1))) (by decide) rfl rfl) rfl ?_
   refine SeqK.q (q_not rfl rfl) rfl rfl rfl ?_
   refine SeqK.nil ?_
   refine AW.cond _ rfl (fun h37 => ?_) (fun h37 => ?_)
   ·
    refine AW.exit ?_
    refine eth_e ?_
    refine exit_here ?_
    refine AW.reg ?_
    refine SeqK.q (q_add _ rfl rfl rfl (w64 (by omega) (by omega))) rfl rfl rfl ?_
    refine sM ?_
    refine SeqK.nil ?_
    exact ⟨j + 1, _, Wk.keep 66 [(0, .c (sC u)), (3, .c (.a (.bp k3 0))), (5, .c (.a (.bp k5 0))), (6, .c (.a (.fn 88 [.bp k3 0, .bp k5 0]))), (7, iX .i64 ((i : Nat) : Int)), (8, .c (.a (.os kn 0 (p.size + 1) 1))), (20, iX .i64 ((u.size : Nat) : Int)), (21, iX .i64 ((i : Nat) : Int)), (29, iX .i64 ((p.size : Nat) : Int)), (30, iX .i64 (((j + 1) : Nat) : Int))] [] (upd (HX H k3 k5 kr p f) kn (rwB (stN p.data.toList (pat u.data.toList i) f (j + 1)) (p.size + 1))) rfl ⟨rfl, rfl, rfl, rfl, rfl, rfl, rfl, rfl, rfl, rfl, trivial⟩ trivial (fun i o h => by rw [st_off (by simpa using h37)] at h; exact h) rfl, by omega, by omega, rfl⟩
   ·
    refine AW.skip ?_
    refine sR ?_
    refine SeqK.r (g_load (r := .a _) rfl Fx.ty9 rfl ((upd_ne _ _ n2.pr).trans n1.hp) rfl rfl rfl rfl) rfl ?_
    refine sM ?_
    refine SeqK.q (q_indexS _ rfl Fx.un9 rfl rfl (by omega) (idx_pat (by omega))) rfl rfl rfl ?_
    refine SeqK.nil ?_
    refine AW.block ?_
    refine sR ?_
    refine SeqK.q (q_eql rfl rfl rfl) rfl rfl rfl ?_
    refine sA ?_
    refine SeqK.nil ?_
    refine AW.condD rfl (fun h41 => ?_) (fun h41 => ?_)
    ·
     refine AW.reg ?_
     refine sM ?_
     refine sM ?_
     refine SeqK.q (q_indexOs _ rfl Fx.sl150 rfl rfl (by omega) (by omega) rfl) rfl rfl rfl ?_
     refine SeqK.r (g_storeR rfl rfl Fx.ty4 rfl rfl (by (repeat rw [upd_ne _ _ (by first | assumption | exact Ne.symm (by assumption))]); first | assumption | exact upd_same _ _ _) (row_st bll (tb_in (f := (stN p.data.toList (pat u.data.toList i) f j)) (by omega : j < p.size + 1)) true) rfl (row_in0 bll (tb_in (f := (stN p.data.toList (pat u.data.toList i) f j)) (by omega : j < p.size + 1))) (by decide)) rfl ?_
     refine SeqK.nil ?_
     refine AW.reg ?_
     refine SeqK.q (q_add _ rfl rfl rfl (w64 (by omega) (by omega))) rfl rfl rfl ?_
     refine sM ?_
     refine SeqK.nil ?_
     exact ⟨j + 1, _, Wk.keep 66 [(0, .c (sC u)), (3, .c (.a (.bp k3 0))), (5, .c (.a (.bp k5 0))), (6, .c (.a (.fn 88 [.bp k3 0, .bp k5 0]))), (7, iX .i64 ((i : Nat) : Int)), (8, .c (.a (.os kn 0 (p.size + 1) 1))), (20, iX .i64 ((u.size : Nat) : Int)), (21, iX .i64 ((i : Nat) : Int)), (29, iX .i64 ((p.size : Nat) : Int)), (30, iX .i64 (((j + 1) : Nat) : Int))] [] (upd (HX H k3 k5 kr p f) kn (rwB (stN p.data.toList (pat u.data.toList i) f (j + 1)) (p.size + 1))) rfl ⟨rfl, rfl, rfl, rfl, rfl, rfl, rfl, rfl, rfl, rfl, trivial⟩ trivial (fun i o h => by
      show upd (upd _ kn _) kn _ i = _
      rw [upd_upd, tb_set, ← st_pct (by simpa using h37 : f j = true) (u8_pct.1 h41)]; exact h) rfl, by omega, by omega, rfl⟩
    ·
     refine AW.seq ?_
     refine sR ?_
     refine SeqK.q (q_eql rfl rfl rfl) rfl rfl rfl ?_
     refine sA ?_
     refine SeqK.nil ?_
     refine AW.condD rfl (fun h46 => ?_) (fun h46 => ?_)
     ·
      refine AW.skip ?_
      refine AW.condD rfl (fun h46 => ?_) (fun h46 => ?_)
      ·
       refine AW.reg ?_
       refine sM ?_
       refine sM ?_
       refine SeqK.q (q_add _ rfl rfl rfl ((by rw [w64 (by omega) (by omega)]; omega : IntKind.i64.wrap _ = ((j + 1 : Nat) : Int)))) rfl rfl rfl ?_
       refine SeqK.q (q_indexOs _ rfl Fx.sl150 rfl rfl (by omega) (by omega) rfl) rfl rfl rfl ?_
       refine SeqK.r (g_storeR rfl rfl Fx.ty4 rfl rfl (by (repeat rw [upd_ne _ _ (by first | assumption | exact Ne.symm (by assumption))]); first | assumption | exact upd_same _ _ _) (row_st bll (tb_in (f := (stN p.data.toList (pat u.data.toList i) f j)) (by omega : j + 1 < p.size + 1)) true) rfl (row_in0 bll (tb_in (f := (stN p.data.toList (pat u.data.toList i) f j)) (by omega : j + 1 < p.size + 1))) (by decide)) rfl ?_
       refine SeqK.nil ?_
       refine AW.reg ?_
       refine SeqK.q (q_add _ rfl rfl rfl (w64 (by omega) (by omega))) rfl rfl rfl ?_
       refine sM ?_
       refine SeqK.nil ?_
       exact ⟨j + 1, _, Wk.keep 66 [(0, .c (sC u)), (3, .c (.a (.bp k3 0))), (5, .c (.a (.bp k5 0))), (6, .c (.a (.fn 88 [.bp k3 0, .bp k5 0]))), (7, iX .i64 ((i : Nat) : Int)), (8, .c (.a (.os kn 0 (p.size + 1) 1))), (20, iX .i64 ((u.size : Nat) : Int)), (21, iX .i64 ((i : Nat) : Int)), (29, iX .i64 ((p.size : Nat) : Int)), (30, iX .i64 (((j + 1) : Nat) : Int))] [] (upd (HX H k3 k5 kr p f) kn (rwB (stN p.data.toList (pat u.data.toList i) f (j + 1)) (p.size + 1))) rfl ⟨rfl, rfl, rfl, rfl, rfl, rfl, rfl, rfl, rfl, rfl, trivial⟩ trivial (fun i o h => by
        show upd (upd _ kn _) kn _ i = _
        rw [upd_upd, tb_set, ← st_hit (by simpa using h37 : f j = true) (fun e => h41 (u8_pct.2 e)) (.inl (u8_und.1 (by assumption)))]; exact h) rfl, by omega, by omega, rfl⟩
      ·
       exact absurd (by assumption) h46
     ·
      refine AW.reg ?_
      refine sM ?_
      refine sM ?_
      refine SeqK.q (q_indexS _ rfl Fx.un9 rfl rfl (by omega) (idx_pat (by omega))) rfl rfl rfl ?_
      refine SeqK.q (q_eql rfl rfl rfl) rfl rfl rfl ?_
      refine sA ?_
      refine SeqK.nil ?_
      refine AW.condD rfl (fun h46 => ?_) (fun h46 => ?_)
      ·
       refine AW.reg ?_
       refine sM ?_
       refine sM ?_
       refine SeqK.q (q_add _ rfl rfl rfl ((by rw [w64 (by omega) (by omega)]; omega : IntKind.i64.wrap _ = ((j + 1 : Nat) : Int)))) rfl rfl rfl ?_
       refine SeqK.q (q_indexOs _ rfl Fx.sl150 rfl rfl (by omega) (by omega) rfl) rfl rfl rfl ?_
       refine SeqK.r (g_storeR rfl rfl Fx.ty4 rfl rfl (by (repeat rw [upd_ne _ _ (by first | assumption | exact Ne.symm (by assumption))]); first | assumption | exact upd_same _ _ _) (row_st bll (tb_in (f := (stN p.data.toList (pat u.data.toList i) f j)) (by omega : j + 1 < p.size + 1)) true) rfl (row_in0 bll (tb_in (f := (stN p.data.toList (pat u.data.toList i) f j)) (by omega : j + 1 < p.size + 1))) (by decide)) rfl ?_
       refine SeqK.nil ?_
       refine AW.reg ?_
       refine SeqK.q (q_add _ rfl rfl rfl (w64 (by omega) (by omega))) rfl rfl rfl ?_
       refine sM ?_
       refine SeqK.nil ?_
       exact ⟨j + 1, _, Wk.keep 66 [(0, .c (sC u)), (3, .c (.a (.bp k3 0))), (5, .c (.a (.bp k5 0))), (6, .c (.a (.fn 88 [.bp k3 0, .bp k5 0]))), (7, iX .i64 ((i : Nat) : Int)), (8, .c (.a (.os kn 0 (p.size + 1) 1))), (20, iX .i64 ((u.size : Nat) : Int)), (21, iX .i64 ((i : Nat) : Int)), (29, iX .i64 ((p.size : Nat) : Int)), (30, iX .i64 (((j + 1) : Nat) : Int))] [] (upd (HX H k3 k5 kr p f) kn (rwB (stN p.data.toList (pat u.data.toList i) f (j + 1)) (p.size + 1))) rfl ⟨rfl, rfl, rfl, rfl, rfl, rfl, rfl, rfl, rfl, rfl, trivial⟩ trivial (fun i o h => by
        show upd (upd _ kn _) kn _ i = _
        rw [upd_upd, tb_set, ← st_hit (by simpa using h37 : f j = true) (fun e => h41 (u8_pct.2 e)) (.inr (u8_eq.1 h46))]; exact h) rfl, by omega, by omega, rfl⟩
      ·
       refine AW.skip ?_
       refine AW.reg ?_
       refine SeqK.q (q_add _ rfl rfl rfl (w64 (by omega) (by omega))) rfl rfl rfl ?_
       refine sM ?_
       refine SeqK.nil ?_
       exact ⟨j + 1, _, Wk.keep 66 [(0, .c (sC u)), (3, .c (.a (.bp k3 0))), (5, .c (.a (.bp k5 0))), (6, .c (.a (.fn 88 [.bp k3 0, .bp k5 0]))), (7, iX .i64 ((i : Nat) : Int)), (8, .c (.a (.os kn 0 (p.size + 1) 1))), (20, iX .i64 ((u.size : Nat) : Int)), (21, iX .i64 ((i : Nat) : Int)), (29, iX .i64 ((p.size : Nat) : Int)), (30, iX .i64 (((j + 1) : Nat) : Int))] [] (upd (HX H k3 k5 kr p f) kn (rwB (stN p.data.toList (pat u.data.toList i) f (j + 1)) (p.size + 1))) rfl ⟨rfl, rfl, rfl, rfl, rfl, rfl, rfl, rfl, rfl, rfl, trivial⟩ trivial (fun i o h => by rw [st_mis (by simpa using h37 : f j = true) (fun e => h41 (u8_pct.2 e)) (fun e => (by assumption : ¬ ((pat p.data.toList j).toNat : Int) = 95) (u8_und.2 e)) (fun e => h46 (u8_eq.2 e))] at h; exact h) rfl, by omega, by omega, rfl⟩
  ·
   refine AW.exit ?_
   refine eth_e ?_
   refine eth_e ?_
   refine exit_here ?_
   refine sR ?_
   refine sM ?_
   refine SeqK.r (g_store rfl rfl Fx.ty150 rfl rfl ((upd_ne _ _ n2.tr).trans n1.ht) rfl rfl rfl) rfl ?_
   refine SeqK.nil ?_
   obtain rfl : j = p.size := by omega
   refine AW.wk (Wk.keep 66 [(0, .c (sC u)), (3, .c (.a (.bp k3 0))), (5, .c (.a (.bp k5 0))), (6, .c (.a (.fn 88 [.bp k3 0, .bp k5 0]))), (20, iX .i64 ((u.size : Nat) : Int)), (21, iX .i64 ((i : Nat) : Int))] [] (HX H k3 k5 kn p (stN p.data.toList (pat u.data.toList i) f p.size)) rfl ⟨rfl, rfl, rfl, rfl, rfl, rfl, trivial⟩ trivial (n1.swap n2 nrn) rfl) ?_
   refine AW.reg ?_
   refine sM ?_
   refine SeqK.callV (f := 88) (cs := [.bp k3 0, .bp k5 0]) rfl rfl rfl rfl rfl Fx.fn88 rfl (clos_any _ k3 k5 kn p (stN p.data.toList (pat u.data.toList i) f p.size) n2.hp n2.ht NX.hr (by omega)) (fun _ _ h => by rw [h.1]; rfl) (fun x59 H59 q59 => ?_)
   obtain ⟨rfl, hHs⟩ := q59
   replace hHs : H59 = HX H k3 k5 kn p (clN p.data.toList (stN p.data.toList (pat u.data.toList i) f p.size) p.size) := hHs.trans (by show upd (upd _ kn _) kn _ = upd _ kn _; rw [upd_upd])
   subst hHs
   refine SeqK.nil ?_
   refine AW.reg ?_
   refine SeqK.q (q_add _ rfl rfl rfl (w64 (by omega) (by omega))) rfl rfl rfl ?_
   refine sM ?_
   refine SeqK.nil ?_
   exact ⟨i + 1, _, Wk.keep 66 [(0, .c (sC u)), (3, .c (.a (.bp k3 0))), (5, .c (.a (.bp k5 0))), (6, .c (.a (.fn 88 [.bp k3 0, .bp k5 0]))), (20, iX .i64 ((u.size : Nat) : Int)), (21, iX .i64 (((i + 1) : Nat) : Int))] [] (HX H k3 k5 (kn) p ((clN p.data.toList (stN p.data.toList (pat u.data.toList i) f p.size) p.size))) rfl ⟨rfl, rfl, rfl, rfl, rfl, rfl, trivial⟩ trivial (fun _ _ h => h) rfl, by omega, kn, (clN p.data.toList (stN p.data.toList (pat u.data.toList i) f p.size) p.size), ⟨by omega, n2, cl_shut', cl_ok'.trans hok⟩, rfl⟩
 ·
  refine AW.exit ?_
  refine eth_e ?_
  refine eth_e ?_
  refine exit_here ?_
  refine AW.seq ?_
  have hn0 : (u.data.toList).drop i = [] := List.drop_of_length_le (by rw [ba_len]; omega)
  rw [hn0, ok_nil hsh, ba_len] at hok
  refine AW.reg ?_
  refine SeqK.r (g_load (r := .a _) rfl Fx.ty150 rfl (n1.ht) rfl rfl rfl rfl) rfl ?_
  refine SeqK.r (g_load (r := .a _) rfl Fx.ty9 rfl (n1.hp) rfl rfl rfl rfl) rfl ?_
  refine SeqK.q (q_lenS rfl Fx.un9 rfl) rfl rfl rfl ?_
  refine SeqK.q (q_indexOs _ rfl Fx.sl150 rfl rfl (by omega) (by omega) rfl) rfl rfl rfl ?_
  refine SeqK.r (g_loadR rfl Fx.ty4 rfl (NX.hr) (tb_ld (f := f) (by omega : p.size < p.size + 1)) (row_in0 bll (tb_in (f := f) (by omega : p.size < p.size + 1))) (by decide) rfl rfl) rfl ?_
  refine sA ?_
  refine SeqK.nil ?_
  refine AW.ret ?_
  exact fin_x (x := .c _) (H) (.tmp rfl .nil) rfl (n1.sub) (⟨bCe (Bool.eq_iff_iff.2 hok), rfl⟩)

end Go.Proofs.Ytnmfjojhgfipcaa.W
namespace Go.Proofs.Ytnmfjojhgfipcaa.W
open Go.RowKit E
set_option linter.unusedVariables false
set_option linter.unusedSimpArgs false
set_option linter.unusedSectionVars false
theorem ps0 {t : Ts} {u : ByteArray} (h : t.k = 0) : psB t u = decide (u = t.s) := by rw [psB, if_pos h]
theorem ps1 {t : Ts} {u : ByteArray} (h : t.k = 1) : psB t u = likeL u.data.toList t.s.data.toList := by rw [psB, if_neg (by omega), if_pos h]
theorem ps2 {t : Ts} {u : ByteArray} (h : t.k = 2) : psB t u = strLt u t.s := by rw [psB, if_neg (by omega), if_neg (by omega), if_pos h]
theorem ps3 {t : Ts} {u : ByteArray} (h : ¬ t.k = 0) (h1 : ¬ t.k = 1) (h2 : ¬ t.k = 2) : psB t u = (strLt u t.s || decide (u = t.s)) := by rw [psB, if_neg h, if_neg h1, if_neg h2]

set_option maxRecDepth 20000 in
theorem passes_any (t : Ts) (u : ByteArray) (hu : u.size ≤ 1000000000000000) (ht : t.s.size ≤ 1000000) : Pure Try.prog 27 [tsC t, sC u] (.c (bC (psB t u))) := by
 intro H
 refine Spec.enter Try.func27 rfl ?_
 refine AW.wk (Wk.keep 29 [(0, .c (tsC t)), (1, .c (sC u))] [] (H) rfl ⟨rfl, rfl, trivial⟩ trivial (fun _ _ h => h) rfl) ?_
 refine sR ?_
 refine SeqK.r (b_box (r := [_, _, _, _]) rfl rfl rfl rfl rfl rfl) rfl ?_
 refine sA ?_
 refine SeqK.nil ?_
 refine AW.seq ?_
 refine sR ?_
 refine SeqK.q (q_fieldL _ rfl Fx.fl61_1 rfl rfl) rfl rfl rfl ?_
 refine SeqK.r (b_load (r := .a _) rfl Fx.ty3 rfl rfl rfl rfl rfl rfl) rfl ?_
 refine SeqK.nil ?_
 refine AW.block ?_
 refine sR ?_
 refine SeqK.q (q_eql rfl rfl rfl) rfl rfl rfl ?_
 refine sA ?_
 refine SeqK.nil ?_
 refine AW.condD rfl (fun h7 => ?_) (fun h7 => ?_)
 ·
  refine sR ?_
  refine sM ?_
  refine SeqK.q (q_fieldL _ rfl Fx.fl61_3 rfl rfl) rfl rfl rfl ?_
  refine SeqK.r (b_load (r := .a _) rfl Fx.ty9 rfl rfl rfl rfl rfl rfl) rfl ?_
  refine SeqK.q (q_eqlS rfl rfl rfl) rfl rfl rfl ?_
  refine sA ?_
  refine SeqK.nil ?_
  refine AW.ret ?_
  exact fin_x (x := .c _) (H) (.tmp rfl .nil) rfl (fun _ _ h => h) (⟨bCe (ps0 (by assumption)).symm, rfl⟩)
 ·
  refine sR ?_
  refine SeqK.q (q_eql rfl rfl rfl) rfl rfl rfl ?_
  refine sA ?_
  refine SeqK.nil ?_
  refine AW.condD rfl (fun h13 => ?_) (fun h13 => ?_)
  ·
   refine sR ?_
   refine sM ?_
   refine SeqK.q (q_fieldL _ rfl Fx.fl61_3 rfl rfl) rfl rfl rfl ?_
   refine SeqK.r (b_load (r := .a _) rfl Fx.ty9 rfl rfl rfl rfl rfl rfl) rfl ?_
   refine SeqK.q (q_call _ rfl Fx.fn67 rfl (evlike_any u t.s hu ht) rfl) rfl rfl rfl ?_
   refine sA ?_
   refine SeqK.nil ?_
   refine AW.ret ?_
   exact fin_x (x := .c _) (H) (.tmp rfl .nil) rfl (fun _ _ h => h) (⟨bCe (ps1 (by assumption)).symm, rfl⟩)
  ·
   refine sR ?_
   refine SeqK.q (q_eql rfl rfl rfl) rfl rfl rfl ?_
   refine sA ?_
   refine SeqK.nil ?_
   refine AW.condD rfl (fun h19 => ?_) (fun h19 => ?_)
   ·
    refine sR ?_
    refine sM ?_
    refine SeqK.q (q_fieldL _ rfl Fx.fl61_3 rfl rfl) rfl rfl rfl ?_
    refine SeqK.r (b_load (r := .a _) rfl Fx.ty9 rfl rfl rfl rfl rfl rfl) rfl ?_
    refine SeqK.q (q_lssS rfl rfl rfl) rfl rfl rfl ?_
    refine sA ?_
    refine SeqK.nil ?_
    refine AW.ret ?_
    exact fin_x (x := .c _) (H) (.tmp rfl .nil) rfl (fun _ _ h => h) (⟨bCe (ps2 (by assumption)).symm, rfl⟩)
   ·
    refine AW.skip ?_
    refine sR ?_
    refine sM ?_
    refine SeqK.q (q_fieldL _ rfl Fx.fl61_3 rfl rfl) rfl rfl rfl ?_
    refine SeqK.r (b_load (r := .a _) rfl Fx.ty9 rfl rfl rfl rfl rfl rfl) rfl ?_
    refine SeqK.q (q_leqS rfl rfl rfl) rfl rfl rfl ?_
    refine sA ?_
    refine SeqK.nil ?_
    refine AW.ret ?_
    exact fin_x (x := .c _) (H) (.tmp rfl .nil) rfl (fun _ _ h => h) (⟨bCe (ps3 (by assumption) (by assumption) (by assumption)).symm, rfl⟩)

end Go.Proofs.Ytnmfjojhgfipcaa.W
namespace Go.Proofs.Ytnmfjojhgfipcaa.W
open Go.RowKit E
set_option linter.unusedVariables false
set_option linter.unusedSimpArgs false
set_option linter.unusedSectionVars false
/-! two texts compared -/
def i3 (a b : Int) : Int := if a < b then -1 else if b < a then 1 else 0
def cmpL : List UInt8 → List UInt8 → Int
  | [], [] => 0
  | [], _ :: _ => -1
  | _ :: _, [] => 1
  | x :: a, y :: b => if x = y then cmpL a b else i3 (x.toNat : Int) (y.toNat : Int)
theorem u8_ne {a b : UInt8} (h : a ≠ b) : (a.toNat : Int) ≠ (b.toNat : Int) := fun e => h (u8_eq.1 e)
theorem u8_lt {a b : UInt8} : ((a.toNat : Int) < (b.toNat : Int)) ↔ a < b := by rw [UInt8.lt_iff_toNat_lt]; omega
theorem cmpL_lt : ∀ {a b : List UInt8}, cmpL a b < 0 ↔ Op.bytesLess a b = true
  | [], [] => by simp [cmpL, Op.bytesLess]
  | [], _ :: _ => by simp [cmpL, Op.bytesLess]
  | _ :: _, [] => by simp [cmpL, Op.bytesLess]
  | x :: a, y :: b => by
    rw [cmpL, Op.bytesLess]
    by_cases h : x = y
    · subst h
      rw [if_pos rfl, cmpL_lt]; simp
    · rw [if_neg h, i3]
      have h1 := u8_ne h
      by_cases h2 : x < y
      · rw [if_pos (u8_lt.2 h2)]; simp [h2]
      · have h3 : ¬ (x.toNat : Int) < (y.toNat : Int) := fun e => h2 (u8_lt.1 e)
        rw [if_neg h3, if_pos (by omega)]; simp [h2, h]
theorem cmpL_eq : ∀ {a b : List UInt8}, cmpL a b = 0 ↔ a = b
  | [], [] => by simp [cmpL]
  | [], _ :: _ => by simp [cmpL]
  | _ :: _, [] => by simp [cmpL]
  | x :: a, y :: b => by
    rw [cmpL]
    by_cases h : x = y
    · subst h
      rw [if_pos rfl, cmpL_eq]; simp
    · have h1 := u8_ne h
      rw [if_neg h, i3]
      constructor
      · intro h2; exfalso; split at h2
        · omega
        · split at h2 <;> omega
      · intro h2; exact absurd (List.cons.inj h2).1 h
theorem cmpL_end (a b : List UInt8) (h : a = [] ∨ b = []) : cmpL a b = i3 (a.length : Int) (b.length : Int) := by
  match a, b, h with
  | [], [], _ => rfl
  | [], y :: b, _ => rw [cmpL, i3, if_pos (by simp only [List.length_cons, List.length_nil]; omega)]
  | x :: a, [], _ => rw [cmpL, i3, if_neg (by simp only [List.length_cons, List.length_nil]; omega), if_pos (by simp only [List.length_cons, List.length_nil]; omega)]
abbrev cmpS (a b : ByteArray) : Int := cmpL a.data.toList b.data.toList
theorem cmpS_lt {a b : ByteArray} : decide (cmpS a b < 0) = strLt a b := by
  rw [strLt]; cases h : Op.bytesLess a.data.toList b.data.toList
  · exact decide_eq_false fun e => by rw [cmpL_lt.1 e] at h; cases h
  · exact decide_eq_true (cmpL_lt.2 h)
theorem cmpS_eq {a b : ByteArray} : cmpS a b = 0 ↔ a = b := cmpL_eq.trans ⟨fun h => by cases a; cases b; congr; exact Array.ext' h, fun h => by rw [h]⟩
theorem cmpS_le {a b : ByteArray} : decide (cmpS a b ≤ 0) = (strLt a b || decide (a = b)) := by
  rw [← cmpS_lt]
  by_cases h : cmpS a b < 0
  · rw [decide_eq_true h, decide_eq_true (by omega)]; rfl
  · rw [decide_eq_false h]
    by_cases h2 : a = b
    · rw [decide_eq_true h2, decide_eq_true (by rw [cmpS_eq.2 h2]; omega)]; rfl
    · rw [decide_eq_false h2, decide_eq_false]; rfl
      intro e; exact h2 (cmpS_eq.1 (by omega))

set_option maxRecDepth 20000 in
theorem ints_any (a b : Int) : Pure Try.prog 89 [iC a, iC b] (.c (iC (i3 a b))) := by
 intro H
 refine Spec.enter Try.func89 rfl ?_
 refine AW.wk (Wk.keep 11 [(0, .c (iC a)), (1, .c (iC b))] [] (H) rfl ⟨rfl, rfl, trivial⟩ trivial (fun _ _ h => h) rfl) ?_
 refine sR ?_
 refine sA ?_
 refine SeqK.nil ?_
 refine AW.seq ?_
 refine sR ?_
 refine sM ?_
 refine sM ?_
 refine SeqK.q (q_lss rfl rfl rfl) rfl rfl rfl ?_
 refine SeqK.nil ?_
 refine AW.condD rfl (fun h7 => ?_) (fun h7 => ?_)
 ·
  refine sR ?_
  refine sA ?_
  refine SeqK.nil ?_
  refine AW.ret ?_
  exact fin_x (x := .c _) (H) (.tmp rfl .nil) rfl (fun _ _ h => h) (⟨iCe (by rw [i3, if_pos (by assumption)]), rfl⟩)
 ·
  refine AW.skip ?_
  refine AW.seq ?_
  refine sR ?_
  refine sM ?_
  refine sM ?_
  refine SeqK.q (q_gtr rfl rfl rfl) rfl rfl rfl ?_
  refine SeqK.nil ?_
  refine AW.condD rfl (fun h10 => ?_) (fun h10 => ?_)
  ·
   refine sR ?_
   refine sA ?_
   refine SeqK.nil ?_
   refine AW.ret ?_
   exact fin_x (x := .c _) (H) (.tmp rfl .nil) rfl (fun _ _ h => h) (⟨iCe (by rw [i3, if_neg (by assumption), if_pos (by omega)]), rfl⟩)
  ·
   refine AW.skip ?_
   refine sR ?_
   refine sA ?_
   refine SeqK.nil ?_
   refine AW.ret ?_
   exact fin_x (x := .c _) (H) (.tmp rfl .nil) rfl (fun _ _ h => h) (⟨iCe (by rw [i3, if_neg (by assumption), if_neg (by omega)]), rfl⟩)

set_option maxRecDepth 20000 in
theorem texts_any (a b : ByteArray) (ha : a.size ≤ 1000000000000000) (hb : b.size ≤ 1000000000000000) : Pure Try.prog 69 [sC a, sC b] (.c (iC (cmpS a b))) := by
 intro H
 refine Spec.enter Try.func69 rfl ?_
 refine AW.wk (Wk.keep 39 [(0, .c (sC a)), (1, .c (sC b))] [] (H) rfl ⟨rfl, rfl, trivial⟩ trivial (fun _ _ h => h) rfl) ?_
 refine sR ?_
 refine sA ?_
 refine SeqK.nil ?_
 refine AW.seq ?_
 refine sR ?_
 refine sA ?_
 refine SeqK.nil ?_
 refine AW.block ?_
 refine AW.loop (fun (i : Nat) s => (i ≤ a.size ∧ i ≤ b.size ∧ cmpS a b = cmpL ((a.data.toList).drop i) ((b.data.toList).drop i)) ∧ s = ⟨39, sp [(0, .c (sC a)), (1, .c (sC b)), (5, iX .i64 ((i : Nat) : Int))], lv [], H⟩) (fun i => a.size - i) 0 ⟨_, Wk.keep 39 [(0, .c (sC a)), (1, .c (sC b)), (5, iX .i64 ((((0 : Nat)) : Nat) : Int))] [] (H) rfl ⟨rfl, rfl, rfl, trivial⟩ trivial (fun _ _ h => h) rfl, ⟨Nat.zero_le _, Nat.zero_le _, rfl⟩, rfl⟩ (fun i s hs => ?_)
 obtain ⟨⟨hi, hj, hc⟩, rfl⟩ := hs
 refine AW.seq ?_
 refine sR ?_
 refine sM ?_
 refine sM ?_
 refine SeqK.q (q_lenS rfl Fx.un9 rfl) rfl rfl rfl ?_
 refine SeqK.q (q_lss rfl rfl rfl) rfl rfl rfl ?_
 refine SeqK.qD (q_mvC rfl rfl) rfl rfl rfl (fun g10 => ?_) (fun g10 => ?_)
 ·
  refine SeqK.on (q_mvC rfl rfl) rfl rfl rfl rfl rfl ?_
  refine SeqK.on (q_mvC rfl rfl) rfl rfl rfl rfl rfl ?_
  refine SeqK.on (q_lenS rfl Fx.un9 rfl) rfl rfl rfl rfl rfl ?_
  refine SeqK.on (q_lss rfl rfl rfl) rfl rfl rfl rfl rfl ?_
  refine SeqK.q (q_pkT rfl rfl rfl) rfl rfl rfl ?_
  refine SeqK.nil ?_
  refine AW.condD rfl (fun h15 => ?_) (fun h15 => ?_)
  ·
   refine AW.skip ?_
   refine AW.seq ?_
   refine AW.block ?_
   refine AW.seq ?_
   have hd : cmpL ((a.data.toList).drop i) ((b.data.toList).drop i) = if pat (a.data.toList) i = pat (b.data.toList) i then cmpL ((a.data.toList).drop (i + 1)) ((b.data.toList).drop (i + 1)) else i3 ((pat (a.data.toList) i).toNat : Int) ((pat (b.data.toList) i).toNat : Int) := by rw [drop_pat (p := a.data.toList) (by rw [ba_len]; omega), drop_pat (p := b.data.toList) (by rw [ba_len]; omega), cmpL]
   have hu1 := (pat (a.data.toList) i).toNat_lt
   have hu2 := (pat (b.data.toList) i).toNat_lt
   refine AW.draw Fx.mo ?_
   refine LexK.q (q_mvC rfl rfl) rfl rfl rfl ?_
   refine LexK.q (q_mvC rfl rfl) rfl rfl rfl ?_
   refine LexK.q (q_indexS _ rfl Fx.un9 rfl rfl (by omega) (idx_pat (by omega))) rfl rfl rfl ?_
   refine LexK.q (q_mvC rfl rfl) rfl rfl rfl ?_
   refine LexK.q (q_mvC rfl rfl) rfl rfl rfl ?_
   refine LexK.q (q_indexS _ rfl Fx.un9 rfl rfl (by omega) (idx_pat (by omega))) rfl rfl rfl ?_
   refine LexK.q (q_neq rfl rfl rfl) rfl rfl rfl ?_
   refine LexK.nil (by kernel_rfl) ?_
   refine AW.condD rfl (fun h24 => ?_) (fun h24 => ?_)
   ·
    refine AW.seq ?_
    refine AW.draw Fx.mo ?_
    refine LexK.q (q_mvC rfl rfl) rfl rfl rfl ?_
    refine LexK.q (q_mvC rfl rfl) rfl rfl rfl ?_
    refine LexK.q (q_indexS _ rfl Fx.un9 rfl rfl (by omega) (idx_pat (by omega))) rfl rfl rfl ?_
    refine LexK.q (q_conv _ rfl Fx.un2 rfl (w64 (by omega) (by omega)) ⟨_, Fx.un5⟩) rfl rfl rfl ?_
    refine LexK.q (q_mvC rfl rfl) rfl rfl rfl ?_
    refine LexK.q (q_mvC rfl rfl) rfl rfl rfl ?_
    refine LexK.q (q_indexS _ rfl Fx.un9 rfl rfl (by omega) (idx_pat (by omega))) rfl rfl rfl ?_
    refine LexK.q (q_conv _ rfl Fx.un2 rfl (w64 (by omega) (by omega)) ⟨_, Fx.un5⟩) rfl rfl rfl ?_
    refine LexK.q (q_call _ rfl Fx.fn89 rfl (ints_any _ _) rfl) rfl rfl rfl ?_
    refine LexK.q (q_asC rfl rfl) rfl rfl rfl ?_
    refine LexK.nil (by kernel_rfl) ?_
    refine AW.ret ?_
    exact fin_x (x := .c _) (H) (.tmp rfl .nil) rfl (fun _ _ h => h) (⟨iCe (by rw [hc, hd, if_neg (fun e => h24 (u8_eq.2 e))]), rfl⟩)
   ·
    refine AW.skip ?_
    refine AW.reg ?_
    refine sM ?_
    refine SeqK.q (q_add _ rfl rfl rfl (w64 (by omega) (by omega))) rfl rfl rfl ?_
    refine sA ?_
    refine SeqK.nil ?_
    exact ⟨i + 1, _, Wk.keep 39 [(0, .c (sC a)), (1, .c (sC b)), (5, iX .i64 (((i + 1) : Nat) : Int))] [] (H) rfl ⟨rfl, rfl, rfl, trivial⟩ trivial (fun _ _ h => h) rfl, by omega, ⟨by omega, by omega, by rw [hc, hd, if_pos (u8_eq.1 (by simpa using h24))]⟩, rfl⟩
  ·
   refine AW.exit ?_
   refine eth_e ?_
   refine eth_e ?_
   refine exit_here ?_
   refine sR ?_
   refine sM ?_
   refine SeqK.q (q_lenS rfl Fx.un9 rfl) rfl rfl rfl ?_
   refine sM ?_
   refine SeqK.q (q_lenS rfl Fx.un9 rfl) rfl rfl rfl ?_
   refine SeqK.q (q_call _ rfl Fx.fn89 rfl (ints_any _ _) rfl) rfl rfl rfl ?_
   refine sA ?_
   refine SeqK.nil ?_
   refine AW.ret ?_
   exact fin_x (x := .c _) (H) (.tmp rfl .nil) rfl (fun _ _ h => h) (⟨iCe (by
    rw [hc, cmpL_end _ _ (by rw [List.drop_eq_nil_iff, List.drop_eq_nil_iff, ba_len, ba_len]; omega), List.length_drop, List.length_drop, ba_len, ba_len]
    unfold i3; (repeat' split) <;> omega), rfl⟩)
 ·
  refine SeqK.off rfl rfl rfl rfl rfl rfl ?_
  refine SeqK.off rfl rfl rfl rfl rfl rfl ?_
  refine SeqK.off rfl rfl rfl rfl rfl rfl ?_
  refine SeqK.off rfl rfl rfl rfl rfl rfl ?_
  refine SeqK.q (q_pkF rfl rfl rfl) rfl rfl rfl ?_
  refine SeqK.nil ?_
  refine AW.condF rfl ?_
  refine AW.exit ?_
  refine eth_e ?_
  refine eth_e ?_
  refine exit_here ?_
  refine sR ?_
  refine sM ?_
  refine SeqK.q (q_lenS rfl Fx.un9 rfl) rfl rfl rfl ?_
  refine sM ?_
  refine SeqK.q (q_lenS rfl Fx.un9 rfl) rfl rfl rfl ?_
  refine SeqK.q (q_call _ rfl Fx.fn89 rfl (ints_any _ _) rfl) rfl rfl rfl ?_
  refine sA ?_
  refine SeqK.nil ?_
  refine AW.ret ?_
  exact fin_x (x := .c _) (H) (.tmp rfl .nil) rfl (fun _ _ h => h) (⟨iCe (by
   rw [hc, cmpL_end _ _ (by rw [List.drop_eq_nil_iff, List.drop_eq_nil_iff, ba_len, ba_len]; omega), List.length_drop, List.length_drop, ba_len, ba_len]
   unfold i3; (repeat' split) <;> omega), rfl⟩)

end Go.Proofs.Ytnmfjojhgfipcaa.W
namespace Go.Proofs.Ytnmfjojhgfipcaa.W
open Go.RowKit E
set_option linter.unusedVariables false
set_option linter.unusedSimpArgs false
set_option linter.unusedSectionVars false
theorem ba_nil {s : ByteArray} (h : s.size = 0) : s = ⟨#[]⟩ := by
  cases s with | mk d => rw [show d = #[] from Array.eq_empty_of_size_eq_zero h]
theorem ba_pos {s : ByteArray} (h : s ≠ ⟨#[]⟩) : 0 < s.size := by
  rcases Nat.eq_zero_or_pos s.size with e | e
  · exact absurd (ba_nil e) h
  · exact e
theorem ex_size {s : ByteArray} {i : Nat} : (s.extract i s.size).size = s.size - i := by
  rw [ByteArray.size_extract]; omega
theorem ex_drop {s : ByteArray} {i : Nat} : (s.extract i s.size).data.toList = s.data.toList.drop i := by
  rw [ByteArray.data_extract, Array.toList_extract, List.extract_eq_take_drop]
  exact List.take_of_length_le (by rw [List.length_drop, ba_len]; omega)
theorem like_e {u p : ByteArray} (h : p = ⟨#[]⟩) : decide (u = ⟨#[]⟩) = likeL (u.data.toList) (p.data.toList) := by
  subst h
  show _ = likeL (u.data.toList) []
  by_cases h : u = ⟨#[]⟩
  · subst h; rw [decide_eq_true rfl]; exact like_nn.symm
  · rw [decide_eq_false h]
    have h1 : 0 < (u.data.toList).length := by rw [ba_len]; exact ba_pos h
    cases hs : u.data.toList with
    | nil => rw [hs] at h1; simp at h1
    | cons x r => exact like_sn.symm
theorem like_loop {u p : ByteArray} (hp : 0 < p.size) (h : pat (p.data.toList) 0 = 37) : likeL (u.data.toList) (p.data.toList) = (List.range (u.size + 1)).any fun i => likeL ((u.data.toList).drop i) ((p.data.toList).drop 1) := by
  have h1 := drop_pat (p := p.data.toList) (j := 0) (by rw [ba_len]; exact hp)
  rw [List.drop_zero, h] at h1
  conv => lhs; rw [h1]
  rw [like_any, ba_len]
theorem like_step {u p : ByteArray} (hp : 0 < p.size) (hu : 0 < u.size) (h : ¬ pat (p.data.toList) 0 = 37) : likeL (u.data.toList) (p.data.toList) = ((decide (pat (p.data.toList) 0 = 95) || decide (pat (p.data.toList) 0 = pat (u.data.toList) 0)) && likeL ((u.data.toList).drop 1) ((p.data.toList).drop 1)) := by
  have h1 := drop_pat (p := p.data.toList) (j := 0) (by rw [ba_len]; exact hp)
  have h2 := drop_pat (p := u.data.toList) (j := 0) (by rw [ba_len]; exact hu)
  rw [List.drop_zero] at h1 h2
  conv => lhs; rw [h1, h2]
  rw [like_s1 h]
theorem like_out {u p : ByteArray} (hp : 0 < p.size) (hu : u = ⟨#[]⟩) (h : ¬ pat (p.data.toList) 0 = 37) : likeL (u.data.toList) (p.data.toList) = false := by
  have h1 := drop_pat (p := p.data.toList) (j := 0) (by rw [ba_len]; exact hp)
  rw [List.drop_zero] at h1
  rw [h1, hu]
  exact like_n1 h

set_option maxRecDepth 20000 in
theorem rlike_of (p u : ByteArray) (hp : p.size ≤ 1000000000000000) (hu : u.size ≤ 1000000000000000) (ih : ∀ q v : ByteArray, q.size < p.size → v.size ≤ 1000000000000000 → Pure Try.prog 68 [sC v, sC q] (.c (bC (likeL v.data.toList q.data.toList)))) : Pure Try.prog 68 [sC u, sC p] (.c (bC (likeL (u.data.toList) (p.data.toList)))) := by
  intro H
  refine Spec.enter Try.func68 rfl ?_
  refine AW.wk (Wk.keep 46 [(0, .c (sC u)), (1, .c (sC p))] [] (H) rfl ⟨rfl, rfl, trivial⟩ trivial (fun _ _ h => h) rfl) ?_
  refine sR ?_
  refine sA ?_
  refine SeqK.nil ?_
  refine AW.seq ?_
  refine sR ?_
  refine sM ?_
  refine SeqK.q (q_eqlS rfl rfl rfl) rfl rfl rfl ?_
  refine SeqK.nil ?_
  refine AW.condD rfl (fun h7 => ?_) (fun h7 => ?_)
  ·
    refine sR ?_
    refine sM ?_
    refine SeqK.q (q_eqlS rfl rfl rfl) rfl rfl rfl ?_
    refine sA ?_
    refine SeqK.nil ?_
    refine AW.ret ?_
    exact fin_x (x := .c _) (H) (.tmp rfl .nil) rfl (fun _ _ h => h) (⟨bCe (like_e h7), rfl⟩)
  ·
    refine AW.skip ?_
    refine AW.seq ?_
    refine AW.seq ?_
    have h0 := ba_pos h7
    have ih9 : ∀ i, i ≤ u.size → Pure Try.prog 68 [sC (u.extract i u.size), sC (p.extract 1 p.size)] (.c (bC (likeL ((u.data.toList).drop i) ((p.data.toList).drop 1)))) := fun i hi => by
      have := ih (p.extract 1 p.size) (u.extract i u.size) (by rw [ex_size]; omega) (by rw [ex_size]; omega)
      rwa [ex_drop, ex_drop] at this
    refine AW.reg ?_
    refine sM ?_
    refine SeqK.q (q_indexS _ rfl Fx.un9 rfl rfl (by omega) (idx_pat (j := 0) h0)) rfl rfl rfl ?_
    refine SeqK.q (q_eql rfl rfl rfl) rfl rfl rfl ?_
    refine SeqK.nil ?_
    refine AW.condD rfl (fun h12 => ?_) (fun h12 => ?_)
    ·
      refine AW.seq ?_
      refine sR ?_
      refine sA ?_
      refine SeqK.nil ?_
      refine AW.block ?_
      refine AW.loop (fun (i : Nat) s => (i ≤ u.size + 1 ∧ ∀ j, j < i → likeL ((u.data.toList).drop j) ((p.data.toList).drop 1) = false) ∧ s = ⟨46, sp [(0, .c (sC u)), (1, .c (sC p)), (4, .c (bC false)), (5, iX .i64 ((i : Nat) : Int))], lv [], H⟩) (fun i => u.size + 1 - i) 0 ⟨_, Wk.keep 46 [(0, .c (sC u)), (1, .c (sC p)), (4, .c (bC false)), (5, iX .i64 ((((0 : Nat)) : Nat) : Int))] [] (H) rfl ⟨rfl, rfl, rfl, rfl, trivial⟩ trivial (fun _ _ h => h) rfl, ⟨Nat.zero_le _, fun j h => absurd h (Nat.not_lt_zero j)⟩, rfl⟩ (fun i s hs => ?_)
      obtain ⟨⟨hi, hU⟩, rfl⟩ := hs
      refine AW.seq ?_
      refine sR ?_
      refine sM ?_
      refine sM ?_
      refine SeqK.q (q_lenS rfl Fx.un9 rfl) rfl rfl rfl ?_
      refine SeqK.q (q_leq rfl rfl rfl) rfl rfl rfl ?_
      refine SeqK.nil ?_
      refine AW.condD rfl (fun h16 => ?_) (fun h16 => ?_)
      ·
        refine AW.skip ?_
        refine AW.seq ?_
        refine AW.block ?_
        refine AW.seq ?_
        refine AW.draw Fx.mo ?_
        refine LexK.q (q_mvC rfl rfl) rfl rfl rfl ?_
        refine LexK.q (q_mvC rfl rfl) rfl rfl rfl ?_
        refine LexK.q (q_cutS i u.size _ rfl Fx.un9 rfl ⟨_, rfl⟩ rfl (by omega) (by omega) rfl) rfl rfl rfl ?_
        refine LexK.q (q_mvC rfl rfl) rfl rfl rfl ?_
        refine LexK.q (q_cutS 1 p.size _ rfl Fx.un9 rfl ⟨_, rfl⟩ rfl (by omega) (by omega) rfl) rfl rfl rfl ?_
        refine LexK.q (q_call _ rfl Fx.fn68 rfl (ih9 i (by omega)) rfl) rfl rfl rfl ?_
        refine LexK.nil (by kernel_rfl) ?_
        refine AW.cond _ rfl (fun h24 => ?_) (fun h24 => ?_)
        ·
          refine sR ?_
          refine sA ?_
          refine SeqK.nil ?_
          refine AW.ret ?_
          exact fin_x (x := .c _) (H) (.tmp rfl .nil) rfl (fun _ _ h => h) (⟨bCe (by
            rw [like_loop h0 (u8_pct.1 h12)]
            exact (List.any_eq_true.2 ⟨i, List.mem_range.2 (by omega), h24⟩).symm), rfl⟩)
        ·
          refine AW.skip ?_
          refine AW.reg ?_
          refine sM ?_
          refine SeqK.q (q_add _ rfl rfl rfl (w64 (by omega) (by omega))) rfl rfl rfl ?_
          refine sA ?_
          refine SeqK.nil ?_
          exact ⟨i + 1, _, Wk.keep 46 [(0, .c (sC u)), (1, .c (sC p)), (4, .c (bC false)), (5, iX .i64 (((i + 1) : Nat) : Int))] [] (H) rfl ⟨rfl, rfl, rfl, rfl, trivial⟩ trivial (fun _ _ h => h) rfl, by omega, ⟨by omega, fun j hj => by
            by_cases e : j = i
            · rw [e]; exact h24
            · exact hU j (by omega)⟩, rfl⟩
      ·
        refine AW.exit ?_
        refine eth_e ?_
        refine eth_e ?_
        refine exit_here ?_
        refine AW.seq ?_
        have hr : likeL (u.data.toList) (p.data.toList) = false := by
          rw [like_loop h0 (u8_pct.1 h12), List.any_eq_false]
          intro j hj; have := List.mem_range.1 hj; rw [hU j (by omega)]; exact Bool.false_ne_true
        refine AW.reg ?_
        refine sA ?_
        refine SeqK.nil ?_
        refine AW.ret ?_
        exact fin_x (x := .c _) (H) (.tmp rfl .nil) rfl (fun _ _ h => h) (⟨bCe hr.symm, rfl⟩)
    ·
      refine AW.skip ?_
      refine AW.seq ?_
      have hn : ¬ pat (p.data.toList) 0 = 37 := fun e => h12 (u8_pct.2 e)
      refine AW.draw Fx.mo ?_
      refine LexK.q (q_mvC rfl rfl) rfl rfl rfl ?_
      refine LexK.q (q_neqS rfl rfl rfl) rfl rfl rfl ?_
      refine LexK.qD (q_mvC rfl rfl) rfl rfl rfl (fun g27 => ?_) (fun g27 => ?_)
      ·
        have hu0 := ba_pos g27
        have hst := like_step h0 hu0 hn
        refine LexK.on (q_mvC rfl rfl) rfl rfl rfl rfl rfl ?_
        refine LexK.on (q_indexS _ rfl Fx.un9 rfl rfl (by omega) (idx_pat (j := 0) h0)) rfl rfl rfl rfl rfl ?_
        refine LexK.on (q_eql rfl rfl rfl) rfl rfl rfl rfl rfl ?_
        refine LexK.onD (q_mvC rfl rfl) rfl rfl rfl rfl rfl (fun g31 => ?_) (fun g31 => ?_)
        ·
          have hr : likeL (u.data.toList) (p.data.toList) = likeL ((u.data.toList).drop 1) ((p.data.toList).drop 1) := by rw [hst, decide_eq_true (u8_und.1 g31)]; simp
          refine LexK.off rfl rfl rfl rfl rfl rfl ?_
          refine LexK.off rfl rfl rfl rfl rfl rfl ?_
          refine LexK.off rfl rfl rfl rfl rfl rfl ?_
          refine LexK.off rfl rfl rfl rfl rfl rfl ?_
          refine LexK.off rfl rfl rfl rfl rfl rfl ?_
          refine LexK.on (q_pkT rfl rfl rfl) rfl rfl rfl rfl rfl ?_
          refine LexK.q (q_pkT rfl rfl rfl) rfl rfl rfl ?_
          refine LexK.q (q_mvC rfl rfl) rfl rfl rfl ?_
          refine LexK.on (q_mvC rfl rfl) rfl rfl rfl rfl rfl ?_
          refine LexK.on (q_cutS 1 u.size _ rfl Fx.un9 rfl ⟨_, rfl⟩ rfl (by omega) (by omega) rfl) rfl rfl rfl rfl rfl ?_
          refine LexK.on (q_mvC rfl rfl) rfl rfl rfl rfl rfl ?_
          refine LexK.on (q_cutS 1 p.size _ rfl Fx.un9 rfl ⟨_, rfl⟩ rfl (by omega) (by omega) rfl) rfl rfl rfl rfl rfl ?_
          refine LexK.on (q_call _ rfl Fx.fn68 rfl (ih9 1 (by omega)) rfl) rfl rfl rfl rfl rfl ?_
          refine LexK.q (q_pkT rfl rfl rfl) rfl rfl rfl ?_
          refine LexK.q (q_asC rfl rfl) rfl rfl rfl ?_
          refine LexK.nil (by kernel_rfl) ?_
          refine AW.ret ?_
          exact fin_x (x := .c _) (H) (.tmp rfl .nil) rfl (fun _ _ h => h) (⟨bCe hr.symm, rfl⟩)
        ·
          refine LexK.on (q_mvC rfl rfl) rfl rfl rfl rfl rfl ?_
          refine LexK.on (q_indexS _ rfl Fx.un9 rfl rfl (by omega) (idx_pat (j := 0) h0)) rfl rfl rfl rfl rfl ?_
          refine LexK.on (q_mvC rfl rfl) rfl rfl rfl rfl rfl ?_
          refine LexK.on (q_indexS _ rfl Fx.un9 rfl rfl (by omega) (idx_pat (j := 0) hu0)) rfl rfl rfl rfl rfl ?_
          refine LexK.on (q_eql rfl rfl rfl) rfl rfl rfl rfl rfl ?_
          refine LexK.on (q_pkF rfl rfl rfl) rfl rfl rfl rfl rfl ?_
          refine LexK.q (q_pkT rfl rfl rfl) rfl rfl rfl ?_
          refine LexK.qD (q_mvC rfl rfl) rfl rfl rfl (fun g39 => ?_) (fun g39 => ?_)
          ·
            have hr : likeL (u.data.toList) (p.data.toList) = likeL ((u.data.toList).drop 1) ((p.data.toList).drop 1) := by rw [hst, decide_eq_true (u8_eq.1 g39)]; simp
            refine LexK.on (q_mvC rfl rfl) rfl rfl rfl rfl rfl ?_
            refine LexK.on (q_cutS 1 u.size _ rfl Fx.un9 rfl ⟨_, rfl⟩ rfl (by omega) (by omega) rfl) rfl rfl rfl rfl rfl ?_
            refine LexK.on (q_mvC rfl rfl) rfl rfl rfl rfl rfl ?_
            refine LexK.on (q_cutS 1 p.size _ rfl Fx.un9 rfl ⟨_, rfl⟩ rfl (by omega) (by omega) rfl) rfl rfl rfl rfl rfl ?_
            refine LexK.on (q_call _ rfl Fx.fn68 rfl (ih9 1 (by omega)) rfl) rfl rfl rfl rfl rfl ?_
            refine LexK.q (q_pkT rfl rfl rfl) rfl rfl rfl ?_
            refine LexK.q (q_asC rfl rfl) rfl rfl rfl ?_
            refine LexK.nil (by kernel_rfl) ?_
            refine AW.ret ?_
            exact fin_x (x := .c _) (H) (.tmp rfl .nil) rfl (fun _ _ h => h) (⟨bCe hr.symm, rfl⟩)
          ·
            have hr : likeL (u.data.toList) (p.data.toList) = false := by rw [hst, decide_eq_false (fun e => g31 (u8_und.2 e)), decide_eq_false (fun e => g39 (u8_eq.2 e))]; rfl
            refine LexK.off rfl rfl rfl rfl rfl rfl ?_
            refine LexK.off rfl rfl rfl rfl rfl rfl ?_
            refine LexK.off rfl rfl rfl rfl rfl rfl ?_
            refine LexK.off rfl rfl rfl rfl rfl rfl ?_
            refine LexK.off rfl rfl rfl rfl rfl rfl ?_
            refine LexK.q (q_pkF rfl rfl rfl) rfl rfl rfl ?_
            refine LexK.q (q_asC rfl rfl) rfl rfl rfl ?_
            refine LexK.nil (by kernel_rfl) ?_
            refine AW.ret ?_
            exact fin_x (x := .c _) (H) (.tmp rfl .nil) rfl (fun _ _ h => h) (⟨bCe hr.symm, rfl⟩)
      ·
        have hr : likeL (u.data.toList) (p.data.toList) = false := like_out h0 (by simpa using g27) hn
        refine LexK.off rfl rfl rfl rfl rfl rfl ?_
        refine LexK.off rfl rfl rfl rfl rfl rfl ?_
        refine LexK.off rfl rfl rfl rfl rfl rfl ?_
        refine LexK.off rfl rfl rfl rfl rfl rfl ?_
        refine LexK.offU rfl rfl rfl rfl rfl ?_
        refine LexK.offU rfl rfl rfl rfl rfl ?_
        refine LexK.offU rfl rfl rfl rfl rfl ?_
        refine LexK.offU rfl rfl rfl rfl rfl ?_
        refine LexK.offU rfl rfl rfl rfl rfl ?_
        refine LexK.off rfl rfl rfl rfl rfl rfl ?_
        refine LexK.q (q_pkF rfl rfl rfl) rfl rfl rfl ?_
        refine LexK.q (q_mvC rfl rfl) rfl rfl rfl ?_
        refine LexK.off rfl rfl rfl rfl rfl rfl ?_
        refine LexK.off rfl rfl rfl rfl rfl rfl ?_
        refine LexK.off rfl rfl rfl rfl rfl rfl ?_
        refine LexK.off rfl rfl rfl rfl rfl rfl ?_
        refine LexK.off rfl rfl rfl rfl rfl rfl ?_
        refine LexK.q (q_pkF rfl rfl rfl) rfl rfl rfl ?_
        refine LexK.q (q_asC rfl rfl) rfl rfl rfl ?_
        refine LexK.nil (by kernel_rfl) ?_
        refine AW.ret ?_
        exact fin_x (x := .c _) (H) (.tmp rfl .nil) rfl (fun _ _ h => h) (⟨bCe hr.symm, rfl⟩)

theorem rlike_any (n : Nat) : ∀ p u : ByteArray, p.size ≤ n → p.size ≤ 1000000000000000 → u.size ≤ 1000000000000000 → Pure Try.prog 68 [sC u, sC p] (.c (bC (likeL u.data.toList p.data.toList))) := by
  induction n with
  | zero => exact fun p u h hp hu => rlike_of p u hp hu fun q v hq _ => by omega
  | succ n ih => exact fun p u h hp hu => rlike_of p u hp hu fun q v hq hv => ih q v (by omega) (by omega) hv

set_option maxRecDepth 20000 in
theorem rpasses_any (t : Ts) (u : ByteArray) (hu : u.size ≤ 1000000000000000) (ht : t.s.size ≤ 1000000000000000) (hk : 0 ≤ t.k ∧ t.k ≤ 3) : Pure Try.prog 29 [tsC t, sC u] (.c (bC (decide (psB t u ≠ t.n)))) := by
 intro H
 refine Spec.enter Try.func29 rfl ?_
 refine AW.wk (Wk.keep 38 [(0, .c (tsC t)), (1, .c (sC u))] [] (H) rfl ⟨rfl, rfl, trivial⟩ trivial (fun _ _ h => h) rfl) ?_
 refine sR ?_
 refine SeqK.r (b_box (r := [_, _, _, _]) rfl rfl rfl rfl rfl rfl) rfl ?_
 refine sA ?_
 refine SeqK.nil ?_
 refine sR ?_
 refine sA ?_
 refine SeqK.nil ?_
 refine AW.seq ?_
 refine sR ?_
 refine SeqK.q (q_fieldL _ rfl Fx.fl61_1 rfl rfl) rfl rfl rfl ?_
 refine SeqK.r (b_load (r := .a _) rfl Fx.ty3 rfl rfl rfl rfl rfl rfl) rfl ?_
 refine SeqK.nil ?_
 refine AW.block ?_
 refine sR ?_
 refine SeqK.q (q_eql rfl rfl rfl) rfl rfl rfl ?_
 refine sA ?_
 refine SeqK.nil ?_
 refine AW.condD rfl (fun h8 => ?_) (fun h8 => ?_)
 ·
  refine AW.reg ?_
  refine sM ?_
  refine SeqK.q (q_fieldL _ rfl Fx.fl61_3 rfl rfl) rfl rfl rfl ?_
  refine SeqK.r (b_load (r := .a _) rfl Fx.ty9 rfl rfl rfl rfl rfl rfl) rfl ?_
  refine SeqK.q (q_eqlS rfl rfl rfl) rfl rfl rfl ?_
  refine sA ?_
  refine SeqK.nil ?_
  refine sR ?_
  refine sM ?_
  refine SeqK.q (q_fieldL _ rfl Fx.fl61_2 rfl rfl) rfl rfl rfl ?_
  refine SeqK.r (b_load (r := .a _) rfl Fx.ty4 rfl rfl rfl rfl rfl rfl) rfl ?_
  refine SeqK.q (q_neqB rfl Fx.un4 rfl rfl) rfl rfl rfl ?_
  refine sA ?_
  refine SeqK.nil ?_
  refine AW.ret ?_
  exact fin_x (x := .c _) (H) (.tmp rfl .nil) rfl (fun _ _ h => h) (⟨bCe (by rw [ps0 (by assumption)]), rfl⟩)
 ·
  refine sR ?_
  refine SeqK.q (q_eql rfl rfl rfl) rfl rfl rfl ?_
  refine sA ?_
  refine SeqK.nil ?_
  refine AW.condD rfl (fun h14 => ?_) (fun h14 => ?_)
  ·
   refine AW.reg ?_
   refine sM ?_
   refine SeqK.q (q_fieldL _ rfl Fx.fl61_3 rfl rfl) rfl rfl rfl ?_
   refine SeqK.r (b_load (r := .a _) rfl Fx.ty9 rfl rfl rfl rfl rfl rfl) rfl ?_
   refine SeqK.q (q_call _ rfl Fx.fn68 rfl (rlike_any _ _ _ (Nat.le_refl _) ht hu) rfl) rfl rfl rfl ?_
   refine sA ?_
   refine SeqK.nil ?_
   refine sR ?_
   refine sM ?_
   refine SeqK.q (q_fieldL _ rfl Fx.fl61_2 rfl rfl) rfl rfl rfl ?_
   refine SeqK.r (b_load (r := .a _) rfl Fx.ty4 rfl rfl rfl rfl rfl rfl) rfl ?_
   refine SeqK.q (q_neqB rfl Fx.un4 rfl rfl) rfl rfl rfl ?_
   refine sA ?_
   refine SeqK.nil ?_
   refine AW.ret ?_
   exact fin_x (x := .c _) (H) (.tmp rfl .nil) rfl (fun _ _ h => h) (⟨bCe (by rw [ps1 (by assumption)]), rfl⟩)
  ·
   refine sR ?_
   refine SeqK.q (q_eql rfl rfl rfl) rfl rfl rfl ?_
   refine sA ?_
   refine SeqK.nil ?_
   refine AW.condD rfl (fun h20 => ?_) (fun h20 => ?_)
   ·
    refine AW.reg ?_
    refine sM ?_
    refine SeqK.q (q_fieldL _ rfl Fx.fl61_3 rfl rfl) rfl rfl rfl ?_
    refine SeqK.r (b_load (r := .a _) rfl Fx.ty9 rfl rfl rfl rfl rfl rfl) rfl ?_
    refine SeqK.q (q_call _ rfl Fx.fn69 rfl (texts_any _ _ hu ht) rfl) rfl rfl rfl ?_
    refine SeqK.q (q_lss rfl rfl rfl) rfl rfl rfl ?_
    refine sA ?_
    refine SeqK.nil ?_
    refine sR ?_
    refine sM ?_
    refine SeqK.q (q_fieldL _ rfl Fx.fl61_2 rfl rfl) rfl rfl rfl ?_
    refine SeqK.r (b_load (r := .a _) rfl Fx.ty4 rfl rfl rfl rfl rfl rfl) rfl ?_
    refine SeqK.q (q_neqB rfl Fx.un4 rfl rfl) rfl rfl rfl ?_
    refine sA ?_
    refine SeqK.nil ?_
    refine AW.ret ?_
    exact fin_x (x := .c _) (H) (.tmp rfl .nil) rfl (fun _ _ h => h) (⟨bCe (by rw [ps2 (by assumption), cmpS_lt]), rfl⟩)
   ·
    refine sR ?_
    refine SeqK.q (q_eql rfl rfl rfl) rfl rfl rfl ?_
    refine sA ?_
    refine SeqK.nil ?_
    refine AW.condD rfl (fun h27 => ?_) (fun h27 => ?_)
    ·
     refine AW.reg ?_
     refine sM ?_
     refine SeqK.q (q_fieldL _ rfl Fx.fl61_3 rfl rfl) rfl rfl rfl ?_
     refine SeqK.r (b_load (r := .a _) rfl Fx.ty9 rfl rfl rfl rfl rfl rfl) rfl ?_
     refine SeqK.q (q_call _ rfl Fx.fn69 rfl (texts_any _ _ hu ht) rfl) rfl rfl rfl ?_
     refine SeqK.q (q_leq rfl rfl rfl) rfl rfl rfl ?_
     refine sA ?_
     refine SeqK.nil ?_
     refine sR ?_
     refine sM ?_
     refine SeqK.q (q_fieldL _ rfl Fx.fl61_2 rfl rfl) rfl rfl rfl ?_
     refine SeqK.r (b_load (r := .a _) rfl Fx.ty4 rfl rfl rfl rfl rfl rfl) rfl ?_
     refine SeqK.q (q_neqB rfl Fx.un4 rfl rfl) rfl rfl rfl ?_
     refine sA ?_
     refine SeqK.nil ?_
     refine AW.ret ?_
     exact fin_x (x := .c _) (H) (.tmp rfl .nil) rfl (fun _ _ h => h) (⟨bCe (by rw [ps3 (by assumption) (by assumption) (by assumption), cmpS_le]), rfl⟩)
    ·
     exfalso; omega

end Go.Proofs.Ytnmfjojhgfipcaa.W
namespace Go.Proofs.Ytnmfjojhgfipcaa.W
open Go.RowKit E
set_option linter.unusedVariables false
set_option linter.unusedSimpArgs false
set_option linter.unusedSectionVars false

end Go.Proofs.Ytnmfjojhgfipcaa.W
namespace Go.Proofs.Ytnmfjojhgfipcaa.W
open Go.RowKit E
set_option linter.unusedVariables false
set_option linter.unusedSimpArgs false
set_option linter.unusedSectionVars false
end Go.Proofs.Ytnmfjojhgfipcaa.W
namespace Go.Proofs.Ytnmfjojhgfipcaa.W
open Go.RowKit E
set_option linter.unusedVariables false
set_option linter.unusedSimpArgs false
set_option linter.unusedSectionVars false
structure smF (f : Lf) (n m : Nat) : Prop where
  v : ∀ k ∈ f.cs, 0 ≤ k.v ∧ k.v < n + m
  n : ∀ k ∈ f.cs, -1048576 ≤ k.n ∧ k.n ≤ 1048576
  c : -1099511627777 ≤ f.c ∧ f.c ≤ 1099511627777
  l : f.cs.length ≤ 17592186044000
abbrev okX (n : Nat) (axs : List Ax) (j : Nat) (h : j < axs.length) : Prop := axs[j].b = 0 ∨ ((1 ≤ axs[j].b ∧ axs[j].b ≤ 1000) ∧ smF axs[j].f n j ∧ fsum n (bsF n (axs.take j)) axs[j].f ≤ 1152921504606846977)
end Go.Proofs.Ytnmfjojhgfipcaa.W
