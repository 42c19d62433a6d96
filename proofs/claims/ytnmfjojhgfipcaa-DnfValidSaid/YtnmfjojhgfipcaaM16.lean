/- Parts of the proof, one after the other: W11, W12, W13, W14, W15, W16, W17, W18, W19, W20, W21, W22, W23, W24, W25, W26, W27. No condition. -/
import Derived.Test.YtnmfjojhgfipcaaM15
namespace Go.Proofs.Ytnmfjojhgfipcaa.W
open Go.RowKit E
set_option linter.unusedVariables false
set_option linter.unusedSimpArgs false
set_option linter.unusedSectionVars false

set_option maxRecDepth 20000 in
theorem len64_0  : Pure Try.prog 107 [u64C 0] (.c (iC 0)) := by
  intro H
  refine Spec.enter Try.func107 rfl ?_
  refine AW.wk (Wk.keep 25 [(0, .c (u64C 0))] [] (H) rfl ⟨rfl, trivial⟩ trivial (fun _ _ h => h) rfl) ?_
  refine AW.seq ?_
  refine AW.reg ?_
  refine SeqK.q (q_asC rfl rfl) rfl rfl rfl ?_
  refine SeqK.nil ?_
  refine AW.seq ?_
  refine AW.seq ?_
  refine AW.reg ?_
  refine SeqK.q (q_mvC rfl rfl) rfl rfl rfl ?_
  refine SeqK.q (q_geq rfl rfl rfl) rfl rfl rfl ?_
  refine SeqK.nil ?_
  refine AW.condF rfl ?_
  refine AW.skip ?_
  refine AW.seq ?_
  refine AW.seq ?_
  refine AW.reg ?_
  refine SeqK.q (q_mvC rfl rfl) rfl rfl rfl ?_
  refine SeqK.q (q_geq rfl rfl rfl) rfl rfl rfl ?_
  refine SeqK.nil ?_
  refine AW.condF rfl ?_
  refine AW.skip ?_
  refine AW.seq ?_
  refine AW.seq ?_
  refine AW.reg ?_
  refine SeqK.q (q_mvC rfl rfl) rfl rfl rfl ?_
  refine SeqK.q (q_geq rfl rfl rfl) rfl rfl rfl ?_
  refine SeqK.nil ?_
  refine AW.condF rfl ?_
  refine AW.skip ?_
  refine AW.seq ?_
  refine AW.reg ?_
  refine SeqK.q (q_mvC rfl rfl) rfl rfl rfl ?_
  refine SeqK.q (q_mvC rfl rfl) rfl rfl rfl ?_
  refine SeqK.q (q_conv _ rfl Fx.un5 rfl ((rfl : IntKind.u8.wrap 0 = 0)) ⟨_, Fx.un107⟩) rfl rfl rfl ?_
  rw [show IntKind.u8.wrap 0 = 0 from rfl]
  refine SeqK.q (q_indexS _ rfl Fx.un9 rfl rfl (by omega) (rfl)) rfl rfl rfl ?_
  refine SeqK.q (q_conv _ rfl Fx.un3 rfl ((rfl : IntKind.i64.wrap 0 = 0)) ⟨_, Fx.un5⟩) rfl rfl rfl ?_
  refine SeqK.q (q_add _ rfl rfl rfl ((rfl : IntKind.i64.wrap (0 + 0) = 0))) rfl rfl rfl ?_
  refine SeqK.q (q_asC rfl rfl) rfl rfl rfl ?_
  refine SeqK.nil ?_
  refine AW.ret ?_
  exact fin_x (x := .c _) H (.tmp rfl .nil) rfl (fun _ _ h => h) ⟨rfl, rfl⟩

set_option maxRecDepth 20000 in
theorem len_0  : Pure Try.prog 91 [u64C 0] (.c (iC 0)) := by
  intro H
  refine Spec.enter Try.func91 rfl ?_
  refine AW.wk (Wk.keep 8 [(0, .c (u64C 0))] [] (H) rfl ⟨rfl, trivial⟩ trivial (fun _ _ h => h) rfl) ?_
  refine AW.seq ?_
  refine AW.reg ?_
  refine SeqK.q (q_asC rfl rfl) rfl rfl rfl ?_
  refine SeqK.nil ?_
  refine AW.seq ?_
  refine AW.condF rfl ?_
  refine AW.skip ?_
  refine AW.seq ?_
  refine AW.reg ?_
  refine SeqK.q (q_mvC rfl rfl) rfl rfl rfl ?_
  refine SeqK.q (q_call _ rfl Fx.fn107 rfl (len64_0) rfl) rfl rfl rfl ?_
  refine SeqK.q (q_asC rfl rfl) rfl rfl rfl ?_
  refine SeqK.nil ?_
  refine AW.ret ?_
  exact fin_x (x := .c _) H (.tmp rfl .nil) rfl (fun _ _ h => h) ⟨rfl, rfl⟩

set_option maxRecDepth 20000 in
theorem len64_1  : Pure Try.prog 107 [u64C 1] (.c (iC 1)) := by
  intro H
  refine Spec.enter Try.func107 rfl ?_
  refine AW.wk (Wk.keep 25 [(0, .c (u64C 1))] [] (H) rfl ⟨rfl, trivial⟩ trivial (fun _ _ h => h) rfl) ?_
  refine AW.seq ?_
  refine AW.reg ?_
  refine SeqK.q (q_asC rfl rfl) rfl rfl rfl ?_
  refine SeqK.nil ?_
  refine AW.seq ?_
  refine AW.seq ?_
  refine AW.reg ?_
  refine SeqK.q (q_mvC rfl rfl) rfl rfl rfl ?_
  refine SeqK.q (q_geq rfl rfl rfl) rfl rfl rfl ?_
  refine SeqK.nil ?_
  refine AW.condF rfl ?_
  refine AW.skip ?_
  refine AW.seq ?_
  refine AW.seq ?_
  refine AW.reg ?_
  refine SeqK.q (q_mvC rfl rfl) rfl rfl rfl ?_
  refine SeqK.q (q_geq rfl rfl rfl) rfl rfl rfl ?_
  refine SeqK.nil ?_
  refine AW.condF rfl ?_
  refine AW.skip ?_
  refine AW.seq ?_
  refine AW.seq ?_
  refine AW.reg ?_
  refine SeqK.q (q_mvC rfl rfl) rfl rfl rfl ?_
  refine SeqK.q (q_geq rfl rfl rfl) rfl rfl rfl ?_
  refine SeqK.nil ?_
  refine AW.condF rfl ?_
  refine AW.skip ?_
  refine AW.seq ?_
  refine AW.reg ?_
  refine SeqK.q (q_mvC rfl rfl) rfl rfl rfl ?_
  refine SeqK.q (q_mvC rfl rfl) rfl rfl rfl ?_
  refine SeqK.q (q_conv _ rfl Fx.un5 rfl ((rfl : IntKind.u8.wrap 1 = 1)) ⟨_, Fx.un107⟩) rfl rfl rfl ?_
  rw [show IntKind.u8.wrap 1 = 1 from rfl]
  refine SeqK.q (q_indexS _ rfl Fx.un9 rfl rfl (by omega) (rfl)) rfl rfl rfl ?_
  refine SeqK.q (q_conv _ rfl Fx.un3 rfl ((rfl : IntKind.i64.wrap 1 = 1)) ⟨_, Fx.un5⟩) rfl rfl rfl ?_
  refine SeqK.q (q_add _ rfl rfl rfl ((rfl : IntKind.i64.wrap (0 + 1) = 1))) rfl rfl rfl ?_
  refine SeqK.q (q_asC rfl rfl) rfl rfl rfl ?_
  refine SeqK.nil ?_
  refine AW.ret ?_
  exact fin_x (x := .c _) H (.tmp rfl .nil) rfl (fun _ _ h => h) ⟨rfl, rfl⟩

set_option maxRecDepth 20000 in
theorem len_1  : Pure Try.prog 91 [u64C 1] (.c (iC 1)) := by
  intro H
  refine Spec.enter Try.func91 rfl ?_
  refine AW.wk (Wk.keep 8 [(0, .c (u64C 1))] [] (H) rfl ⟨rfl, trivial⟩ trivial (fun _ _ h => h) rfl) ?_
  refine AW.seq ?_
  refine AW.reg ?_
  refine SeqK.q (q_asC rfl rfl) rfl rfl rfl ?_
  refine SeqK.nil ?_
  refine AW.seq ?_
  refine AW.condF rfl ?_
  refine AW.skip ?_
  refine AW.seq ?_
  refine AW.reg ?_
  refine SeqK.q (q_mvC rfl rfl) rfl rfl rfl ?_
  refine SeqK.q (q_call _ rfl Fx.fn107 rfl (len64_1) rfl) rfl rfl rfl ?_
  refine SeqK.q (q_asC rfl rfl) rfl rfl rfl ?_
  refine SeqK.nil ?_
  refine AW.ret ?_
  exact fin_x (x := .c _) H (.tmp rfl .nil) rfl (fun _ _ h => h) ⟨rfl, rfl⟩

set_option maxRecDepth 20000 in
theorem ins_0 (z : Nz) : Pure Try.prog 97 [.a (.t (.sl z 1 [])), iC 0, iC 0] (.tup []) := by
  intro H
  refine Spec.enter Try.func97 rfl ?_
  refine AW.wk (Wk.keep 49 [(0, .c (.a (.t (.sl z 1 [])))), (1, .c (iC 0)), (2, .c (iC 0))] [] (H) rfl ⟨rfl, rfl, rfl, trivial⟩ trivial (fun _ _ h => h) rfl) ?_
  refine AW.seq ?_
  refine AW.reg ?_
  refine SeqK.q (q_mvC rfl rfl) rfl rfl rfl ?_
  refine SeqK.q (q_add _ rfl rfl rfl (w64 (by omega) (by omega))) rfl rfl rfl ?_
  refine SeqK.q (q_asC rfl rfl) rfl rfl rfl ?_
  refine SeqK.nil ?_
  refine AW.block ?_
  refine AW.unroll ?_
  refine AW.seq ?_
  refine AW.seq ?_
  refine AW.reg ?_
  refine SeqK.q (q_mvC rfl rfl) rfl rfl rfl ?_
  refine SeqK.q (q_mvC rfl rfl) rfl rfl rfl ?_
  refine SeqK.q (q_lss rfl rfl rfl) rfl rfl rfl ?_
  refine SeqK.nil ?_
  refine AW.condF rfl ?_
  refine AW.exit ?_
  refine eth_e ?_
  refine eth_e ?_
  refine exit_here ?_
  exact fin_xN (x := .tup []) H .nil rfl (fun _ _ h => h) ⟨rfl, rfl⟩

set_option maxRecDepth 20000 in
theorem pdq_0 (z : Nz) : Pure Try.prog 90 [.a (.t (.sl z 1 [])), iC 0, iC 0, iC 0] (.tup []) := by
  intro H
  refine Spec.enter Try.func90 rfl ?_
  refine AW.wk (Wk.keep 134 [(0, .c (.a (.t (.sl z 1 [])))), (1, .c (iC 0)), (2, .c (iC 0)), (3, .c (iC 0))] [] (H) rfl ⟨rfl, rfl, rfl, rfl, trivial⟩ trivial (fun _ _ h => h) rfl) ?_
  refine AW.seq ?_
  refine AW.reg ?_
  refine SeqK.q (q_asC rfl rfl) rfl rfl rfl ?_
  refine SeqK.nil ?_
  refine AW.seq ?_
  refine AW.reg ?_
  refine SeqK.q (q_asC rfl rfl) rfl rfl rfl ?_
  refine SeqK.nil ?_
  refine AW.block ?_
  refine AW.unroll ?_
  refine AW.block ?_
  refine AW.seq ?_
  refine AW.reg ?_
  refine SeqK.q (q_mvC rfl rfl) rfl rfl rfl ?_
  refine SeqK.q (q_mvC rfl rfl) rfl rfl rfl ?_
  refine SeqK.q (q_sub _ rfl rfl rfl (w64 (by omega) (by omega))) rfl rfl rfl ?_
  refine SeqK.q (q_asC rfl rfl) rfl rfl rfl ?_
  refine SeqK.nil ?_
  refine AW.seq ?_
  refine AW.seq ?_
  refine AW.reg ?_
  refine SeqK.q (q_mvC rfl rfl) rfl rfl rfl ?_
  refine SeqK.q (q_leq rfl rfl rfl) rfl rfl rfl ?_
  refine SeqK.nil ?_
  refine AW.condT rfl ?_
  refine AW.seq ?_
  refine AW.reg ?_
  refine SeqK.q (q_mvC rfl rfl) rfl rfl rfl ?_
  refine SeqK.q (q_mvC rfl rfl) rfl rfl rfl ?_
  refine SeqK.q (q_mvC rfl rfl) rfl rfl rfl ?_
  refine SeqK.q (q_call _ rfl Fx.fn97 rfl (ins_0 z) rfl) rfl rfl rfl ?_
  refine SeqK.nil ?_
  refine AW.ret ?_
  exact fin_x (x := .tup []) H .nil rfl (fun _ _ h => h) ⟨rfl, rfl⟩

set_option maxRecDepth 20000 in
theorem sort_0 (z : Nz) : Pure Try.prog 74 [.a (.t (.sl z 1 []))] (.tup []) := by
  intro H
  refine Spec.enter Try.func74 rfl ?_
  refine AW.wk (Wk.keep 11 [(0, .c (.a (.t (.sl z 1 []))))] [] (H) rfl ⟨rfl, trivial⟩ trivial (fun _ _ h => h) rfl) ?_
  refine AW.seq ?_
  refine AW.reg ?_
  refine SeqK.q (q_mvC rfl rfl) rfl rfl rfl ?_
  refine SeqK.q (q_len rfl Fx.un22 rfl) rfl rfl rfl ?_
  refine SeqK.q (q_asC rfl rfl) rfl rfl rfl ?_
  refine SeqK.nil ?_
  refine AW.reg ?_
  refine SeqK.q (q_mvC rfl rfl) rfl rfl rfl ?_
  refine SeqK.q (q_mvC rfl rfl) rfl rfl rfl ?_
  refine SeqK.q (q_mvC rfl rfl) rfl rfl rfl ?_
  refine SeqK.q (q_conv _ rfl Fx.un154 rfl ((rfl : IntKind.u64.wrap 0 = 0)) ⟨_, Fx.un3⟩) rfl rfl rfl ?_
  refine SeqK.q (q_call _ rfl Fx.fn91 rfl (len_0) rfl) rfl rfl rfl ?_
  refine SeqK.q (q_call _ rfl Fx.fn90 rfl (pdq_0 z) rfl) rfl rfl rfl ?_
  refine SeqK.nil ?_
  exact fin_xN (x := .tup []) H .nil rfl (fun _ _ h => h) ⟨rfl, rfl⟩

set_option maxRecDepth 20000 in
theorem compact_0 (z : Nz) : Pure Try.prog 75 [.a (.t (.sl z 1 []))] (.c (.a (.t (.sl z 1 [])))) := by
  intro H
  refine Spec.enter Try.func75 rfl ?_
  refine AW.wk (Wk.keep 61 [(0, .c (.a (.t (.sl z 1 []))))] [] (H) rfl ⟨rfl, trivial⟩ trivial (fun _ _ h => h) rfl) ?_
  refine AW.seq ?_
  refine AW.reg ?_
  refine SeqK.q (q_asC rfl rfl) rfl rfl rfl ?_
  refine SeqK.nil ?_
  refine AW.seq ?_
  refine AW.seq ?_
  refine AW.reg ?_
  refine SeqK.q (q_mvC rfl rfl) rfl rfl rfl ?_
  refine SeqK.q (q_len rfl Fx.un22 rfl) rfl rfl rfl ?_
  refine SeqK.q (q_lss rfl rfl rfl) rfl rfl rfl ?_
  refine SeqK.nil ?_
  refine AW.condT rfl ?_
  refine AW.seq ?_
  refine AW.reg ?_
  refine SeqK.q (q_mvC rfl rfl) rfl rfl rfl ?_
  refine SeqK.q (q_asC rfl rfl) rfl rfl rfl ?_
  refine SeqK.nil ?_
  refine AW.ret ?_
  exact fin_x (x := .c _) H (.tmp rfl .nil) rfl (fun _ _ h => h) ⟨rfl, rfl⟩

set_option maxRecDepth 20000 in
theorem sorted_0 (z : Nz) : Pure Try.prog 42 [.a (.t (.sl z 1 []))] (.c (.a (.t (.sl z 1 [])))) := by
  intro H
  refine Spec.enter Try.func42 rfl ?_
  refine AW.wk (Wk.keep 7 [(0, .c (.a (.t (.sl z 1 []))))] [] (H) rfl ⟨rfl, trivial⟩ trivial (fun _ _ h => h) rfl) ?_
  refine AW.seq ?_
  refine AW.reg ?_
  refine SeqK.q (q_asC rfl rfl) rfl rfl rfl ?_
  refine SeqK.nil ?_
  refine AW.seq ?_
  refine AW.reg ?_
  refine SeqK.q (q_mvC rfl rfl) rfl rfl rfl ?_
  refine SeqK.q (q_call _ rfl Fx.fn74 rfl (sort_0 z) rfl) rfl rfl rfl ?_
  refine SeqK.nil ?_
  refine AW.seq ?_
  refine AW.reg ?_
  refine SeqK.q (q_mvC rfl rfl) rfl rfl rfl ?_
  refine SeqK.q (q_call _ rfl Fx.fn75 rfl (compact_0 z) rfl) rfl rfl rfl ?_
  refine SeqK.q (q_asC rfl rfl) rfl rfl rfl ?_
  refine SeqK.nil ?_
  refine AW.ret ?_
  exact fin_x (x := .c _) H (.tmp rfl .nil) rfl (fun _ _ h => h) ⟨rfl, rfl⟩

set_option maxRecDepth 20000 in
theorem ins_1 (z : Nz) (e : List E.T) : Pure Try.prog 97 [.a (.t (.sl z 1 [e])), iC 0, iC 1] (.tup []) := by
  intro H
  refine Spec.enter Try.func97 rfl ?_
  refine AW.wk (Wk.keep 49 [(0, .c (.a (.t (.sl z 1 [e])))), (1, .c (iC 0)), (2, .c (iC 1))] [] (H) rfl ⟨rfl, rfl, rfl, trivial⟩ trivial (fun _ _ h => h) rfl) ?_
  refine AW.seq ?_
  refine AW.reg ?_
  refine SeqK.q (q_mvC rfl rfl) rfl rfl rfl ?_
  refine SeqK.q (q_add _ rfl rfl rfl (w64 (by omega) (by omega))) rfl rfl rfl ?_
  refine SeqK.q (q_asC rfl rfl) rfl rfl rfl ?_
  refine SeqK.nil ?_
  refine AW.block ?_
  refine AW.unroll ?_
  refine AW.seq ?_
  refine AW.seq ?_
  refine AW.reg ?_
  refine SeqK.q (q_mvC rfl rfl) rfl rfl rfl ?_
  refine SeqK.q (q_mvC rfl rfl) rfl rfl rfl ?_
  refine SeqK.q (q_lss rfl rfl rfl) rfl rfl rfl ?_
  refine SeqK.nil ?_
  refine AW.condF rfl ?_
  refine AW.exit ?_
  refine eth_e ?_
  refine eth_e ?_
  refine exit_here ?_
  exact fin_xN (x := .tup []) H .nil rfl (fun _ _ h => h) ⟨rfl, rfl⟩

set_option maxRecDepth 20000 in
theorem pdq_1 (z : Nz) (e : List E.T) : Pure Try.prog 90 [.a (.t (.sl z 1 [e])), iC 0, iC 1, iC 1] (.tup []) := by
  intro H
  refine Spec.enter Try.func90 rfl ?_
  refine AW.wk (Wk.keep 134 [(0, .c (.a (.t (.sl z 1 [e])))), (1, .c (iC 0)), (2, .c (iC 1)), (3, .c (iC 1))] [] (H) rfl ⟨rfl, rfl, rfl, rfl, trivial⟩ trivial (fun _ _ h => h) rfl) ?_
  refine AW.seq ?_
  refine AW.reg ?_
  refine SeqK.q (q_asC rfl rfl) rfl rfl rfl ?_
  refine SeqK.nil ?_
  refine AW.seq ?_
  refine AW.reg ?_
  refine SeqK.q (q_asC rfl rfl) rfl rfl rfl ?_
  refine SeqK.nil ?_
  refine AW.block ?_
  refine AW.unroll ?_
  refine AW.block ?_
  refine AW.seq ?_
  refine AW.reg ?_
  refine SeqK.q (q_mvC rfl rfl) rfl rfl rfl ?_
  refine SeqK.q (q_mvC rfl rfl) rfl rfl rfl ?_
  refine SeqK.q (q_sub _ rfl rfl rfl (w64 (by omega) (by omega))) rfl rfl rfl ?_
  refine SeqK.q (q_asC rfl rfl) rfl rfl rfl ?_
  refine SeqK.nil ?_
  refine AW.seq ?_
  refine AW.seq ?_
  refine AW.reg ?_
  refine SeqK.q (q_mvC rfl rfl) rfl rfl rfl ?_
  refine SeqK.q (q_leq rfl rfl rfl) rfl rfl rfl ?_
  refine SeqK.nil ?_
  refine AW.condT rfl ?_
  refine AW.seq ?_
  refine AW.reg ?_
  refine SeqK.q (q_mvC rfl rfl) rfl rfl rfl ?_
  refine SeqK.q (q_mvC rfl rfl) rfl rfl rfl ?_
  refine SeqK.q (q_mvC rfl rfl) rfl rfl rfl ?_
  refine SeqK.q (q_call _ rfl Fx.fn97 rfl (ins_1 z e) rfl) rfl rfl rfl ?_
  refine SeqK.nil ?_
  refine AW.ret ?_
  exact fin_x (x := .tup []) H .nil rfl (fun _ _ h => h) ⟨rfl, rfl⟩

set_option maxRecDepth 20000 in
theorem sort_1 (z : Nz) (e : List E.T) : Pure Try.prog 74 [.a (.t (.sl z 1 [e]))] (.tup []) := by
  intro H
  refine Spec.enter Try.func74 rfl ?_
  refine AW.wk (Wk.keep 11 [(0, .c (.a (.t (.sl z 1 [e]))))] [] (H) rfl ⟨rfl, trivial⟩ trivial (fun _ _ h => h) rfl) ?_
  refine AW.seq ?_
  refine AW.reg ?_
  refine SeqK.q (q_mvC rfl rfl) rfl rfl rfl ?_
  refine SeqK.q (q_len rfl Fx.un22 rfl) rfl rfl rfl ?_
  refine SeqK.q (q_asC rfl rfl) rfl rfl rfl ?_
  refine SeqK.nil ?_
  refine AW.reg ?_
  refine SeqK.q (q_mvC rfl rfl) rfl rfl rfl ?_
  refine SeqK.q (q_mvC rfl rfl) rfl rfl rfl ?_
  refine SeqK.q (q_mvC rfl rfl) rfl rfl rfl ?_
  refine SeqK.q (q_conv _ rfl Fx.un154 rfl ((rfl : IntKind.u64.wrap 1 = 1)) ⟨_, Fx.un3⟩) rfl rfl rfl ?_
  refine SeqK.q (q_call _ rfl Fx.fn91 rfl (len_1) rfl) rfl rfl rfl ?_
  refine SeqK.q (q_call _ rfl Fx.fn90 rfl (pdq_1 z e) rfl) rfl rfl rfl ?_
  refine SeqK.nil ?_
  exact fin_xN (x := .tup []) H .nil rfl (fun _ _ h => h) ⟨rfl, rfl⟩

set_option maxRecDepth 20000 in
theorem compact_1 (z : Nz) (e : List E.T) : Pure Try.prog 75 [.a (.t (.sl z 1 [e]))] (.c (.a (.t (.sl z 1 [e])))) := by
  intro H
  refine Spec.enter Try.func75 rfl ?_
  refine AW.wk (Wk.keep 61 [(0, .c (.a (.t (.sl z 1 [e]))))] [] (H) rfl ⟨rfl, trivial⟩ trivial (fun _ _ h => h) rfl) ?_
  refine AW.seq ?_
  refine AW.reg ?_
  refine SeqK.q (q_asC rfl rfl) rfl rfl rfl ?_
  refine SeqK.nil ?_
  refine AW.seq ?_
  refine AW.seq ?_
  refine AW.reg ?_
  refine SeqK.q (q_mvC rfl rfl) rfl rfl rfl ?_
  refine SeqK.q (q_len rfl Fx.un22 rfl) rfl rfl rfl ?_
  refine SeqK.q (q_lss rfl rfl rfl) rfl rfl rfl ?_
  refine SeqK.nil ?_
  refine AW.condT rfl ?_
  refine AW.seq ?_
  refine AW.reg ?_
  refine SeqK.q (q_mvC rfl rfl) rfl rfl rfl ?_
  refine SeqK.q (q_asC rfl rfl) rfl rfl rfl ?_
  refine SeqK.nil ?_
  refine AW.ret ?_
  exact fin_x (x := .c _) H (.tmp rfl .nil) rfl (fun _ _ h => h) ⟨rfl, rfl⟩

set_option maxRecDepth 20000 in
theorem sorted_1 (z : Nz) (e : List E.T) : Pure Try.prog 42 [.a (.t (.sl z 1 [e]))] (.c (.a (.t (.sl z 1 [e])))) := by
  intro H
  refine Spec.enter Try.func42 rfl ?_
  refine AW.wk (Wk.keep 7 [(0, .c (.a (.t (.sl z 1 [e]))))] [] (H) rfl ⟨rfl, trivial⟩ trivial (fun _ _ h => h) rfl) ?_
  refine AW.seq ?_
  refine AW.reg ?_
  refine SeqK.q (q_asC rfl rfl) rfl rfl rfl ?_
  refine SeqK.nil ?_
  refine AW.seq ?_
  refine AW.reg ?_
  refine SeqK.q (q_mvC rfl rfl) rfl rfl rfl ?_
  refine SeqK.q (q_call _ rfl Fx.fn74 rfl (sort_1 z e) rfl) rfl rfl rfl ?_
  refine SeqK.nil ?_
  refine AW.seq ?_
  refine AW.reg ?_
  refine SeqK.q (q_mvC rfl rfl) rfl rfl rfl ?_
  refine SeqK.q (q_call _ rfl Fx.fn75 rfl (compact_1 z e) rfl) rfl rfl rfl ?_
  refine SeqK.q (q_asC rfl rfl) rfl rfl rfl ?_
  refine SeqK.nil ?_
  refine AW.ret ?_
  exact fin_x (x := .c _) H (.tmp rfl .nil) rfl (fun _ _ h => h) ⟨rfl, rfl⟩

end Go.Proofs.Ytnmfjojhgfipcaa.W
namespace Go.Proofs.Ytnmfjojhgfipcaa.W
open Go.RowKit E
set_option linter.unusedVariables false
set_option linter.unusedSimpArgs false
set_option linter.unusedSectionVars false
/-! the formula of the check that all laws begin with -/
abbrev pt1 : List E.T := [.v (.int .i64 1), .v (.int .i64 0), .v (.int .i64 0), .v (.int .i64 0), .v (.slice none 0 0)]
abbrev fr1 : E.T := .sl .nn 5 [pt1]
abbrev frA : List A := [.t (.v (.int .i64 (-3))), .t fr1]
abbrev atA : List A := [.t (.v (.int .i64 4)), .t (.v (.int .i64 0)), .t (.v (.int .i64 0)), .t (.v (.int .i64 (-3))), .t fr1, .t (.v (.int .i64 0)), .t (.v (.int .i64 0)), .t (.v (.bool false)), .t (.v (.string ⟨#[]⟩))]
abbrev fmA : List A := .t (.v (.int .i64 2)) :: (atA ++ [.t (.v (.slice none 0 0))])
abbrev ltT (b : Bool) : List E.T := [.v (.int .i64 4), .v (.int .i64 0), .v (.int .i64 0), .v (.int .i64 (-3)), fr1, .v (.int .i64 0), .v (.int .i64 0), .v (.bool false), .v (.string ⟨#[]⟩), .v (.bool b)]
abbrev vs1 : List Vr := [⟨1, 0, 9, 0, false⟩]

set_option maxHeartbeats 4000000 in
set_option maxRecDepth 20000 in
theorem simplify_c  : Pure Try.prog 61 [.g fmA, vsC .nn vs1] (.c (.g fmA)) := by
  intro H
  refine Spec.enter Try.func61 rfl ?_
  refine AW.wk (Wk.keep 57 [(0, .c (.g fmA)), (1, .c (vsC .nn vs1))] [] (H) rfl ⟨rfl, rfl, trivial⟩ trivial (fun _ _ h => h) rfl) ?_
  refine AW.seq ?_
  refine AW.reg ?_
  refine SeqK.r (b_box (r := [_, _, _, _, _, _, _, _, _, _, _]) rfl rfl rfl rfl rfl rfl) rfl ?_
  refine SeqK.r (b_alloc (r := [_, _, _, _, _, _, _, _, _, _, _]) rfl rfl Fx.ze66 rfl rfl rfl rfl) rfl ?_
  refine SeqK.nil ?_
  refine AW.seq ?_
  refine AW.seq ?_
  refine AW.reg ?_
  refine SeqK.q (q_fieldL _ rfl Fx.fl66_0 rfl rfl) rfl rfl rfl ?_
  refine SeqK.r (b_load (r := .a _) rfl Fx.ty3 rfl rfl rfl rfl rfl rfl) rfl ?_
  refine SeqK.q (q_eql rfl rfl rfl) rfl rfl rfl ?_
  refine SeqK.nil ?_
  refine AW.condT rfl ?_
  refine AW.seq ?_
  refine AW.reg ?_
  refine SeqK.q (q_fieldL _ rfl Fx.fl66_1 rfl rfl) rfl rfl rfl ?_
  refine SeqK.r (b_load (r := .g [_, _, _, _, _, _, _, _, _]) rfl Fx.ty63 rfl rfl rfl rfl rfl rfl) rfl ?_
  refine SeqK.r (b_alloc (r := [_, _, _, _, _, _, _, _, _]) rfl rfl Fx.ze63 rfl rfl rfl rfl) rfl ?_
  refine SeqK.r (b_store (r := [_, _, _, _, _, _, _, _, _]) rfl rfl Fx.ty63 rfl rfl rfl rfl rfl rfl) rfl ?_
  refine SeqK.nil ?_
  refine AW.seq ?_
  refine AW.seq ?_
  refine AW.reg ?_
  refine SeqK.q (q_fieldL _ rfl Fx.fl63_0 rfl rfl) rfl rfl rfl ?_
  refine SeqK.r (b_load (r := .a _) rfl Fx.ty3 rfl rfl rfl rfl rfl rfl) rfl ?_
  refine SeqK.q (q_eql rfl rfl rfl) rfl rfl rfl ?_
  refine SeqK.q (q_mvC rfl rfl) rfl rfl rfl ?_
  refine SeqK.on (q_fieldL _ rfl Fx.fl63_0 rfl rfl) rfl rfl rfl rfl rfl ?_
  refine SeqK.rOn (b_load (r := .a _) rfl Fx.ty3 rfl rfl rfl rfl rfl rfl) rfl rfl rfl ?_
  refine SeqK.on (q_eql rfl rfl rfl) rfl rfl rfl rfl rfl ?_
  refine SeqK.q (q_pkF rfl rfl rfl) rfl rfl rfl ?_
  refine SeqK.q (q_mvC rfl rfl) rfl rfl rfl ?_
  refine SeqK.off rfl rfl rfl rfl rfl rfl ?_
  refine SeqK.off rfl rfl rfl rfl rfl rfl ?_
  refine SeqK.off rfl rfl rfl rfl rfl rfl ?_
  refine SeqK.off rfl rfl rfl rfl rfl rfl ?_
  refine SeqK.off rfl rfl rfl rfl rfl rfl ?_
  refine SeqK.off rfl rfl rfl rfl rfl rfl ?_
  refine SeqK.off rfl rfl rfl rfl rfl rfl ?_
  refine SeqK.q (q_pkF rfl rfl rfl) rfl rfl rfl ?_
  refine SeqK.nil ?_
  refine AW.condF rfl ?_
  refine AW.skip ?_
  refine AW.seq ?_
  refine AW.reg ?_
  refine SeqK.r (b_load (r := .g [_, _, _, _, _, _, _, _, _, _, _]) rfl Fx.ty66 rfl rfl rfl rfl rfl rfl) rfl ?_
  refine SeqK.r (b_store (r := [_, _, _, _, _, _, _, _, _, _, _]) rfl rfl Fx.ty66 rfl rfl rfl rfl rfl rfl) rfl ?_
  refine SeqK.nil ?_
  refine AW.ret ?_
  exact fin_x (x := .c _) H (.cellL rfl rfl Fx.ty66 rfl rfl .nil) rfl (fun _ _ h => h) ⟨rfl, rfl⟩

set_option maxRecDepth 20000 in
theorem count_c  : Pure Try.prog 62 [.g fmA] (.c (iC 2)) := by
  intro H
  refine Spec.enter Try.func62 rfl ?_
  refine AW.wk (Wk.keep 41 [(0, .c (.g fmA))] [] (H) rfl ⟨rfl, trivial⟩ trivial (fun _ _ h => h) rfl) ?_
  refine AW.seq ?_
  refine AW.reg ?_
  refine SeqK.r (b_box (r := [_, _, _, _, _, _, _, _, _, _, _]) rfl rfl rfl rfl rfl rfl) rfl ?_
  refine SeqK.q (q_asC rfl rfl) rfl rfl rfl ?_
  refine SeqK.nil ?_
  refine AW.seq ?_
  refine AW.seq ?_
  refine AW.reg ?_
  refine SeqK.q (q_fieldL _ rfl Fx.fl66_0 rfl rfl) rfl rfl rfl ?_
  refine SeqK.r (b_load (r := .a _) rfl Fx.ty3 rfl rfl rfl rfl rfl rfl) rfl ?_
  refine SeqK.q (q_eql rfl rfl rfl) rfl rfl rfl ?_
  refine SeqK.nil ?_
  refine AW.condT rfl ?_
  refine AW.seq ?_
  refine AW.seq ?_
  refine AW.reg ?_
  refine SeqK.q (q_fieldL _ rfl Fx.fl66_1 rfl rfl) rfl rfl rfl ?_
  refine SeqK.q (q_fieldL _ rfl Fx.fl63_0 rfl rfl) rfl rfl rfl ?_
  refine SeqK.r (b_load (r := .a _) rfl Fx.ty3 rfl rfl rfl rfl rfl rfl) rfl ?_
  refine SeqK.q (q_eql rfl rfl rfl) rfl rfl rfl ?_
  refine SeqK.nil ?_
  refine AW.condT rfl ?_
  refine AW.seq ?_
  refine AW.reg ?_
  refine SeqK.q (q_asC rfl rfl) rfl rfl rfl ?_
  refine SeqK.nil ?_
  refine AW.ret ?_
  exact fin_x (x := .c _) H (.tmp rfl .nil) rfl (fun _ _ h => h) ⟨rfl, rfl⟩

set_option maxHeartbeats 4000000 in
set_option maxRecDepth 20000 in
theorem expand_c  : Pure Try.prog 63 [.g fmA] (.c (.a (.t (.sl .nn 1 [[.sl .nn 10 [ltT false]], [.sl .nn 10 [ltT true]]])))) := by
  intro H
  refine Spec.enter Try.func63 rfl ?_
  refine AW.wk (Wk.keep 89 [(0, .c (.g fmA))] [] (H) rfl ⟨rfl, trivial⟩ trivial (fun _ _ h => h) rfl) ?_
  refine AW.seq ?_
  refine AW.reg ?_
  refine SeqK.r (b_box (r := [_, _, _, _, _, _, _, _, _, _, _]) rfl rfl rfl rfl rfl rfl) rfl ?_
  refine SeqK.q (q_asC rfl rfl) rfl rfl rfl ?_
  refine SeqK.nil ?_
  refine AW.seq ?_
  refine AW.seq ?_
  refine AW.reg ?_
  refine SeqK.r (b_load (r := .g [_, _, _, _, _, _, _, _, _, _, _]) rfl Fx.ty66 rfl rfl rfl rfl rfl rfl) rfl ?_
  refine SeqK.q (q_call _ rfl Fx.fn62 rfl (count_c) rfl) rfl rfl rfl ?_
  refine SeqK.q (q_eql rfl rfl rfl) rfl rfl rfl ?_
  refine SeqK.nil ?_
  refine AW.condF rfl ?_
  refine AW.skip ?_
  refine AW.seq ?_
  refine AW.seq ?_
  refine AW.reg ?_
  refine SeqK.q (q_fieldL _ rfl Fx.fl66_0 rfl rfl) rfl rfl rfl ?_
  refine SeqK.r (b_load (r := .a _) rfl Fx.ty3 rfl rfl rfl rfl rfl rfl) rfl ?_
  refine SeqK.nil ?_
  refine AW.block ?_
  refine AW.seq ?_
  refine AW.reg ?_
  refine SeqK.q (q_eql rfl rfl rfl) rfl rfl rfl ?_
  refine SeqK.q (q_asC rfl rfl) rfl rfl rfl ?_
  refine SeqK.nil ?_
  refine AW.condT rfl ?_
  refine AW.seq ?_
  refine AW.seq ?_
  refine AW.reg ?_
  refine SeqK.q (q_fieldL _ rfl Fx.fl66_1 rfl rfl) rfl rfl rfl ?_
  refine SeqK.q (q_fieldL _ rfl Fx.fl63_0 rfl rfl) rfl rfl rfl ?_
  refine SeqK.r (b_load (r := .a _) rfl Fx.ty3 rfl rfl rfl rfl rfl rfl) rfl ?_
  refine SeqK.q (q_eql rfl rfl rfl) rfl rfl rfl ?_
  refine SeqK.nil ?_
  refine AW.condT rfl ?_
  refine AW.seq ?_
  refine AW.reg ?_
  refine SeqK.q (q_fieldL _ rfl Fx.fl66_1 rfl rfl) rfl rfl rfl ?_
  refine SeqK.r (b_load (r := .g [_, _, _, _, _, _, _, _, _]) rfl Fx.ty63 rfl rfl rfl rfl rfl rfl) rfl ?_
  refine SeqK.q (q_build2 (zs := [_, _, _, _, _, _, _, _, _, _]) (r := [_, _, _, _, _, _, _, _, _, _]) [(0, 9), (9, 1)] _ rfl Fx.ze143 rfl Fx.bp143 rfl rfl rfl rfl) rfl rfl rfl ?_
  refine SeqK.q (q_buildSlice _ rfl Fx.el116 rfl (by decide) rfl) rfl rfl rfl ?_
  refine SeqK.q (q_fieldL _ rfl Fx.fl66_1 rfl rfl) rfl rfl rfl ?_
  refine SeqK.r (b_load (r := .g [_, _, _, _, _, _, _, _, _]) rfl Fx.ty63 rfl rfl rfl rfl rfl rfl) rfl ?_
  refine SeqK.q (q_build2 (zs := [_, _, _, _, _, _, _, _, _, _]) (r := [_, _, _, _, _, _, _, _, _, _]) [(0, 9), (9, 1)] _ rfl Fx.ze143 rfl Fx.bp143 rfl rfl rfl rfl) rfl rfl rfl ?_
  refine SeqK.q (q_buildSlice _ rfl Fx.el116 rfl (by decide) rfl) rfl rfl rfl ?_
  refine SeqK.q (q_buildSlice _ rfl Fx.el114 rfl (by decide) rfl) rfl rfl rfl ?_
  refine SeqK.q (q_asC rfl rfl) rfl rfl rfl ?_
  refine SeqK.nil ?_
  refine AW.ret ?_
  exact fin_x (x := .c _) H (.tmp rfl .nil) rfl (fun _ _ h => h) ⟨rfl, rfl⟩

end Go.Proofs.Ytnmfjojhgfipcaa.W
namespace Go.Proofs.Ytnmfjojhgfipcaa.W
open Go.RowKit E
set_option linter.unusedVariables false
set_option linter.unusedSimpArgs false
set_option linter.unusedSectionVars false

set_option maxRecDepth 20000 in
theorem negative_c0  : Pure Try.prog 95 [.g [.t (.v (.int .i64 (-3))), .t (.sl .un 2 [[.v (.int .i64 0), .v (.int .i64 1)]])]] (.c (.g [.t (.v (.int .i64 3)), .t (.sl .ne 2 [[.v (.int .i64 0), .v (.int .i64 (-1))]])])) := by
  intro H
  refine Spec.enter Try.func95 rfl ?_
  refine AW.wk (Wk.keep 30 [(0, .c (.g [.t (.v (.int .i64 (-3))), .t (.sl .un 2 [[.v (.int .i64 0), .v (.int .i64 1)]])]))] [] (H) rfl ⟨rfl, trivial⟩ trivial (fun _ _ h => h) rfl) ?_
  refine AW.seq ?_
  refine AW.reg ?_
  refine SeqK.r (b_box (r := [_, _]) rfl rfl rfl rfl rfl rfl) rfl ?_
  refine SeqK.r (b_alloc (r := [_, _]) rfl rfl Fx.ze74 rfl rfl rfl rfl) rfl ?_
  refine SeqK.nil ?_
  refine AW.seq ?_
  refine AW.reg ?_
  refine SeqK.q (q_fieldL _ rfl Fx.fl74_0 rfl rfl) rfl rfl rfl ?_
  refine SeqK.r (b_load (r := .a _) rfl Fx.ty2 rfl rfl rfl rfl rfl rfl) rfl ?_
  refine SeqK.q (q_neg _ rfl rfl ((rfl : IntKind.i64.wrap (-(-3)) = 3))) rfl rfl rfl ?_
  refine SeqK.q (q_build2 (zs := [_, _]) (r := [_, _]) [(0, 1), (1, 1)] _ rfl Fx.ze74 rfl Fx.bp74 rfl rfl rfl rfl) rfl rfl rfl ?_
  refine SeqK.r (b_alloc (r := [_, _]) rfl rfl Fx.ze74 rfl rfl rfl rfl) rfl ?_
  refine SeqK.r (b_store (r := [_, _]) rfl rfl Fx.ty74 rfl rfl rfl rfl rfl rfl) rfl ?_
  refine SeqK.nil ?_
  refine AW.seq ?_
  refine AW.seq ?_
  refine AW.reg ?_
  refine SeqK.q (q_fieldL _ rfl Fx.fl74_1 rfl rfl) rfl rfl rfl ?_
  refine SeqK.r (b_load (r := .a _) rfl Fx.ty72 rfl rfl rfl rfl rfl rfl) rfl ?_
  refine SeqK.q (q_len rfl Fx.un72 rfl) rfl rfl rfl ?_
  refine SeqK.q (q_mvC rfl rfl) rfl rfl rfl ?_
  refine SeqK.nil ?_
  refine AW.block ?_
  refine AW.unroll ?_
  refine AW.seq ?_
  refine AW.reg ?_
  refine SeqK.q (q_lss rfl rfl rfl) rfl rfl rfl ?_
  refine SeqK.nil ?_
  refine AW.seq ?_
  refine AW.condT rfl ?_
  refine AW.skip ?_
  refine AW.seq ?_
  refine AW.block ?_
  refine AW.seq ?_
  refine AW.reg ?_
  refine SeqK.q (q_index _ rfl Fx.sl72 rfl rfl (by omega) (rfl)) rfl rfl rfl ?_
  refine SeqK.q (q_load (.g [_, _]) rfl Fx.ty106 rfl rfl rfl) rfl rfl rfl ?_
  refine SeqK.r (b_alloc (r := [_, _]) rfl rfl Fx.ze106 rfl rfl rfl rfl) rfl ?_
  refine SeqK.r (b_store (r := [_, _]) rfl rfl Fx.ty106 rfl rfl rfl rfl rfl rfl) rfl ?_
  refine SeqK.nil ?_
  refine AW.reg ?_
  refine SeqK.q (q_fieldL _ rfl Fx.fl74_1 rfl rfl) rfl rfl rfl ?_
  refine SeqK.r (b_load (r := .a _) rfl Fx.ty72 rfl rfl rfl rfl rfl rfl) rfl ?_
  refine SeqK.q (q_fieldL _ rfl Fx.fl106_0 rfl rfl) rfl rfl rfl ?_
  refine SeqK.r (b_load (r := .a _) rfl Fx.ty3 rfl rfl rfl rfl rfl rfl) rfl ?_
  refine SeqK.q (q_fieldL _ rfl Fx.fl106_1 rfl rfl) rfl rfl rfl ?_
  refine SeqK.r (b_load (r := .a _) rfl Fx.ty2 rfl rfl rfl rfl rfl rfl) rfl ?_
  refine SeqK.q (q_neg _ rfl rfl ((rfl : IntKind.i64.wrap (-1) = -1))) rfl rfl rfl ?_
  refine SeqK.q (q_build2 (zs := [_, _]) (r := [_, _]) [(0, 1), (1, 1)] _ rfl Fx.ze106 rfl Fx.bp106 rfl rfl rfl rfl) rfl rfl rfl ?_
  refine SeqK.q (q_buildSlice _ rfl Fx.el72 rfl (by decide) rfl) rfl rfl rfl ?_
  refine SeqK.q (q_appNil rfl Fx.el72 rfl rfl (by simp)) rfl rfl rfl ?_
  refine SeqK.q (q_fieldL _ rfl Fx.fl74_1 rfl rfl) rfl rfl rfl ?_
  refine SeqK.r (b_store (r := [_, _]) rfl rfl Fx.ty72 rfl rfl rfl rfl rfl rfl) rfl ?_
  refine SeqK.nil ?_
  refine AW.reg ?_
  refine SeqK.q (q_add _ rfl rfl rfl (w64 (by omega) (by omega))) rfl rfl rfl ?_
  refine SeqK.q (q_mvC rfl rfl) rfl rfl rfl ?_
  refine SeqK.nil ?_
  first | with_reducible refine LoopW.again ?_ | with_reducible refine eth_n (LoopW.again ?_) | with_reducible refine eb_n (eth_n (LoopW.again ?_)) | with_reducible refine eth_n (eb_n (eth_n (LoopW.again ?_)))
  refine AW.seq ?_
  refine AW.reg ?_
  refine SeqK.q (q_lss rfl rfl rfl) rfl rfl rfl ?_
  refine SeqK.nil ?_
  refine AW.seq ?_
  refine AW.condF rfl ?_
  refine AW.exit ?_
  refine eth_e ?_
  refine eth_e ?_
  refine exit_here ?_
  refine AW.seq ?_
  refine AW.reg ?_
  refine SeqK.r (b_load (r := .g [_, _]) rfl Fx.ty74 rfl rfl rfl rfl rfl rfl) rfl ?_
  refine SeqK.r (b_store (r := [_, _]) rfl rfl Fx.ty74 rfl rfl rfl rfl rfl rfl) rfl ?_
  refine SeqK.nil ?_
  refine AW.ret ?_
  exact fin_x (x := .c _) H (.cellL rfl rfl Fx.ty74 rfl rfl .nil) rfl (fun _ _ h => h) ⟨rfl, rfl⟩

theorem negative_c : Pure Try.prog 95 [.g [.t (.v (.int .i64 (-3))), .t (.sl .un 2 [[.v (.int .i64 0), .v (.int .i64 1)]])]] (.c (.g [.t (.v (.int .i64 3)), .t (.sl .un 2 [[.v (.int .i64 0), .v (.int .i64 (-1))]])])) := negative_c0.res (XW.g (.cons XW.reA (.cons XW.un .nil)))
set_option maxRecDepth 20000 in
theorem coefs_c0 (H : Heap) (km b ck : Nat) (hm : H km = some (.map (.int .i64) [⟨.int .i64 0, .a (.t (.v (.int .i64 1))), b⟩] ck)) (hb : b < ck) : E.Spec Try.prog 72 [.a (.mp km)] H fun x H' => x = .c (.a (.t (.sl .ne 2 [[.v (.int .i64 0), .v (.int .i64 1)]]))) ∧ H' = H := by
  refine Spec.enter Try.func72 rfl ?_
  refine AW.wk (Wk.keep 40 [(0, .c (.a (.mp km)))] [] (H) rfl ⟨rfl, trivial⟩ trivial (fun _ _ h => h) rfl) ?_
  refine AW.seq ?_
  refine AW.reg ?_
  refine SeqK.q (q_asC rfl rfl) rfl rfl rfl ?_
  refine SeqK.nil ?_
  refine AW.seq ?_
  refine AW.reg ?_
  refine SeqK.q (q_asC rfl rfl) rfl rfl rfl ?_
  refine SeqK.nil ?_
  refine AW.seq ?_
  refine AW.seq ?_
  refine AW.reg ?_
  refine SeqK.q (q_mvC rfl rfl) rfl rfl rfl ?_
  refine SeqK.r (b_range rfl rfl Fx.un122 rfl (hm) rfl rfl) rfl ?_
  refine SeqK.nil ?_
  refine AW.block ?_
  refine AW.unroll ?_
  refine AW.seq ?_
  refine AW.reg ?_
  refine SeqK.next rfl rfl rfl rfl rfl rfl (hm) (fun m h => by rw [List.mem_singleton.1 h]; exact hb) (Nat.le_refl _) (fun hd11 => ?_) (fun m11 hm11 hn11 => ?_)
  ·
    exact absurd (hd11 _ (List.mem_singleton.2 rfl)) (by simp)
  ·
    obtain rfl := List.mem_singleton.1 hm11
    refine SeqK.q (q_extract _ rfl rfl rfl) rfl rfl rfl ?_
    refine SeqK.nil ?_
    refine AW.seq ?_
    refine AW.condT rfl ?_
    refine AW.skip ?_
    refine AW.block ?_
    refine AW.seq ?_
    refine AW.reg ?_
    refine SeqK.r (b_entry rfl rfl rfl (by (repeat rw [upd_ne _ _ (by first | assumption | exact Ne.symm (by assumption))]); first | assumption | exact upd_same _ _ _) (by assumption) rfl rfl) rfl ?_
    refine SeqK.q (q_extract _ rfl rfl rfl) rfl rfl rfl ?_
    refine SeqK.q (q_extract _ rfl rfl rfl) rfl rfl rfl ?_
    refine SeqK.q (q_asC rfl rfl) rfl rfl rfl ?_
    refine SeqK.q (q_asC rfl rfl) rfl rfl rfl ?_
    refine SeqK.nil ?_
    refine AW.seq ?_
    refine AW.reg ?_
    refine SeqK.q (q_mvC rfl rfl) rfl rfl rfl ?_
    refine SeqK.q (q_neq rfl rfl rfl) rfl rfl rfl ?_
    refine SeqK.nil ?_
    refine AW.condT rfl ?_
    refine AW.reg ?_
    refine SeqK.q (q_mvC rfl rfl) rfl rfl rfl ?_
    refine SeqK.q (q_mvC rfl rfl) rfl rfl rfl ?_
    refine SeqK.q (q_buildSlice _ rfl Fx.el22 rfl (by decide) rfl) rfl rfl rfl ?_
    refine SeqK.q (q_appNil rfl Fx.el22 rfl rfl (by simp)) rfl rfl rfl ?_
    refine SeqK.q (q_asC rfl rfl) rfl rfl rfl ?_
    refine SeqK.nil ?_
    first | with_reducible refine LoopW.again ?_ | with_reducible refine eth_n (LoopW.again ?_) | with_reducible refine eb_n (eth_n (LoopW.again ?_)) | with_reducible refine eth_n (eb_n (eth_n (LoopW.again ?_)))
    refine AW.seq ?_
    refine AW.reg ?_
    refine SeqK.next rfl rfl rfl rfl rfl rfl (hm) (fun m h => by rw [List.mem_singleton.1 h]; exact hb) (Nat.le_refl _) (fun hd11 => ?_) (fun m11 hm11 hn11 => ?_)
    ·
      refine SeqK.q (q_extract _ rfl rfl rfl) rfl rfl rfl ?_
      refine SeqK.nil ?_
      refine AW.seq ?_
      refine AW.condF rfl ?_
      refine AW.exit ?_
      refine eth_e ?_
      refine eth_e ?_
      refine exit_here ?_
      refine AW.seq ?_
      refine AW.reg ?_
      refine SeqK.q (q_mvC rfl rfl) rfl rfl rfl ?_
      refine SeqK.q (q_call _ rfl Fx.fn74 rfl (sort_1 _ _) rfl) rfl rfl rfl ?_
      refine SeqK.nil ?_
      refine AW.seq ?_
      refine AW.reg ?_
      refine SeqK.q (q_asC rfl rfl) rfl rfl rfl ?_
      refine SeqK.nil ?_
      refine AW.seq ?_
      refine AW.seq ?_
      refine AW.reg ?_
      refine SeqK.q (q_mvC rfl rfl) rfl rfl rfl ?_
      refine SeqK.q (q_len rfl Fx.un22 rfl) rfl rfl rfl ?_
      refine SeqK.q (q_mvC rfl rfl) rfl rfl rfl ?_
      refine SeqK.nil ?_
      refine AW.block ?_
      refine AW.unroll ?_
      refine AW.seq ?_
      refine AW.reg ?_
      refine SeqK.q (q_lss rfl rfl rfl) rfl rfl rfl ?_
      refine SeqK.nil ?_
      refine AW.seq ?_
      refine AW.condT rfl ?_
      refine AW.skip ?_
      refine AW.seq ?_
      refine AW.block ?_
      refine AW.seq ?_
      refine AW.reg ?_
      refine SeqK.q (q_index _ rfl Fx.sl22 rfl rfl (by omega) (rfl)) rfl rfl rfl ?_
      refine SeqK.q (q_load (.a _) rfl Fx.ty3 rfl rfl rfl) rfl rfl rfl ?_
      refine SeqK.q (q_asC rfl rfl) rfl rfl rfl ?_
      refine SeqK.nil ?_
      refine AW.reg ?_
      refine SeqK.q (q_mvC rfl rfl) rfl rfl rfl ?_
      refine SeqK.q (q_mvC rfl rfl) rfl rfl rfl ?_
      refine SeqK.q (q_mvC rfl rfl) rfl rfl rfl ?_
      refine SeqK.q (q_mvC rfl rfl) rfl rfl rfl ?_
      refine SeqK.r (g_lookup (r := .c (.a _)) (.int Fx.un3) rfl Fx.un122 Fx.ze2 rfl (by (repeat rw [upd_ne _ _ (by first | assumption | exact Ne.symm (by assumption))]); first | assumption | exact upd_same _ _ _) rfl rfl (rfl) rfl rfl rfl) rfl ?_
      refine SeqK.q (q_build2 (zs := [_, _]) (r := [_, _]) [(0, 1), (1, 1)] _ rfl Fx.ze106 rfl Fx.bp106 rfl rfl rfl rfl) rfl rfl rfl ?_
      refine SeqK.q (q_buildSlice _ rfl Fx.el72 rfl (by decide) rfl) rfl rfl rfl ?_
      refine SeqK.q (q_appNil rfl Fx.el72 rfl rfl (by simp)) rfl rfl rfl ?_
      refine SeqK.q (q_asC rfl rfl) rfl rfl rfl ?_
      refine SeqK.nil ?_
      refine AW.reg ?_
      refine SeqK.q (q_add _ rfl rfl rfl (w64 (by omega) (by omega))) rfl rfl rfl ?_
      refine SeqK.q (q_mvC rfl rfl) rfl rfl rfl ?_
      refine SeqK.nil ?_
      first | with_reducible refine LoopW.again ?_ | with_reducible refine eth_n (LoopW.again ?_) | with_reducible refine eb_n (eth_n (LoopW.again ?_)) | with_reducible refine eth_n (eb_n (eth_n (LoopW.again ?_)))
      refine AW.seq ?_
      refine AW.reg ?_
      refine SeqK.q (q_lss rfl rfl rfl) rfl rfl rfl ?_
      refine SeqK.nil ?_
      refine AW.seq ?_
      refine AW.condF rfl ?_
      refine AW.exit ?_
      refine eth_e ?_
      refine eth_e ?_
      refine exit_here ?_
      refine AW.seq ?_
      refine AW.reg ?_
      refine SeqK.q (q_mvC rfl rfl) rfl rfl rfl ?_
      refine SeqK.q (q_asC rfl rfl) rfl rfl rfl ?_
      refine SeqK.nil ?_
      refine AW.ret ?_
      exact fin_x (x := .c _) (H) (.tmp rfl .nil) rfl (fun _ _ h => h) (⟨rfl, rfl⟩)
    ·
      exact absurd (by rw [List.mem_singleton.1 hm11]; simp) hn11

theorem coefs_c (H : Heap) (km b ck : Nat) (hm : H km = some (.map (.int .i64) [⟨.int .i64 0, .a (.t (.v (.int .i64 1))), b⟩] ck)) (hb : b < ck) : E.Spec Try.prog 72 [.a (.mp km)] H fun x H' => x = .c (.a (.t (.sl .un 2 [[.v (.int .i64 0), .v (.int .i64 1)]]))) ∧ H' = H :=
  (coefs_c0 H km b ck hm hb).res fun x H' ⟨hx, hH⟩ => ⟨_, by rw [hx]; exact XW.un, rfl, hH⟩
end Go.Proofs.Ytnmfjojhgfipcaa.W
namespace Go.Proofs.Ytnmfjojhgfipcaa.W
open Go.RowKit E
set_option linter.unusedVariables false
set_option linter.unusedSimpArgs false
set_option linter.unusedSectionVars false
def clB (b : Bool) : Cl := ⟨[], [0], [], [⟨⟨if b then 4 else -2, [⟨0, if b then -1 else 1⟩]⟩, false⟩], [], [], []⟩
abbrev ltA (b : Bool) : List A := atA ++ [.t (.v (.bool b))]
abbrev nilA : A := .t (.v (.slice none 0 0))
abbrev bl0 : List A := [.t (.v (.int .i64 1)), nilA, nilA, nilA, nilA, nilA, nilA, nilA]
abbrev bl1 (b : Bool) : List A := [.t (.v (.int .i64 1)), nilA, .t (.sl .ne 1 [i64T 0]), nilA, .t (.sl .ne 3 [[.v (.int .i64 (if b then 4 else -2)), .sl .un 2 [[.v (.int .i64 0), .v (.int .i64 (if b then -1 else 1))]], .v (.bool false)]]), nilA, nilA, nilA]

set_option maxRecDepth 20000 in
theorem variables_c  : Pure Try.prog 93 [.g frA] (.c (.a (.t (.sl .ne 1 [i64T 0])))) := by
  intro H
  refine Spec.enter Try.func93 rfl ?_
  refine AW.wk (Wk.keep 33 [(0, .c (.g frA))] [] (H) rfl ⟨rfl, trivial⟩ trivial (fun _ _ h => h) rfl) ?_
  refine AW.seq ?_
  refine AW.reg ?_
  refine SeqK.r (b_box (r := [_, _]) rfl rfl rfl rfl rfl rfl) rfl ?_
  refine SeqK.q (q_asC rfl rfl) rfl rfl rfl ?_
  refine SeqK.nil ?_
  refine AW.seq ?_
  refine AW.reg ?_
  refine SeqK.q (q_asC rfl rfl) rfl rfl rfl ?_
  refine SeqK.nil ?_
  refine AW.seq ?_
  refine AW.seq ?_
  refine AW.reg ?_
  refine SeqK.q (q_fieldL _ rfl Fx.fl59_1 rfl rfl) rfl rfl rfl ?_
  refine SeqK.r (b_load (r := .a _) rfl Fx.ty57 rfl rfl rfl rfl rfl rfl) rfl ?_
  refine SeqK.q (q_len rfl Fx.un57 rfl) rfl rfl rfl ?_
  refine SeqK.q (q_mvC rfl rfl) rfl rfl rfl ?_
  refine SeqK.nil ?_
  refine AW.block ?_
  refine AW.unroll ?_
  refine AW.seq ?_
  refine AW.reg ?_
  refine SeqK.q (q_lss rfl rfl rfl) rfl rfl rfl ?_
  refine SeqK.nil ?_
  refine AW.seq ?_
  refine AW.condT rfl ?_
  refine AW.skip ?_
  refine AW.seq ?_
  refine AW.block ?_
  refine AW.seq ?_
  refine AW.reg ?_
  refine SeqK.q (q_index _ rfl Fx.sl57 rfl rfl (by omega) (rfl)) rfl rfl rfl ?_
  refine SeqK.q (q_load (.g [_, _, _, _, _]) rfl Fx.ty56 rfl rfl rfl) rfl rfl rfl ?_
  refine SeqK.r (b_alloc (r := [_, _, _, _, _]) rfl rfl Fx.ze56 rfl rfl rfl rfl) rfl ?_
  refine SeqK.r (b_store (r := [_, _, _, _, _]) rfl rfl Fx.ty56 rfl rfl rfl rfl rfl rfl) rfl ?_
  refine SeqK.nil ?_
  refine AW.seq ?_
  refine AW.reg ?_
  refine SeqK.q (q_fieldL _ rfl Fx.fl56_1 rfl rfl) rfl rfl rfl ?_
  refine SeqK.r (b_load (r := .a _) rfl Fx.ty3 rfl rfl rfl rfl rfl rfl) rfl ?_
  refine SeqK.q (q_eql rfl rfl rfl) rfl rfl rfl ?_
  refine SeqK.nil ?_
  refine AW.condF rfl ?_
  refine AW.reg ?_
  refine SeqK.q (q_mvC rfl rfl) rfl rfl rfl ?_
  refine SeqK.q (q_fieldL _ rfl Fx.fl56_2 rfl rfl) rfl rfl rfl ?_
  refine SeqK.r (b_load (r := .a _) rfl Fx.ty3 rfl rfl rfl rfl rfl rfl) rfl ?_
  refine SeqK.q (q_buildSlice _ rfl Fx.el22 rfl (by decide) rfl) rfl rfl rfl ?_
  refine SeqK.q (q_appNil rfl Fx.el22 rfl rfl (by simp)) rfl rfl rfl ?_
  refine SeqK.q (q_asC rfl rfl) rfl rfl rfl ?_
  refine SeqK.nil ?_
  refine AW.reg ?_
  refine SeqK.q (q_add _ rfl rfl rfl (w64 (by omega) (by omega))) rfl rfl rfl ?_
  refine SeqK.q (q_mvC rfl rfl) rfl rfl rfl ?_
  refine SeqK.nil ?_
  first | with_reducible refine LoopW.again ?_ | with_reducible refine eth_n (LoopW.again ?_) | with_reducible refine eb_n (eth_n (LoopW.again ?_)) | with_reducible refine eth_n (eb_n (eth_n (LoopW.again ?_)))
  refine AW.seq ?_
  refine AW.reg ?_
  refine SeqK.q (q_lss rfl rfl rfl) rfl rfl rfl ?_
  refine SeqK.nil ?_
  refine AW.seq ?_
  refine AW.condF rfl ?_
  refine AW.exit ?_
  refine eth_e ?_
  refine eth_e ?_
  refine exit_here ?_
  refine AW.seq ?_
  refine AW.reg ?_
  refine SeqK.q (q_mvC rfl rfl) rfl rfl rfl ?_
  refine SeqK.q (q_call _ rfl Fx.fn74 rfl (sort_1 _ _) rfl) rfl rfl rfl ?_
  refine SeqK.nil ?_
  refine AW.seq ?_
  refine AW.reg ?_
  refine SeqK.q (q_mvC rfl rfl) rfl rfl rfl ?_
  refine SeqK.q (q_call _ rfl Fx.fn75 rfl (compact_1 _ _) rfl) rfl rfl rfl ?_
  refine SeqK.q (q_asC rfl rfl) rfl rfl rfl ?_
  refine SeqK.nil ?_
  refine AW.ret ?_
  exact fin_x (x := .c _) H (.tmp rfl .nil) rfl (fun _ _ h => h) ⟨rfl, rfl⟩

set_option maxRecDepth 20000 in
theorem form_c (x : A) : Pure Try.prog 94 [.a x, .g frA] (.c (.g [.t (.v (.int .i64 (-3))), .t (.sl .un 2 [[.v (.int .i64 0), .v (.int .i64 1)]])])) := by
  intro H
  refine Spec.enter Try.func94 rfl ?_
  refine AW.wk (Wk.keep 53 [(0, .c (.a x)), (1, .c (.g frA))] [] (H) rfl ⟨rfl, rfl, trivial⟩ trivial (fun _ _ h => h) rfl) ?_
  refine AW.seq ?_
  refine AW.reg ?_
  refine SeqK.r (b_box (r := [_, _]) rfl rfl rfl rfl rfl rfl) rfl ?_
  refine SeqK.r (b_alloc (r := [_, _]) rfl rfl Fx.ze74 rfl rfl rfl rfl) rfl ?_
  refine SeqK.nil ?_
  refine AW.seq ?_
  refine AW.reg ?_
  refine SeqK.newMap (.int .i64) rfl rfl rfl rfl (fun k9 hk9 => ?_)
  refine SeqK.q (q_asC rfl rfl) rfl rfl rfl ?_
  refine SeqK.nil ?_
  refine AW.seq ?_
  refine AW.seq ?_
  refine AW.reg ?_
  refine SeqK.q (q_fieldL _ rfl Fx.fl59_1 rfl rfl) rfl rfl rfl ?_
  refine SeqK.r (b_load (r := .a _) rfl Fx.ty57 rfl rfl rfl rfl rfl rfl) rfl ?_
  refine SeqK.q (q_len rfl Fx.un57 rfl) rfl rfl rfl ?_
  refine SeqK.q (q_mvC rfl rfl) rfl rfl rfl ?_
  refine SeqK.nil ?_
  refine AW.block ?_
  refine AW.unroll ?_
  refine AW.seq ?_
  refine AW.reg ?_
  refine SeqK.q (q_lss rfl rfl rfl) rfl rfl rfl ?_
  refine SeqK.nil ?_
  refine AW.seq ?_
  refine AW.condT rfl ?_
  refine AW.skip ?_
  refine AW.seq ?_
  refine AW.block ?_
  refine AW.seq ?_
  refine AW.reg ?_
  refine SeqK.q (q_index _ rfl Fx.sl57 rfl rfl (by omega) (rfl)) rfl rfl rfl ?_
  refine SeqK.q (q_load (.g [_, _, _, _, _]) rfl Fx.ty56 rfl rfl rfl) rfl rfl rfl ?_
  refine SeqK.r (b_alloc (r := [_, _, _, _, _]) rfl rfl Fx.ze56 rfl rfl rfl rfl) rfl ?_
  refine SeqK.r (b_store (r := [_, _, _, _, _]) rfl rfl Fx.ty56 rfl rfl rfl rfl rfl rfl) rfl ?_
  refine SeqK.nil ?_
  refine AW.seq ?_
  refine AW.reg ?_
  refine SeqK.q (q_fieldL _ rfl Fx.fl56_2 rfl rfl) rfl rfl rfl ?_
  refine SeqK.r (b_load (r := .a _) rfl Fx.ty3 rfl rfl rfl rfl rfl rfl) rfl ?_
  refine SeqK.q (q_asC rfl rfl) rfl rfl rfl ?_
  refine SeqK.nil ?_
  refine AW.seq ?_
  refine AW.seq ?_
  refine AW.reg ?_
  refine SeqK.q (q_fieldL _ rfl Fx.fl56_1 rfl rfl) rfl rfl rfl ?_
  refine SeqK.r (b_load (r := .a _) rfl Fx.ty3 rfl rfl rfl rfl rfl rfl) rfl ?_
  refine SeqK.nil ?_
  refine AW.block ?_
  refine AW.seq ?_
  refine AW.reg ?_
  refine SeqK.q (q_eql rfl rfl rfl) rfl rfl rfl ?_
  refine SeqK.q (q_asC rfl rfl) rfl rfl rfl ?_
  refine SeqK.nil ?_
  refine AW.condF rfl ?_
  refine AW.seq ?_
  refine AW.reg ?_
  refine SeqK.q (q_eql rfl rfl rfl) rfl rfl rfl ?_
  refine SeqK.q (q_asC rfl rfl) rfl rfl rfl ?_
  refine SeqK.nil ?_
  refine AW.condF rfl ?_
  refine AW.skip ?_
  refine AW.reg ?_
  refine SeqK.q (q_mvC rfl rfl) rfl rfl rfl ?_
  refine SeqK.q (q_mvC rfl rfl) rfl rfl rfl ?_
  refine SeqK.r (g_lookup (r := .c (.a _)) (.int Fx.un3) rfl Fx.un122 Fx.ze2 rfl (by (repeat rw [upd_ne _ _ (by first | assumption | exact Ne.symm (by assumption))]); first | assumption | exact upd_same _ _ _) rfl rfl (rfl) rfl rfl rfl) rfl ?_
  refine SeqK.q (q_fieldL _ rfl Fx.fl56_0 rfl rfl) rfl rfl rfl ?_
  refine SeqK.r (b_load (r := .a _) rfl Fx.ty2 rfl rfl rfl rfl rfl rfl) rfl ?_
  refine SeqK.q (q_add _ rfl rfl rfl (w64 (by omega) (by omega))) rfl rfl rfl ?_
  refine SeqK.r (g_mapUpdate (.int Fx.un3) rfl rfl Fx.un122 rfl (by (repeat rw [upd_ne _ _ (by first | assumption | exact Ne.symm (by assumption))]); first | assumption | exact upd_same _ _ _) rfl rfl rfl) rfl ?_
  refine SeqK.nil ?_
  refine AW.reg ?_
  refine SeqK.q (q_add _ rfl rfl rfl (w64 (by omega) (by omega))) rfl rfl rfl ?_
  refine SeqK.q (q_mvC rfl rfl) rfl rfl rfl ?_
  refine SeqK.nil ?_
  first | with_reducible refine LoopW.again ?_ | with_reducible refine eth_n (LoopW.again ?_) | with_reducible refine eb_n (eth_n (LoopW.again ?_)) | with_reducible refine eth_n (eb_n (eth_n (LoopW.again ?_)))
  refine AW.seq ?_
  refine AW.reg ?_
  refine SeqK.q (q_lss rfl rfl rfl) rfl rfl rfl ?_
  refine SeqK.nil ?_
  refine AW.seq ?_
  refine AW.condF rfl ?_
  refine AW.exit ?_
  refine eth_e ?_
  refine eth_e ?_
  refine exit_here ?_
  refine AW.seq ?_
  refine AW.draw Fx.mo ?_
  refine LexK.q (q_fieldL _ rfl Fx.fl59_0 rfl rfl) rfl rfl rfl ?_
  refine LexK.r (b_load (r := .a _) rfl Fx.ty2 rfl rfl rfl rfl rfl rfl) rfl ?_
  refine LexK.q (q_mvC rfl rfl) rfl rfl rfl ?_
  refine LexK.r (g_call rfl Fx.fn72 rfl (coefs_c _ k9 0 1 (by exact upd_same _ _ _) (by decide)) rfl rfl rfl) rfl ?_
  refine LexK.q (q_build2 (zs := [_, _]) (r := [_, _]) [(0, 1), (1, 1)] _ rfl Fx.ze74 rfl Fx.bp74 rfl rfl rfl rfl) rfl rfl rfl ?_
  refine LexK.r (b_store (r := [_, _]) rfl rfl Fx.ty74 rfl rfl rfl rfl rfl rfl) rfl ?_
  refine LexK.nil (by kernel_rfl) ?_
  refine AW.ret ?_
  exact fin_x (x := .c _) (H) (.cellL rfl rfl Fx.ty74 rfl rfl .nil) rfl (fun j o h => by
    show upd (upd H k9 _) k9 _ j = _
    rw [upd_upd]; exact upd_sub hk9 j o h) (⟨rfl, rfl⟩)

set_option maxHeartbeats 4000000 in
set_option maxRecDepth 20000 in
theorem add_f (H : Heap) (k : Nat) (hk : H k = some (.box bl0)) : E.Spec Try.prog 86 [.a (.bp k 0), .g (ltA false)] H fun x H' => x = .tup [] ∧ H' = upd H k (some (.box (bl1 false))) := by
  refine Spec.enter Try.func86 rfl ?_
  refine AW.wk (Wk.keep 208 [(0, .c (.a (.bp k 0))), (1, .c (.g (ltA false)))] [] (H) rfl ⟨rfl, rfl, trivial⟩ trivial (fun _ _ h => h) rfl) ?_
  refine AW.seq ?_
  refine AW.reg ?_
  refine SeqK.r (b_box (r := [_, _, _, _, _, _, _, _, _, _]) rfl rfl rfl rfl rfl rfl) rfl ?_
  refine SeqK.nil ?_
  refine AW.seq ?_
  refine AW.seq ?_
  refine AW.reg ?_
  refine SeqK.q (q_fieldL _ rfl Fx.fl143_0 rfl rfl) rfl rfl rfl ?_
  refine SeqK.q (q_fieldL _ rfl Fx.fl63_0 rfl rfl) rfl rfl rfl ?_
  refine SeqK.r (b_load (r := .a _) rfl Fx.ty3 rfl rfl rfl rfl rfl rfl) rfl ?_
  refine SeqK.nil ?_
  refine AW.block ?_
  refine AW.seq ?_
  refine AW.reg ?_
  refine SeqK.q (q_eql rfl rfl rfl) rfl rfl rfl ?_
  refine SeqK.q (q_asC rfl rfl) rfl rfl rfl ?_
  refine SeqK.nil ?_
  refine AW.condF rfl ?_
  refine AW.seq ?_
  refine AW.seq ?_
  refine AW.reg ?_
  refine SeqK.q (q_eql rfl rfl rfl) rfl rfl rfl ?_
  refine SeqK.q (q_asC rfl rfl) rfl rfl rfl ?_
  refine SeqK.nil ?_
  refine AW.condF rfl ?_
  refine AW.seq ?_
  refine AW.reg ?_
  refine SeqK.q (q_eql rfl rfl rfl) rfl rfl rfl ?_
  refine SeqK.q (q_asC rfl rfl) rfl rfl rfl ?_
  refine SeqK.nil ?_
  refine AW.condF rfl ?_
  refine AW.reg ?_
  refine SeqK.q (q_eql rfl rfl rfl) rfl rfl rfl ?_
  refine SeqK.q (q_asC rfl rfl) rfl rfl rfl ?_
  refine SeqK.nil ?_
  refine AW.condT rfl ?_
  refine AW.seq ?_
  refine AW.draw Fx.mo ?_
  refine LexK.q (q_mvC rfl rfl) rfl rfl rfl ?_
  refine LexK.q (q_mvC rfl rfl) rfl rfl rfl ?_
  refine LexK.q (q_nilH rfl rfl) rfl rfl rfl ?_
  refine LexK.q (q_fieldH _ rfl Fx.fl147_1 rfl rfl) rfl rfl rfl ?_
  refine LexK.q (q_fieldH _ rfl Fx.fl28_1 rfl rfl) rfl rfl rfl ?_
  refine LexK.r (g_load (r := .a _) rfl Fx.ty22 rfl (by (repeat rw [upd_ne _ _ (by first | assumption | exact Ne.symm (by assumption))]); first | assumption | exact upd_same _ _ _) rfl rfl rfl rfl) rfl ?_
  refine LexK.q (q_fieldL _ rfl Fx.fl143_0 rfl rfl) rfl rfl rfl ?_
  refine LexK.q (q_fieldL _ rfl Fx.fl63_3 rfl rfl) rfl rfl rfl ?_
  refine LexK.r (b_load (r := .g [_, _]) rfl Fx.ty59 rfl rfl rfl rfl rfl rfl) rfl ?_
  refine LexK.q (q_call _ rfl Fx.fn93 rfl (variables_c) rfl) rfl rfl rfl ?_
  refine LexK.q (q_appNil rfl Fx.el22 rfl rfl (by simp)) rfl rfl rfl ?_
  refine LexK.q (q_nilH rfl rfl) rfl rfl rfl ?_
  refine LexK.q (q_fieldH _ rfl Fx.fl147_1 rfl rfl) rfl rfl rfl ?_
  refine LexK.q (q_fieldH _ rfl Fx.fl28_1 rfl rfl) rfl rfl rfl ?_
  refine LexK.r (g_store rfl rfl Fx.ty22 rfl rfl (by (repeat rw [upd_ne _ _ (by first | assumption | exact Ne.symm (by assumption))]); first | assumption | exact upd_same _ _ _) rfl rfl rfl) rfl ?_
  refine LexK.nil (by kernel_rfl) ?_
  refine AW.seq ?_
  refine AW.reg ?_
  refine SeqK.q (q_mvC rfl rfl) rfl rfl rfl ?_
  refine SeqK.q (q_fieldL _ rfl Fx.fl143_0 rfl rfl) rfl rfl rfl ?_
  refine SeqK.q (q_fieldL _ rfl Fx.fl63_3 rfl rfl) rfl rfl rfl ?_
  refine SeqK.r (b_load (r := .g [_, _]) rfl Fx.ty59 rfl rfl rfl rfl rfl rfl) rfl ?_
  refine SeqK.q (q_call _ rfl Fx.fn94 rfl (form_c _) rfl) rfl rfl rfl ?_
  refine SeqK.r (b_alloc (r := [_, _]) rfl rfl Fx.ze74 rfl rfl rfl rfl) rfl ?_
  refine SeqK.r (b_store (r := [_, _]) rfl rfl Fx.ty74 rfl rfl rfl rfl rfl rfl) rfl ?_
  refine SeqK.nil ?_
  refine AW.seq ?_
  refine AW.seq ?_
  refine AW.reg ?_
  refine SeqK.q (q_fieldL _ rfl Fx.fl143_0 rfl rfl) rfl rfl rfl ?_
  refine SeqK.q (q_fieldL _ rfl Fx.fl63_0 rfl rfl) rfl rfl rfl ?_
  refine SeqK.r (b_load (r := .a _) rfl Fx.ty3 rfl rfl rfl rfl rfl rfl) rfl ?_
  refine SeqK.nil ?_
  refine AW.block ?_
  refine AW.seq ?_
  refine AW.reg ?_
  refine SeqK.q (q_eql rfl rfl rfl) rfl rfl rfl ?_
  refine SeqK.q (q_asC rfl rfl) rfl rfl rfl ?_
  refine SeqK.nil ?_
  refine AW.condF rfl ?_
  refine AW.seq ?_
  refine AW.reg ?_
  refine SeqK.q (q_eql rfl rfl rfl) rfl rfl rfl ?_
  refine SeqK.q (q_asC rfl rfl) rfl rfl rfl ?_
  refine SeqK.nil ?_
  refine AW.condT rfl ?_
  refine AW.seq ?_
  refine AW.seq ?_
  refine AW.reg ?_
  refine SeqK.q (q_fieldL _ rfl Fx.fl143_1 rfl rfl) rfl rfl rfl ?_
  refine SeqK.r (b_load (r := .a _) rfl Fx.ty4 rfl rfl rfl rfl rfl rfl) rfl ?_
  refine SeqK.nil ?_
  refine AW.condF rfl ?_
  refine AW.skip ?_
  refine AW.seq ?_
  refine AW.reg ?_
  refine SeqK.q (q_fieldL _ rfl Fx.fl74_0 rfl rfl) rfl rfl rfl ?_
  refine SeqK.r (b_load (r := .a _) rfl Fx.ty2 rfl rfl rfl rfl rfl rfl) rfl ?_
  refine SeqK.q (q_add _ rfl rfl rfl (w64 (by omega) (by omega))) rfl rfl rfl ?_
  refine SeqK.q (q_fieldL _ rfl Fx.fl74_0 rfl rfl) rfl rfl rfl ?_
  refine SeqK.r (b_store (r := [_, _]) rfl rfl Fx.ty2 rfl rfl rfl rfl rfl rfl) rfl ?_
  refine SeqK.nil ?_
  refine AW.draw Fx.mo ?_
  refine LexK.q (q_mvC rfl rfl) rfl rfl rfl ?_
  refine LexK.q (q_mvC rfl rfl) rfl rfl rfl ?_
  refine LexK.q (q_nilH rfl rfl) rfl rfl rfl ?_
  refine LexK.q (q_fieldH _ rfl Fx.fl147_1 rfl rfl) rfl rfl rfl ?_
  refine LexK.q (q_fieldH _ rfl Fx.fl28_3 rfl rfl) rfl rfl rfl ?_
  refine LexK.r (g_load (r := .a _) rfl Fx.ty24 rfl (by (repeat rw [upd_ne _ _ (by first | assumption | exact Ne.symm (by assumption))]); first | assumption | exact upd_same _ _ _) rfl rfl rfl rfl) rfl ?_
  refine LexK.r (b_load (r := .g [_, _]) rfl Fx.ty74 rfl rfl rfl rfl rfl rfl) rfl ?_
  refine LexK.q (q_build2 (zs := [_, _, _]) (r := [_, _, _]) [(0, 2), (2, 1)] _ rfl Fx.ze76 rfl Fx.bp76 rfl rfl rfl rfl) rfl rfl rfl ?_
  refine LexK.q (q_buildSlice _ rfl Fx.el24 rfl (by decide) rfl) rfl rfl rfl ?_
  refine LexK.q (q_appNil rfl Fx.el24 rfl rfl (by simp)) rfl rfl rfl ?_
  refine LexK.q (q_nilH rfl rfl) rfl rfl rfl ?_
  refine LexK.q (q_fieldH _ rfl Fx.fl147_1 rfl rfl) rfl rfl rfl ?_
  refine LexK.q (q_fieldH _ rfl Fx.fl28_3 rfl rfl) rfl rfl rfl ?_
  refine LexK.r (g_store rfl rfl Fx.ty24 rfl rfl (by (repeat rw [upd_ne _ _ (by first | assumption | exact Ne.symm (by assumption))]); first | assumption | exact upd_same _ _ _) rfl rfl rfl) rfl ?_
  refine LexK.nil (by kernel_rfl) ?_
  refine AW.ret ?_
  exact fin_x (x := .tup []) (_) .nil rfl (fun _ _ h => h) (⟨rfl, by
    show upd (upd H k _) k _ = _
    rw [upd_upd]; rfl⟩)

set_option maxHeartbeats 4000000 in
set_option maxRecDepth 20000 in
theorem add_t (H : Heap) (k : Nat) (hk : H k = some (.box bl0)) : E.Spec Try.prog 86 [.a (.bp k 0), .g (ltA true)] H fun x H' => x = .tup [] ∧ H' = upd H k (some (.box (bl1 true))) := by
  refine Spec.enter Try.func86 rfl ?_
  refine AW.wk (Wk.keep 208 [(0, .c (.a (.bp k 0))), (1, .c (.g (ltA true)))] [] (H) rfl ⟨rfl, rfl, trivial⟩ trivial (fun _ _ h => h) rfl) ?_
  refine AW.seq ?_
  refine AW.reg ?_
  refine SeqK.r (b_box (r := [_, _, _, _, _, _, _, _, _, _]) rfl rfl rfl rfl rfl rfl) rfl ?_
  refine SeqK.nil ?_
  refine AW.seq ?_
  refine AW.seq ?_
  refine AW.reg ?_
  refine SeqK.q (q_fieldL _ rfl Fx.fl143_0 rfl rfl) rfl rfl rfl ?_
  refine SeqK.q (q_fieldL _ rfl Fx.fl63_0 rfl rfl) rfl rfl rfl ?_
  refine SeqK.r (b_load (r := .a _) rfl Fx.ty3 rfl rfl rfl rfl rfl rfl) rfl ?_
  refine SeqK.nil ?_
  refine AW.block ?_
  refine AW.seq ?_
  refine AW.reg ?_
  refine SeqK.q (q_eql rfl rfl rfl) rfl rfl rfl ?_
  refine SeqK.q (q_asC rfl rfl) rfl rfl rfl ?_
  refine SeqK.nil ?_
  refine AW.condF rfl ?_
  refine AW.seq ?_
  refine AW.seq ?_
  refine AW.reg ?_
  refine SeqK.q (q_eql rfl rfl rfl) rfl rfl rfl ?_
  refine SeqK.q (q_asC rfl rfl) rfl rfl rfl ?_
  refine SeqK.nil ?_
  refine AW.condF rfl ?_
  refine AW.seq ?_
  refine AW.reg ?_
  refine SeqK.q (q_eql rfl rfl rfl) rfl rfl rfl ?_
  refine SeqK.q (q_asC rfl rfl) rfl rfl rfl ?_
  refine SeqK.nil ?_
  refine AW.condF rfl ?_
  refine AW.reg ?_
  refine SeqK.q (q_eql rfl rfl rfl) rfl rfl rfl ?_
  refine SeqK.q (q_asC rfl rfl) rfl rfl rfl ?_
  refine SeqK.nil ?_
  refine AW.condT rfl ?_
  refine AW.seq ?_
  refine AW.draw Fx.mo ?_
  refine LexK.q (q_mvC rfl rfl) rfl rfl rfl ?_
  refine LexK.q (q_mvC rfl rfl) rfl rfl rfl ?_
  refine LexK.q (q_nilH rfl rfl) rfl rfl rfl ?_
  refine LexK.q (q_fieldH _ rfl Fx.fl147_1 rfl rfl) rfl rfl rfl ?_
  refine LexK.q (q_fieldH _ rfl Fx.fl28_1 rfl rfl) rfl rfl rfl ?_
  refine LexK.r (g_load (r := .a _) rfl Fx.ty22 rfl (by (repeat rw [upd_ne _ _ (by first | assumption | exact Ne.symm (by assumption))]); first | assumption | exact upd_same _ _ _) rfl rfl rfl rfl) rfl ?_
  refine LexK.q (q_fieldL _ rfl Fx.fl143_0 rfl rfl) rfl rfl rfl ?_
  refine LexK.q (q_fieldL _ rfl Fx.fl63_3 rfl rfl) rfl rfl rfl ?_
  refine LexK.r (b_load (r := .g [_, _]) rfl Fx.ty59 rfl rfl rfl rfl rfl rfl) rfl ?_
  refine LexK.q (q_call _ rfl Fx.fn93 rfl (variables_c) rfl) rfl rfl rfl ?_
  refine LexK.q (q_appNil rfl Fx.el22 rfl rfl (by simp)) rfl rfl rfl ?_
  refine LexK.q (q_nilH rfl rfl) rfl rfl rfl ?_
  refine LexK.q (q_fieldH _ rfl Fx.fl147_1 rfl rfl) rfl rfl rfl ?_
  refine LexK.q (q_fieldH _ rfl Fx.fl28_1 rfl rfl) rfl rfl rfl ?_
  refine LexK.r (g_store rfl rfl Fx.ty22 rfl rfl (by (repeat rw [upd_ne _ _ (by first | assumption | exact Ne.symm (by assumption))]); first | assumption | exact upd_same _ _ _) rfl rfl rfl) rfl ?_
  refine LexK.nil (by kernel_rfl) ?_
  refine AW.seq ?_
  refine AW.reg ?_
  refine SeqK.q (q_mvC rfl rfl) rfl rfl rfl ?_
  refine SeqK.q (q_fieldL _ rfl Fx.fl143_0 rfl rfl) rfl rfl rfl ?_
  refine SeqK.q (q_fieldL _ rfl Fx.fl63_3 rfl rfl) rfl rfl rfl ?_
  refine SeqK.r (b_load (r := .g [_, _]) rfl Fx.ty59 rfl rfl rfl rfl rfl rfl) rfl ?_
  refine SeqK.q (q_call _ rfl Fx.fn94 rfl (form_c _) rfl) rfl rfl rfl ?_
  refine SeqK.r (b_alloc (r := [_, _]) rfl rfl Fx.ze74 rfl rfl rfl rfl) rfl ?_
  refine SeqK.r (b_store (r := [_, _]) rfl rfl Fx.ty74 rfl rfl rfl rfl rfl rfl) rfl ?_
  refine SeqK.nil ?_
  refine AW.seq ?_
  refine AW.seq ?_
  refine AW.reg ?_
  refine SeqK.q (q_fieldL _ rfl Fx.fl143_0 rfl rfl) rfl rfl rfl ?_
  refine SeqK.q (q_fieldL _ rfl Fx.fl63_0 rfl rfl) rfl rfl rfl ?_
  refine SeqK.r (b_load (r := .a _) rfl Fx.ty3 rfl rfl rfl rfl rfl rfl) rfl ?_
  refine SeqK.nil ?_
  refine AW.block ?_
  refine AW.seq ?_
  refine AW.reg ?_
  refine SeqK.q (q_eql rfl rfl rfl) rfl rfl rfl ?_
  refine SeqK.q (q_asC rfl rfl) rfl rfl rfl ?_
  refine SeqK.nil ?_
  refine AW.condF rfl ?_
  refine AW.seq ?_
  refine AW.reg ?_
  refine SeqK.q (q_eql rfl rfl rfl) rfl rfl rfl ?_
  refine SeqK.q (q_asC rfl rfl) rfl rfl rfl ?_
  refine SeqK.nil ?_
  refine AW.condT rfl ?_
  refine AW.seq ?_
  refine AW.seq ?_
  refine AW.reg ?_
  refine SeqK.q (q_fieldL _ rfl Fx.fl143_1 rfl rfl) rfl rfl rfl ?_
  refine SeqK.r (b_load (r := .a _) rfl Fx.ty4 rfl rfl rfl rfl rfl rfl) rfl ?_
  refine SeqK.nil ?_
  refine AW.condT rfl ?_
  refine AW.reg ?_
  refine SeqK.r (b_load (r := .g [_, _]) rfl Fx.ty74 rfl rfl rfl rfl rfl rfl) rfl ?_
  refine SeqK.q (q_call _ rfl Fx.fn95 rfl (negative_c) rfl) rfl rfl rfl ?_
  refine SeqK.r (b_store (r := [_, _]) rfl rfl Fx.ty74 rfl rfl rfl rfl rfl rfl) rfl ?_
  refine SeqK.nil ?_
  refine AW.seq ?_
  refine AW.reg ?_
  refine SeqK.q (q_fieldL _ rfl Fx.fl74_0 rfl rfl) rfl rfl rfl ?_
  refine SeqK.r (b_load (r := .a _) rfl Fx.ty2 rfl rfl rfl rfl rfl rfl) rfl ?_
  refine SeqK.q (q_add _ rfl rfl rfl (w64 (by omega) (by omega))) rfl rfl rfl ?_
  refine SeqK.q (q_fieldL _ rfl Fx.fl74_0 rfl rfl) rfl rfl rfl ?_
  refine SeqK.r (b_store (r := [_, _]) rfl rfl Fx.ty2 rfl rfl rfl rfl rfl rfl) rfl ?_
  refine SeqK.nil ?_
  refine AW.draw Fx.mo ?_
  refine LexK.q (q_mvC rfl rfl) rfl rfl rfl ?_
  refine LexK.q (q_mvC rfl rfl) rfl rfl rfl ?_
  refine LexK.q (q_nilH rfl rfl) rfl rfl rfl ?_
  refine LexK.q (q_fieldH _ rfl Fx.fl147_1 rfl rfl) rfl rfl rfl ?_
  refine LexK.q (q_fieldH _ rfl Fx.fl28_3 rfl rfl) rfl rfl rfl ?_
  refine LexK.r (g_load (r := .a _) rfl Fx.ty24 rfl (by (repeat rw [upd_ne _ _ (by first | assumption | exact Ne.symm (by assumption))]); first | assumption | exact upd_same _ _ _) rfl rfl rfl rfl) rfl ?_
  refine LexK.r (b_load (r := .g [_, _]) rfl Fx.ty74 rfl rfl rfl rfl rfl rfl) rfl ?_
  refine LexK.q (q_build2 (zs := [_, _, _]) (r := [_, _, _]) [(0, 2), (2, 1)] _ rfl Fx.ze76 rfl Fx.bp76 rfl rfl rfl rfl) rfl rfl rfl ?_
  refine LexK.q (q_buildSlice _ rfl Fx.el24 rfl (by decide) rfl) rfl rfl rfl ?_
  refine LexK.q (q_appNil rfl Fx.el24 rfl rfl (by simp)) rfl rfl rfl ?_
  refine LexK.q (q_nilH rfl rfl) rfl rfl rfl ?_
  refine LexK.q (q_fieldH _ rfl Fx.fl147_1 rfl rfl) rfl rfl rfl ?_
  refine LexK.q (q_fieldH _ rfl Fx.fl28_3 rfl rfl) rfl rfl rfl ?_
  refine LexK.r (g_store rfl rfl Fx.ty24 rfl rfl (by (repeat rw [upd_ne _ _ (by first | assumption | exact Ne.symm (by assumption))]); first | assumption | exact upd_same _ _ _) rfl rfl rfl) rfl ?_
  refine LexK.nil (by kernel_rfl) ?_
  refine AW.ret ?_
  exact fin_x (x := .tup []) (_) .nil rfl (fun _ _ h => h) (⟨rfl, by
    show upd (upd H k _) k _ = _
    rw [upd_upd]; rfl⟩)

end Go.Proofs.Ytnmfjojhgfipcaa.W
namespace Go.Proofs.Ytnmfjojhgfipcaa.W
open Go.RowKit E
set_option linter.unusedVariables false
set_option linter.unusedSimpArgs false
set_option linter.unusedSectionVars false

set_option maxHeartbeats 4000000 in
set_option maxRecDepth 20000 in
theorem build_f0  : Pure Try.prog 64 [.a (.t (.sl .nn 10 [ltT false])), iC 1] (.c (.g [.t (.sl .un 1 []), .t (.sl .un 1 [i64T 0]), nilA, .t (.sl .ne 3 [[.v (.int .i64 (if false then 4 else -2)), .sl .un 2 [[.v (.int .i64 0), .v (.int .i64 (if false then -1 else 1))]], .v (.bool false)]]), nilA, nilA, nilA])) := by
  intro H
  refine Spec.enter Try.func64 rfl ?_
  refine AW.wk (Wk.keep 45 [(0, .c (.a (.t (.sl .nn 10 [ltT false])))), (1, .c (iC 1))] [] (H) rfl ⟨rfl, rfl, trivial⟩ trivial (fun _ _ h => h) rfl) ?_
  refine AW.seq ?_
  refine AW.reg ?_
  refine SeqK.r (b_alloc (r := [_, _, _, _, _, _, _]) rfl rfl Fx.ze28 rfl rfl rfl rfl) rfl ?_
  refine SeqK.nil ?_
  refine AW.seq ?_
  refine AW.reg ?_
  refine SeqK.q (q_mvC rfl rfl) rfl rfl rfl ?_
  refine SeqK.q (q_build2 (zs := [_, _, _, _, _, _, _, _]) (r := [_, _, _, _, _, _, _, _]) [(0, 1), (1, 7)] _ rfl Fx.ze147 rfl Fx.bp147 rfl rfl rfl rfl) rfl rfl rfl ?_
  refine SeqK.newBox (r := [_, _, _, _, _, _, _, _]) rfl rfl rfl rfl rfl rfl (fun k10 hk10 => ?_)
  refine SeqK.q (q_asC rfl rfl) rfl rfl rfl ?_
  refine SeqK.nil ?_
  refine AW.seq ?_
  refine AW.seq ?_
  refine AW.reg ?_
  refine SeqK.q (q_mvC rfl rfl) rfl rfl rfl ?_
  refine SeqK.q (q_len rfl Fx.un116 rfl) rfl rfl rfl ?_
  refine SeqK.q (q_mvC rfl rfl) rfl rfl rfl ?_
  refine SeqK.nil ?_
  refine AW.block ?_
  refine AW.unroll ?_
  refine AW.seq ?_
  refine AW.reg ?_
  refine SeqK.q (q_lss rfl rfl rfl) rfl rfl rfl ?_
  refine SeqK.nil ?_
  refine AW.seq ?_
  refine AW.condT rfl ?_
  refine AW.skip ?_
  refine AW.seq ?_
  refine AW.block ?_
  refine AW.seq ?_
  refine AW.reg ?_
  refine SeqK.q (q_index _ rfl Fx.sl116 rfl rfl (by omega) (rfl)) rfl rfl rfl ?_
  refine SeqK.q (q_load (.g [_, _, _, _, _, _, _, _, _, _]) rfl Fx.ty143 rfl rfl rfl) rfl rfl rfl ?_
  refine SeqK.r (b_alloc (r := [_, _, _, _, _, _, _, _, _, _]) rfl rfl Fx.ze143 rfl rfl rfl rfl) rfl ?_
  refine SeqK.r (b_store (r := [_, _, _, _, _, _, _, _, _, _]) rfl rfl Fx.ty143 rfl rfl rfl rfl rfl rfl) rfl ?_
  refine SeqK.nil ?_
  refine AW.reg ?_
  refine SeqK.q (q_mvC rfl rfl) rfl rfl rfl ?_
  refine SeqK.r (b_load (r := .g [_, _, _, _, _, _, _, _, _, _]) rfl Fx.ty143 rfl rfl rfl rfl rfl rfl) rfl ?_
  refine SeqK.callE rfl rfl rfl rfl Fx.fn86 rfl (add_f _ k10 (upd_same _ _ _)) (fun _ _ h => by rw [h.1]; rfl) (fun x19 H19 q19 => ?_)
  obtain ⟨rfl, hHs⟩ := q19
  rw [upd_upd] at hHs
  subst hHs
  refine SeqK.nil ?_
  refine AW.reg ?_
  refine SeqK.q (q_add _ rfl rfl rfl (w64 (by omega) (by omega))) rfl rfl rfl ?_
  refine SeqK.q (q_mvC rfl rfl) rfl rfl rfl ?_
  refine SeqK.nil ?_
  first | with_reducible refine LoopW.again ?_ | with_reducible refine eth_n (LoopW.again ?_) | with_reducible refine eb_n (eth_n (LoopW.again ?_)) | with_reducible refine eth_n (eb_n (eth_n (LoopW.again ?_)))
  refine AW.seq ?_
  refine AW.reg ?_
  refine SeqK.q (q_lss rfl rfl rfl) rfl rfl rfl ?_
  refine SeqK.nil ?_
  refine AW.seq ?_
  refine AW.condF rfl ?_
  refine AW.exit ?_
  refine eth_e ?_
  refine eth_e ?_
  refine exit_here ?_
  refine AW.seq ?_
  refine AW.draw Fx.mo ?_
  refine LexK.q (q_mvC rfl rfl) rfl rfl rfl ?_
  refine LexK.q (q_mvC rfl rfl) rfl rfl rfl ?_
  refine LexK.q (q_mvC rfl rfl) rfl rfl rfl ?_
  refine LexK.q (q_nilH rfl rfl) rfl rfl rfl ?_
  refine LexK.q (q_fieldH _ rfl Fx.fl147_1 rfl rfl) rfl rfl rfl ?_
  refine LexK.q (q_fieldH _ rfl Fx.fl28_0 rfl rfl) rfl rfl rfl ?_
  refine LexK.r (g_load (r := .a _) rfl Fx.ty22 rfl (by (repeat rw [upd_ne _ _ (by first | assumption | exact Ne.symm (by assumption))]); first | assumption | exact upd_same _ _ _) rfl rfl rfl rfl) rfl ?_
  refine LexK.q (q_call _ rfl Fx.fn42 rfl (Pure.arg [] XW.nilU (sorted_0 .un)) rfl) rfl rfl rfl ?_
  refine LexK.q (q_mvC rfl rfl) rfl rfl rfl ?_
  refine LexK.q (q_nilH rfl rfl) rfl rfl rfl ?_
  refine LexK.q (q_fieldH _ rfl Fx.fl147_1 rfl rfl) rfl rfl rfl ?_
  refine LexK.q (q_fieldH _ rfl Fx.fl28_1 rfl rfl) rfl rfl rfl ?_
  refine LexK.r (g_load (r := .a _) rfl Fx.ty22 rfl (by (repeat rw [upd_ne _ _ (by first | assumption | exact Ne.symm (by assumption))]); first | assumption | exact upd_same _ _ _) rfl rfl rfl rfl) rfl ?_
  refine LexK.q (q_call _ rfl Fx.fn42 rfl ((sorted_1 .ne _).res XW.un) rfl) rfl rfl rfl ?_
  refine LexK.q (q_nilH rfl rfl) rfl rfl rfl ?_
  refine LexK.q (q_fieldH _ rfl Fx.fl147_1 rfl rfl) rfl rfl rfl ?_
  refine LexK.q (q_fieldH _ rfl Fx.fl28_0 rfl rfl) rfl rfl rfl ?_
  refine LexK.r (g_store rfl rfl Fx.ty22 rfl rfl (by (repeat rw [upd_ne _ _ (by first | assumption | exact Ne.symm (by assumption))]); first | assumption | exact upd_same _ _ _) rfl rfl rfl) rfl ?_
  refine LexK.q (q_nilH rfl rfl) rfl rfl rfl ?_
  refine LexK.q (q_fieldH _ rfl Fx.fl147_1 rfl rfl) rfl rfl rfl ?_
  refine LexK.q (q_fieldH _ rfl Fx.fl28_1 rfl rfl) rfl rfl rfl ?_
  refine LexK.r (g_store rfl rfl Fx.ty22 rfl rfl (by (repeat rw [upd_ne _ _ (by first | assumption | exact Ne.symm (by assumption))]); first | assumption | exact upd_same _ _ _) rfl rfl rfl) rfl ?_
  refine LexK.nil (by kernel_rfl) ?_
  refine AW.seq ?_
  refine AW.reg ?_
  refine SeqK.q (q_mvC rfl rfl) rfl rfl rfl ?_
  refine SeqK.q (q_nilH rfl rfl) rfl rfl rfl ?_
  refine SeqK.q (q_fieldH _ rfl Fx.fl147_1 rfl rfl) rfl rfl rfl ?_
  refine SeqK.r (g_load (r := .g [_, _, _, _, _, _, _]) rfl Fx.ty28 rfl (by (repeat rw [upd_ne _ _ (by first | assumption | exact Ne.symm (by assumption))]); first | assumption | exact upd_same _ _ _) rfl rfl rfl rfl) rfl ?_
  refine SeqK.r (b_store (r := [_, _, _, _, _, _, _]) rfl rfl Fx.ty28 rfl rfl rfl rfl rfl rfl) rfl ?_
  refine SeqK.nil ?_
  refine AW.ret ?_
  exact fin_x (x := .c _) (H) (.cellL rfl rfl Fx.ty28 rfl rfl .nil) rfl (fun j o h => by
    show upd (upd (upd H k10 _) k10 _) k10 _ j = _
    rw [upd_upd, upd_upd]; exact upd_sub hk10 j o h) (⟨rfl, rfl⟩)

set_option maxHeartbeats 4000000 in
set_option maxRecDepth 20000 in
theorem build_t0  : Pure Try.prog 64 [.a (.t (.sl .nn 10 [ltT true])), iC 1] (.c (.g [.t (.sl .un 1 []), .t (.sl .un 1 [i64T 0]), nilA, .t (.sl .ne 3 [[.v (.int .i64 (if true then 4 else -2)), .sl .un 2 [[.v (.int .i64 0), .v (.int .i64 (if true then -1 else 1))]], .v (.bool false)]]), nilA, nilA, nilA])) := by
  intro H
  refine Spec.enter Try.func64 rfl ?_
  refine AW.wk (Wk.keep 45 [(0, .c (.a (.t (.sl .nn 10 [ltT true])))), (1, .c (iC 1))] [] (H) rfl ⟨rfl, rfl, trivial⟩ trivial (fun _ _ h => h) rfl) ?_
  refine AW.seq ?_
  refine AW.reg ?_
  refine SeqK.r (b_alloc (r := [_, _, _, _, _, _, _]) rfl rfl Fx.ze28 rfl rfl rfl rfl) rfl ?_
  refine SeqK.nil ?_
  refine AW.seq ?_
  refine AW.reg ?_
  refine SeqK.q (q_mvC rfl rfl) rfl rfl rfl ?_
  refine SeqK.q (q_build2 (zs := [_, _, _, _, _, _, _, _]) (r := [_, _, _, _, _, _, _, _]) [(0, 1), (1, 7)] _ rfl Fx.ze147 rfl Fx.bp147 rfl rfl rfl rfl) rfl rfl rfl ?_
  refine SeqK.newBox (r := [_, _, _, _, _, _, _, _]) rfl rfl rfl rfl rfl rfl (fun k10 hk10 => ?_)
  refine SeqK.q (q_asC rfl rfl) rfl rfl rfl ?_
  refine SeqK.nil ?_
  refine AW.seq ?_
  refine AW.seq ?_
  refine AW.reg ?_
  refine SeqK.q (q_mvC rfl rfl) rfl rfl rfl ?_
  refine SeqK.q (q_len rfl Fx.un116 rfl) rfl rfl rfl ?_
  refine SeqK.q (q_mvC rfl rfl) rfl rfl rfl ?_
  refine SeqK.nil ?_
  refine AW.block ?_
  refine AW.unroll ?_
  refine AW.seq ?_
  refine AW.reg ?_
  refine SeqK.q (q_lss rfl rfl rfl) rfl rfl rfl ?_
  refine SeqK.nil ?_
  refine AW.seq ?_
  refine AW.condT rfl ?_
  refine AW.skip ?_
  refine AW.seq ?_
  refine AW.block ?_
  refine AW.seq ?_
  refine AW.reg ?_
  refine SeqK.q (q_index _ rfl Fx.sl116 rfl rfl (by omega) (rfl)) rfl rfl rfl ?_
  refine SeqK.q (q_load (.g [_, _, _, _, _, _, _, _, _, _]) rfl Fx.ty143 rfl rfl rfl) rfl rfl rfl ?_
  refine SeqK.r (b_alloc (r := [_, _, _, _, _, _, _, _, _, _]) rfl rfl Fx.ze143 rfl rfl rfl rfl) rfl ?_
  refine SeqK.r (b_store (r := [_, _, _, _, _, _, _, _, _, _]) rfl rfl Fx.ty143 rfl rfl rfl rfl rfl rfl) rfl ?_
  refine SeqK.nil ?_
  refine AW.reg ?_
  refine SeqK.q (q_mvC rfl rfl) rfl rfl rfl ?_
  refine SeqK.r (b_load (r := .g [_, _, _, _, _, _, _, _, _, _]) rfl Fx.ty143 rfl rfl rfl rfl rfl rfl) rfl ?_
  refine SeqK.callE rfl rfl rfl rfl Fx.fn86 rfl (add_t _ k10 (upd_same _ _ _)) (fun _ _ h => by rw [h.1]; rfl) (fun x19 H19 q19 => ?_)
  obtain ⟨rfl, hHs⟩ := q19
  rw [upd_upd] at hHs
  subst hHs
  refine SeqK.nil ?_
  refine AW.reg ?_
  refine SeqK.q (q_add _ rfl rfl rfl (w64 (by omega) (by omega))) rfl rfl rfl ?_
  refine SeqK.q (q_mvC rfl rfl) rfl rfl rfl ?_
  refine SeqK.nil ?_
  first | with_reducible refine LoopW.again ?_ | with_reducible refine eth_n (LoopW.again ?_) | with_reducible refine eb_n (eth_n (LoopW.again ?_)) | with_reducible refine eth_n (eb_n (eth_n (LoopW.again ?_)))
  refine AW.seq ?_
  refine AW.reg ?_
  refine SeqK.q (q_lss rfl rfl rfl) rfl rfl rfl ?_
  refine SeqK.nil ?_
  refine AW.seq ?_
  refine AW.condF rfl ?_
  refine AW.exit ?_
  refine eth_e ?_
  refine eth_e ?_
  refine exit_here ?_
  refine AW.seq ?_
  refine AW.draw Fx.mo ?_
  refine LexK.q (q_mvC rfl rfl) rfl rfl rfl ?_
  refine LexK.q (q_mvC rfl rfl) rfl rfl rfl ?_
  refine LexK.q (q_mvC rfl rfl) rfl rfl rfl ?_
  refine LexK.q (q_nilH rfl rfl) rfl rfl rfl ?_
  refine LexK.q (q_fieldH _ rfl Fx.fl147_1 rfl rfl) rfl rfl rfl ?_
  refine LexK.q (q_fieldH _ rfl Fx.fl28_0 rfl rfl) rfl rfl rfl ?_
  refine LexK.r (g_load (r := .a _) rfl Fx.ty22 rfl (by (repeat rw [upd_ne _ _ (by first | assumption | exact Ne.symm (by assumption))]); first | assumption | exact upd_same _ _ _) rfl rfl rfl rfl) rfl ?_
  refine LexK.q (q_call _ rfl Fx.fn42 rfl (Pure.arg [] XW.nilU (sorted_0 .un)) rfl) rfl rfl rfl ?_
  refine LexK.q (q_mvC rfl rfl) rfl rfl rfl ?_
  refine LexK.q (q_nilH rfl rfl) rfl rfl rfl ?_
  refine LexK.q (q_fieldH _ rfl Fx.fl147_1 rfl rfl) rfl rfl rfl ?_
  refine LexK.q (q_fieldH _ rfl Fx.fl28_1 rfl rfl) rfl rfl rfl ?_
  refine LexK.r (g_load (r := .a _) rfl Fx.ty22 rfl (by (repeat rw [upd_ne _ _ (by first | assumption | exact Ne.symm (by assumption))]); first | assumption | exact upd_same _ _ _) rfl rfl rfl rfl) rfl ?_
  refine LexK.q (q_call _ rfl Fx.fn42 rfl ((sorted_1 .ne _).res XW.un) rfl) rfl rfl rfl ?_
  refine LexK.q (q_nilH rfl rfl) rfl rfl rfl ?_
  refine LexK.q (q_fieldH _ rfl Fx.fl147_1 rfl rfl) rfl rfl rfl ?_
  refine LexK.q (q_fieldH _ rfl Fx.fl28_0 rfl rfl) rfl rfl rfl ?_
  refine LexK.r (g_store rfl rfl Fx.ty22 rfl rfl (by (repeat rw [upd_ne _ _ (by first | assumption | exact Ne.symm (by assumption))]); first | assumption | exact upd_same _ _ _) rfl rfl rfl) rfl ?_
  refine LexK.q (q_nilH rfl rfl) rfl rfl rfl ?_
  refine LexK.q (q_fieldH _ rfl Fx.fl147_1 rfl rfl) rfl rfl rfl ?_
  refine LexK.q (q_fieldH _ rfl Fx.fl28_1 rfl rfl) rfl rfl rfl ?_
  refine LexK.r (g_store rfl rfl Fx.ty22 rfl rfl (by (repeat rw [upd_ne _ _ (by first | assumption | exact Ne.symm (by assumption))]); first | assumption | exact upd_same _ _ _) rfl rfl rfl) rfl ?_
  refine LexK.nil (by kernel_rfl) ?_
  refine AW.seq ?_
  refine AW.reg ?_
  refine SeqK.q (q_mvC rfl rfl) rfl rfl rfl ?_
  refine SeqK.q (q_nilH rfl rfl) rfl rfl rfl ?_
  refine SeqK.q (q_fieldH _ rfl Fx.fl147_1 rfl rfl) rfl rfl rfl ?_
  refine SeqK.r (g_load (r := .g [_, _, _, _, _, _, _]) rfl Fx.ty28 rfl (by (repeat rw [upd_ne _ _ (by first | assumption | exact Ne.symm (by assumption))]); first | assumption | exact upd_same _ _ _) rfl rfl rfl rfl) rfl ?_
  refine SeqK.r (b_store (r := [_, _, _, _, _, _, _]) rfl rfl Fx.ty28 rfl rfl rfl rfl rfl rfl) rfl ?_
  refine SeqK.nil ?_
  refine AW.ret ?_
  exact fin_x (x := .c _) (H) (.cellL rfl rfl Fx.ty28 rfl rfl .nil) rfl (fun j o h => by
    show upd (upd (upd H k10 _) k10 _) k10 _ j = _
    rw [upd_upd, upd_upd]; exact upd_sub hk10 j o h) (⟨rfl, rfl⟩)

theorem build_f : Pure Try.prog 64 [.a (.t (.sl .nn 10 [ltT false])), iC 1] (.c (clC (clB false))) := build_f0.res (XW.g (.cons XW.reA (.cons XW.reA (.cons XW.nilU (.cons XW.un (.cons XW.nilU (.cons XW.nilU (.cons XW.nilU .nil))))))))
theorem build_t : Pure Try.prog 64 [.a (.t (.sl .nn 10 [ltT true])), iC 1] (.c (clC (clB true))) := build_t0.res (XW.g (.cons XW.reA (.cons XW.reA (.cons XW.nilU (.cons XW.un (.cons XW.nilU (.cons XW.nilU (.cons XW.nilU .nil))))))))

set_option maxHeartbeats 4000000 in
set_option maxRecDepth 20000 in
theorem clauses_c0  : Pure Try.prog 24 [.g fmA, vsC .nn vs1] (.tup [.a (.t (.sl .ne 7 [clT (clB false), clT (clB true)])), iC 0]) := by
  intro H
  refine Spec.enter Try.func24 rfl ?_
  refine AW.wk (Wk.keep 31 [(0, .c (.g fmA)), (1, .c (vsC .nn vs1))] [] (H) rfl ⟨rfl, rfl, trivial⟩ trivial (fun _ _ h => h) rfl) ?_
  refine AW.seq ?_
  refine AW.reg ?_
  refine SeqK.r (b_box (r := [_, _, _, _, _, _, _, _, _, _, _]) rfl rfl rfl rfl rfl rfl) rfl ?_
  refine SeqK.q (q_asC rfl rfl) rfl rfl rfl ?_
  refine SeqK.q (q_asC rfl rfl) rfl rfl rfl ?_
  refine SeqK.nil ?_
  refine AW.seq ?_
  refine AW.reg ?_
  refine SeqK.r (b_load (r := .g [_, _, _, _, _, _, _, _, _, _, _]) rfl Fx.ty66 rfl rfl rfl rfl rfl rfl) rfl ?_
  refine SeqK.q (q_mvC rfl rfl) rfl rfl rfl ?_
  refine SeqK.q (q_call _ rfl Fx.fn61 rfl (simplify_c) rfl) rfl rfl rfl ?_
  refine SeqK.r (b_store (r := [_, _, _, _, _, _, _, _, _, _, _]) rfl rfl Fx.ty66 rfl rfl rfl rfl rfl rfl) rfl ?_
  refine SeqK.nil ?_
  refine AW.seq ?_
  refine AW.seq ?_
  refine AW.reg ?_
  refine SeqK.r (b_load (r := .g [_, _, _, _, _, _, _, _, _, _, _]) rfl Fx.ty66 rfl rfl rfl rfl rfl rfl) rfl ?_
  refine SeqK.q (q_call _ rfl Fx.fn62 rfl (count_c) rfl) rfl rfl rfl ?_
  refine SeqK.q (q_gtr rfl rfl rfl) rfl rfl rfl ?_
  refine SeqK.nil ?_
  refine AW.condF rfl ?_
  refine AW.skip ?_
  refine AW.seq ?_
  refine AW.reg ?_
  refine SeqK.q (q_asC rfl rfl) rfl rfl rfl ?_
  refine SeqK.nil ?_
  refine AW.seq ?_
  refine AW.seq ?_
  refine AW.reg ?_
  refine SeqK.r (b_load (r := .g [_, _, _, _, _, _, _, _, _, _, _]) rfl Fx.ty66 rfl rfl rfl rfl rfl rfl) rfl ?_
  refine SeqK.q (q_call _ rfl Fx.fn63 rfl (expand_c) rfl) rfl rfl rfl ?_
  refine SeqK.q (q_len rfl Fx.un114 rfl) rfl rfl rfl ?_
  refine SeqK.q (q_mvC rfl rfl) rfl rfl rfl ?_
  refine SeqK.nil ?_
  refine AW.block ?_
  refine AW.tip 6 28 7 rfl (fun k0 hk0 => ?_)
  refine AW.wk (Wk.keep 31 [(1, .c (vsC .nn vs1)), (6, .c (.a (.ts k0 .ne 7 []))), (16, .c (.a (.t (.sl .nn 1 [[.sl .nn 10 [ltT false]], [.sl .nn 10 [ltT true]]])))), (17, iX .i64 2), (18, iX .i64 0)] [] (upd H k0 (some (.tip 28 7 ([] : List (List E.T)).length))) rfl ⟨rfl, rfl, rfl, rfl, rfl, trivial⟩ trivial (fun _ _ h => h) rfl) ?_
  refine AW.unroll ?_
  refine AW.seq ?_
  refine AW.reg ?_
  refine SeqK.q (q_lss rfl rfl rfl) rfl rfl rfl ?_
  refine SeqK.nil ?_
  refine AW.seq ?_
  refine AW.condT rfl ?_
  refine AW.skip ?_
  refine AW.seq ?_
  refine AW.block ?_
  refine AW.seq ?_
  refine AW.reg ?_
  refine SeqK.q (q_index _ rfl Fx.sl114 rfl rfl (by omega) (rfl)) rfl rfl rfl ?_
  refine SeqK.q (q_load (.a _) rfl Fx.ty116 rfl rfl rfl) rfl rfl rfl ?_
  refine SeqK.q (q_asC rfl rfl) rfl rfl rfl ?_
  refine SeqK.nil ?_
  refine AW.reg ?_
  refine SeqK.q (q_mvC rfl rfl) rfl rfl rfl ?_
  refine SeqK.q (q_mvC rfl rfl) rfl rfl rfl ?_
  refine SeqK.q (q_mvC rfl rfl) rfl rfl rfl ?_
  refine SeqK.q (q_len rfl Fx.un29 rfl) rfl rfl rfl ?_
  refine SeqK.q (q_call _ rfl Fx.fn64 rfl (build_f) rfl) rfl rfl rfl ?_
  refine SeqK.q (q_buildSlice _ rfl Fx.el67 rfl (by decide) rfl) rfl rfl rfl ?_
  refine SeqK.app1 rfl (by assumption) rfl Fx.el67 rfl rfl (by simp) rfl rfl (fun k28 hk28 => ?_)
  refine SeqK.q (q_asC rfl rfl) rfl rfl rfl ?_
  refine SeqK.nil ?_
  refine AW.reg ?_
  refine SeqK.q (q_add _ rfl rfl rfl (w64 (by omega) (by omega))) rfl rfl rfl ?_
  refine SeqK.q (q_mvC rfl rfl) rfl rfl rfl ?_
  refine SeqK.nil ?_
  first | with_reducible refine LoopW.again ?_ | with_reducible refine eth_n (LoopW.again ?_) | with_reducible refine eb_n (eth_n (LoopW.again ?_)) | with_reducible refine eth_n (eb_n (eth_n (LoopW.again ?_)))
  refine AW.seq ?_
  refine AW.reg ?_
  refine SeqK.q (q_lss rfl rfl rfl) rfl rfl rfl ?_
  refine SeqK.nil ?_
  refine AW.seq ?_
  refine AW.condT rfl ?_
  refine AW.skip ?_
  refine AW.seq ?_
  refine AW.block ?_
  refine AW.seq ?_
  refine AW.reg ?_
  refine SeqK.q (q_index _ rfl Fx.sl114 rfl rfl (by omega) (rfl)) rfl rfl rfl ?_
  refine SeqK.q (q_load (.a _) rfl Fx.ty116 rfl rfl rfl) rfl rfl rfl ?_
  refine SeqK.q (q_asC rfl rfl) rfl rfl rfl ?_
  refine SeqK.nil ?_
  refine AW.reg ?_
  refine SeqK.q (q_mvC rfl rfl) rfl rfl rfl ?_
  refine SeqK.q (q_mvC rfl rfl) rfl rfl rfl ?_
  refine SeqK.q (q_mvC rfl rfl) rfl rfl rfl ?_
  refine SeqK.q (q_len rfl Fx.un29 rfl) rfl rfl rfl ?_
  refine SeqK.q (q_call _ rfl Fx.fn64 rfl (build_t) rfl) rfl rfl rfl ?_
  refine SeqK.q (q_buildSlice _ rfl Fx.el67 rfl (by decide) rfl) rfl rfl rfl ?_
  refine SeqK.app1 rfl (by assumption) rfl Fx.el67 rfl rfl (by simp) rfl rfl (fun k28 hk28 => ?_)
  refine SeqK.q (q_asC rfl rfl) rfl rfl rfl ?_
  refine SeqK.nil ?_
  refine AW.reg ?_
  refine SeqK.q (q_add _ rfl rfl rfl (w64 (by omega) (by omega))) rfl rfl rfl ?_
  refine SeqK.q (q_mvC rfl rfl) rfl rfl rfl ?_
  refine SeqK.nil ?_
  first | with_reducible refine LoopW.again ?_ | with_reducible refine eth_n (LoopW.again ?_) | with_reducible refine eb_n (eth_n (LoopW.again ?_)) | with_reducible refine eth_n (eb_n (eth_n (LoopW.again ?_)))
  refine AW.seq ?_
  refine AW.reg ?_
  refine SeqK.q (q_lss rfl rfl rfl) rfl rfl rfl ?_
  refine SeqK.nil ?_
  refine AW.seq ?_
  refine AW.condF rfl ?_
  refine AW.exit ?_
  refine eth_e ?_
  refine eth_e ?_
  refine exit_here ?_
  refine AW.seq ?_
  refine AW.reg ?_
  refine SeqK.q (q_mvC rfl rfl) rfl rfl rfl ?_
  refine SeqK.q (q_asC rfl rfl) rfl rfl rfl ?_
  refine SeqK.q (q_asC rfl rfl) rfl rfl rfl ?_
  refine SeqK.nil ?_
  refine AW.ret ?_
  exact fin_w (x := .tup [_, _]) (H) (.tmp rfl (.tmp rfl .nil)) rfl (fun j o h => upd_sub hk28 j o h) (⟨rfl, rfl⟩)

end Go.Proofs.Ytnmfjojhgfipcaa.W
namespace Go.Proofs.Ytnmfjojhgfipcaa.W
open Go.RowKit E
set_option linter.unusedVariables false
set_option linter.unusedSimpArgs false
set_option linter.unusedSectionVars false
theorem okC_of {c : Cl} {l : List Vr} {r : List RV} (hv : vldP c l) (hi : r.length = l.length) : okC c r := by
  obtain ⟨h1, h2, h3, h4, h5, h6, h7⟩ := hv
  have hb : ∀ (l' : List Ax), (bsF l.length l').length = l'.length := fun l' => bsF_len _ _
  refine ⟨fun j h => ?_, fun j h => ?_, fun j h => ⟨fun h0 => ?_, fun h0 => ?_⟩, fun j h => fun i hh => ?_, fun j h => ?_, fun j h => ?_, fun j h => ?_, fun a ha => ?_, fun a ha => ?_⟩
  · have := h1 j h; exact ⟨this.1, by rw [hi]; exact this.2.1⟩
  · have := h2 j h; exact ⟨this.1, by rw [hi]; exact this.2.1⟩
  · rcases h3 j h with ⟨_, _, _, k, _⟩ | ⟨k, _⟩
    · rw [hi]; exact k
    · exact absurd h0 k
  · rcases h3 j h with ⟨k, _⟩ | ⟨_, k, k2, _⟩
    · exact absurd k h0
    · refine ⟨k2, fun i hh => ?_⟩
      have := k.2.1 i hh
      rw [hb, List.length_take] at this
      have h8 := this.1
      rw [hi]; omega
  · have := (h4 j h).2.1 i hh
    rw [hb] at this
    have h8 := this.1
    rw [hi]; omega
  · have := (h5 j h).2.1; rw [hi]; exact this
  · have := h6 j h; rw [hi]; exact ⟨this.1.1, this.2.1.1⟩
  · have := h7 j h; rw [hi]; exact ⟨this.1.1, this.2.1.1⟩
  · obtain ⟨j, h, rfl⟩ := List.mem_iff_getElem.1 ha
    rcases h3 j h with ⟨_, _, k, _⟩ | ⟨_, k, _⟩
    · rw [k]; decide
    · have := k.1; exact ⟨by omega, by omega⟩
  · obtain ⟨j, h, rfl⟩ := List.mem_iff_getElem.1 ha
    have := (h4 j h).1; exact ⟨by omega, by omega⟩
theorem rg_clB (b : Bool) : rgC (clB b) := by cases b <;> exact ⟨by decide, by decide, by decide, by decide, by decide, by decide, by decide, by decide, by decide, by decide⟩
abbrev rwN (n : Int) : List RV := [⟨1, n, ⟨#[]⟩⟩]
theorem vld_clB (b : Bool) : vldP (clB b) vs1 := by cases b <;> decide +kernel
theorem valid_cn (b : Bool) : Pure Try.prog 20 [clC (clB b), vsC .nn vs1] (.c (bC true)) := by
  have := rvalid_any (clB b) vs1 .nn (rg_clB b) (by decide)
  rw [decide_eq_true (vld_clB b)] at this; exact this
theorem hol_any (b : Bool) (n : Int) : Pure Try.prog 10 [clC (clB b), rowC .nn (rwN n)] (.c (bC (decide (holP (clB b) (rwN n))))) :=
  holds_any (clB b) (rwN n) .nn (rg_clB b) (by simp) (fun v hv => by rw [List.mem_singleton.1 hv]; show (0 : Nat) ≤ _; omega) (okC_of (vld_clB b) rfl) (fun t ht => by cases b <;> cases ht)
theorem hol_c (b x : Bool) (n : Int) (h : decide (holP (clB b) (rwN n)) = x) : Pure Try.prog 10 [clC (clB b), rowC .nn (rwN n)] (.c (bC x)) := h ▸ hol_any b n

set_option maxHeartbeats 4000000 in
set_option maxRecDepth 20000 in
theorem awake_any  : Pure Try.prog 8 [] (.c (bC true)) := by
  intro H
  refine Spec.enter Try.func8 rfl ?_
  refine AW.wk (Wk.keep 75 [] [] (H) rfl trivial trivial (fun _ _ h => h) rfl) ?_
  refine AW.seq ?_
  refine AW.reg ?_
  refine SeqK.q (q_asC rfl rfl) rfl rfl rfl ?_
  refine SeqK.nil ?_
  refine AW.seq ?_
  refine AW.reg ?_
  refine SeqK.q (q_build2 (zs := [_, _, _, _, _]) (r := [_, _, _, _, _]) [(0, 1), (1, 1), (2, 1), (3, 1), (4, 1)] _ rfl Fx.ze53 rfl Fx.bp53 rfl rfl rfl rfl) rfl rfl rfl ?_
  refine SeqK.q (q_buildSlice _ rfl Fx.el29 rfl (by decide) rfl) rfl rfl rfl ?_
  refine SeqK.q (q_asC rfl rfl) rfl rfl rfl ?_
  refine SeqK.nil ?_
  refine AW.seq ?_
  refine AW.reg ?_
  refine SeqK.q (q_build2 (zs := [_, _, _, _, _]) (r := [_, _, _, _, _]) [(0, 1), (1, 1), (2, 1), (3, 1), (4, 1)] _ rfl Fx.ze56 rfl Fx.bp56 rfl rfl rfl rfl) rfl rfl rfl ?_
  refine SeqK.q (q_buildSlice _ rfl Fx.el57 rfl (by decide) rfl) rfl rfl rfl ?_
  refine SeqK.q (q_build2 (zs := [_, _]) (r := [_, _]) [(0, 1), (1, 1)] _ rfl Fx.ze59 rfl Fx.bp59 rfl rfl rfl rfl) rfl rfl rfl ?_
  refine SeqK.q (q_build2 (zs := [_, _, _, _, _, _, _, _, _]) (r := [_, _, _, _, _, _, _, _, _]) [(0, 1), (1, 1), (2, 1), (3, 2), (5, 4)] _ rfl Fx.ze63 rfl Fx.bp63 rfl rfl rfl rfl) rfl rfl rfl ?_
  refine SeqK.q (q_build2 (zs := [_, _, _, _, _, _, _, _, _, _, _]) (r := [_, _, _, _, _, _, _, _, _, _, _]) [(0, 1), (1, 9), (10, 1)] _ rfl Fx.ze66 rfl Fx.bp66 rfl rfl rfl rfl) rfl rfl rfl ?_
  refine SeqK.r (b_alloc (r := [_, _, _, _, _, _, _, _, _, _, _]) rfl rfl Fx.ze66 rfl rfl rfl rfl) rfl ?_
  refine SeqK.r (b_store (r := [_, _, _, _, _, _, _, _, _, _, _]) rfl rfl Fx.ty66 rfl rfl rfl rfl rfl rfl) rfl ?_
  refine SeqK.nil ?_
  refine AW.seq ?_
  refine AW.reg ?_
  refine SeqK.r (b_load (r := .g [_, _, _, _, _, _, _, _, _, _, _]) rfl Fx.ty66 rfl rfl rfl rfl rfl rfl) rfl ?_
  refine SeqK.q (q_mvC rfl rfl) rfl rfl rfl ?_
  refine SeqK.q (q_call _ rfl Fx.fn24 rfl (clauses_c0) rfl) rfl rfl rfl ?_
  refine SeqK.q (q_mvT rfl rfl) rfl rfl rfl ?_
  refine SeqK.q (q_extract _ rfl rfl rfl) rfl rfl rfl ?_
  refine SeqK.q (q_extract _ rfl rfl rfl) rfl rfl rfl ?_
  refine SeqK.q (q_asC rfl rfl) rfl rfl rfl ?_
  refine SeqK.q (q_asC rfl rfl) rfl rfl rfl ?_
  refine SeqK.nil ?_
  refine AW.seq ?_
  refine AW.seq ?_
  refine AW.reg ?_
  refine SeqK.q (q_mvC rfl rfl) rfl rfl rfl ?_
  refine SeqK.q (q_neq rfl rfl rfl) rfl rfl rfl ?_
  refine SeqK.q (q_mvC rfl rfl) rfl rfl rfl ?_
  refine SeqK.on (q_mvC rfl rfl) rfl rfl rfl rfl rfl ?_
  refine SeqK.on (q_len rfl Fx.un67 rfl) rfl rfl rfl rfl rfl ?_
  refine SeqK.on (q_neq rfl rfl rfl) rfl rfl rfl rfl rfl ?_
  refine SeqK.q (q_pkF rfl rfl rfl) rfl rfl rfl ?_
  refine SeqK.q (q_mvC rfl rfl) rfl rfl rfl ?_
  refine SeqK.on (q_mvC rfl rfl) rfl rfl rfl rfl rfl ?_
  refine SeqK.on (q_index _ rfl Fx.sl67 rfl rfl (by omega) (rfl)) rfl rfl rfl rfl rfl ?_
  refine SeqK.on (q_load (.g [_, _, _, _, _, _, _]) rfl Fx.ty28 rfl rfl rfl) rfl rfl rfl rfl rfl ?_
  refine SeqK.on (q_mvC rfl rfl) rfl rfl rfl rfl rfl ?_
  refine SeqK.on (q_call _ rfl Fx.fn20 rfl (valid_cn false) rfl) rfl rfl rfl rfl rfl ?_
  refine SeqK.on (q_not rfl rfl) rfl rfl rfl rfl rfl ?_
  refine SeqK.q (q_pkF rfl rfl rfl) rfl rfl rfl ?_
  refine SeqK.q (q_mvC rfl rfl) rfl rfl rfl ?_
  refine SeqK.on (q_mvC rfl rfl) rfl rfl rfl rfl rfl ?_
  refine SeqK.on (q_index _ rfl Fx.sl67 rfl rfl (by omega) (rfl)) rfl rfl rfl rfl rfl ?_
  refine SeqK.on (q_load (.g [_, _, _, _, _, _, _]) rfl Fx.ty28 rfl rfl rfl) rfl rfl rfl rfl rfl ?_
  refine SeqK.on (q_mvC rfl rfl) rfl rfl rfl rfl rfl ?_
  refine SeqK.on (q_call _ rfl Fx.fn20 rfl (valid_cn true) rfl) rfl rfl rfl rfl rfl ?_
  refine SeqK.on (q_not rfl rfl) rfl rfl rfl rfl rfl ?_
  refine SeqK.q (q_pkF rfl rfl rfl) rfl rfl rfl ?_
  refine SeqK.nil ?_
  refine AW.condF rfl ?_
  refine AW.skip ?_
  refine AW.seq ?_
  refine AW.reg ?_
  refine SeqK.q (q_build2 (zs := [_, _, _]) (r := [_, _, _]) [(0, 1), (1, 1), (2, 1)] _ rfl Fx.ze42 rfl Fx.bp42 rfl rfl rfl rfl) rfl rfl rfl ?_
  refine SeqK.q (q_buildSlice _ rfl Fx.el31 rfl (by decide) rfl) rfl rfl rfl ?_
  refine SeqK.q (q_build2 (zs := [_, _, _]) (r := [_, _, _]) [(0, 1), (1, 1), (2, 1)] _ rfl Fx.ze42 rfl Fx.bp42 rfl rfl rfl rfl) rfl rfl rfl ?_
  refine SeqK.q (q_buildSlice _ rfl Fx.el31 rfl (by decide) rfl) rfl rfl rfl ?_
  refine SeqK.q (q_asC rfl rfl) rfl rfl rfl ?_
  refine SeqK.q (q_asC rfl rfl) rfl rfl rfl ?_
  refine SeqK.nil ?_
  refine AW.seq ?_
  refine AW.reg ?_
  refine SeqK.q (q_mvC rfl rfl) rfl rfl rfl ?_
  refine SeqK.q (q_index _ rfl Fx.sl67 rfl rfl (by omega) (rfl)) rfl rfl rfl ?_
  refine SeqK.q (q_load (.g [_, _, _, _, _, _, _]) rfl Fx.ty28 rfl rfl rfl) rfl rfl rfl ?_
  refine SeqK.q (q_mvC rfl rfl) rfl rfl rfl ?_
  refine SeqK.q (q_call _ rfl Fx.fn10 rfl (hol_c false false 3 (by decide +kernel)) rfl) rfl rfl rfl ?_
  refine SeqK.q (q_not rfl rfl) rfl rfl rfl ?_
  refine SeqK.q (q_mvC rfl rfl) rfl rfl rfl ?_
  refine SeqK.on (q_mvC rfl rfl) rfl rfl rfl rfl rfl ?_
  refine SeqK.on (q_index _ rfl Fx.sl67 rfl rfl (by omega) (rfl)) rfl rfl rfl rfl rfl ?_
  refine SeqK.on (q_load (.g [_, _, _, _, _, _, _]) rfl Fx.ty28 rfl rfl rfl) rfl rfl rfl rfl rfl ?_
  refine SeqK.on (q_mvC rfl rfl) rfl rfl rfl rfl rfl ?_
  refine SeqK.on (q_call _ rfl Fx.fn10 rfl (hol_c true false 3 (by decide +kernel)) rfl) rfl rfl rfl rfl rfl ?_
  refine SeqK.on (q_not rfl rfl) rfl rfl rfl rfl rfl ?_
  refine SeqK.q (q_pkT rfl rfl rfl) rfl rfl rfl ?_
  refine SeqK.q (q_mvC rfl rfl) rfl rfl rfl ?_
  refine SeqK.on (q_mvC rfl rfl) rfl rfl rfl rfl rfl ?_
  refine SeqK.on (q_index _ rfl Fx.sl67 rfl rfl (by omega) (rfl)) rfl rfl rfl rfl rfl ?_
  refine SeqK.on (q_load (.g [_, _, _, _, _, _, _]) rfl Fx.ty28 rfl rfl rfl) rfl rfl rfl rfl rfl ?_
  refine SeqK.on (q_mvC rfl rfl) rfl rfl rfl rfl rfl ?_
  refine SeqK.on (q_call _ rfl Fx.fn10 rfl (hol_c false false 4 (by decide +kernel)) rfl) rfl rfl rfl rfl rfl ?_
  refine SeqK.on (q_mvC rfl rfl) rfl rfl rfl rfl rfl ?_
  refine SeqK.on (q_mvC rfl rfl) rfl rfl rfl rfl rfl ?_
  refine SeqK.on (q_index _ rfl Fx.sl67 rfl rfl (by omega) (rfl)) rfl rfl rfl rfl rfl ?_
  refine SeqK.on (q_load (.g [_, _, _, _, _, _, _]) rfl Fx.ty28 rfl rfl rfl) rfl rfl rfl rfl rfl ?_
  refine SeqK.on (q_mvC rfl rfl) rfl rfl rfl rfl rfl ?_
  refine SeqK.on (q_call _ rfl Fx.fn10 rfl (hol_c true true 4 (by decide +kernel)) rfl) rfl rfl rfl rfl rfl ?_
  refine SeqK.on (q_pkF rfl rfl rfl) rfl rfl rfl rfl rfl ?_
  refine SeqK.q (q_pkT rfl rfl rfl) rfl rfl rfl ?_
  refine SeqK.q (q_asC rfl rfl) rfl rfl rfl ?_
  refine SeqK.nil ?_
  refine AW.ret ?_
  exact fin_x (x := .c _) H (.tmp rfl .nil) rfl (fun _ _ h => h) ⟨rfl, rfl⟩

end Go.Proofs.Ytnmfjojhgfipcaa.W
namespace Go.Proofs.Ytnmfjojhgfipcaa.W
open Go.RowKit E
set_option linter.unusedVariables false
set_option linter.unusedSimpArgs false
set_option linter.unusedSectionVars false
end Go.Proofs.Ytnmfjojhgfipcaa.W
namespace Go.Proofs.Ytnmfjojhgfipcaa.W
open Go.RowKit E
set_option linter.unusedVariables false
set_option linter.unusedSimpArgs false
set_option linter.unusedSectionVars false
theorem rg_of {c : Cl} (h : ok28 c) : rgC c := by
  obtain ⟨h1, h2, h3, h4, h5, h6, h7, _⟩ := h
  refine ⟨by have := h1.1; omega, by have := h2.1; omega, by have := h3.1; omega, by have := h4.1; omega, by have := h5.1; omega, by have := h6.1; omega, by have := h7.1; omega, fun a ha => ?_, fun a ha => ?_, fun t ht => ?_⟩
  · have := (h3.2.2 a ha).1.2.1.1; omega
  · have := (h4.2.2 a ha).1.2.1.1; omega
  · have := (h5.2.2 t ht).2.2.2.1; omega
theorem rg_dom {l : List Vr} (h : ok29 l) : l.length ≤ 17592186044000 := by have := h.1; omega

end Go.Proofs.Ytnmfjojhgfipcaa.W
namespace Go.Proofs.Ytnmfjojhgfipcaa.W
open Go.RowKit E
set_option linter.unusedVariables false
set_option linter.unusedSimpArgs false
set_option linter.unusedSectionVars false
/-! patterns: the reachable places of a pattern -/
abbrev pat (p : List UInt8) (j : Nat) : UInt8 := p.getD j 0
abbrev shut (p : List UInt8) (f : Nat → Bool) : Prop := ∀ j, j < p.length → pat p j = 37 → f j = true → f (j + 1) = true
end Go.Proofs.Ytnmfjojhgfipcaa.W
namespace Go.Proofs.Ytnmfjojhgfipcaa.W
open Go.RowKit E
set_option linter.unusedVariables false
set_option linter.unusedSimpArgs false
set_option linter.unusedSectionVars false
abbrev blT (b : Bool) : List E.T := [.v (.bool b)]
abbrev tb (f : Nat → Bool) (m : Nat) : List Bool := (List.range m).map f
abbrev rwB (f : Nat → Bool) (m : Nat) : Option AO := some (.row 4 1 (rowE blT (tb f m)))

end Go.Proofs.Ytnmfjojhgfipcaa.W
namespace Go.Proofs.Ytnmfjojhgfipcaa.W
open Go.RowKit E
set_option linter.unusedVariables false
set_option linter.unusedSimpArgs false
set_option linter.unusedSectionVars false
abbrev HX (H : Heap) (kp kt kr : Nat) (p : ByteArray) (f : Nat → Bool) : Heap := upd (upd (upd H kp (some (.box [.t (.v (.string p))]))) kt (some (.box [.os kr 0 (p.size + 1) 1]))) kr (rwB f (p.size + 1))
structure NX (H : Heap) (kp kt kr : Nat) : Prop where
  p : H kp = none
  t : H kt = none
  r : H kr = none
  pt : kp ≠ kt
  pr : kp ≠ kr
  tr : kt ≠ kr
theorem NX.hp {H : Heap} {kp kt kr : Nat} {p : ByteArray} {f : Nat → Bool} (n : NX H kp kt kr) : HX H kp kt kr p f kp = some (.box [.t (.v (.string p))]) := by
  rw [HX, upd_ne _ _ n.pr, upd_ne _ _ n.pt, upd_same]
theorem NX.ht {H : Heap} {kp kt kr : Nat} {p : ByteArray} {f : Nat → Bool} (n : NX H kp kt kr) : HX H kp kt kr p f kt = some (.box [.os kr 0 (p.size + 1) 1]) := by
  rw [HX, upd_ne _ _ n.tr, upd_same]
theorem NX.hr {H : Heap} {kp kt kr : Nat} {p : ByteArray} {f : Nat → Bool} : HX H kp kt kr p f kr = rwB f (p.size + 1) := upd_same _ _ _
theorem NX.new {H : Heap} {kp kt kr kn : Nat} {p : ByteArray} {f : Nat → Bool} (n : NX H kp kt kr) (h : HX H kp kt kr p f kn = none) : NX H kp kt kn ∧ kr ≠ kn := by
  obtain ⟨h1, h⟩ := upd_lt h
  obtain ⟨h2, h⟩ := upd_lt h
  obtain ⟨h3, h⟩ := upd_lt h
  exact ⟨⟨n.p, n.t, h, n.pt, fun e => h3 e.symm, fun e => h2 e.symm⟩, fun e => h1 e.symm⟩
theorem NX.sub {H : Heap} {kp kt kr : Nat} {p : ByteArray} {f : Nat → Bool} (n : NX H kp kt kr) : ∀ i o, H i = some o → HX H kp kt kr p f i = some o := fun i o h => by
  rw [HX, upd_ne _ _ (fun e => by subst e; rw [n.r] at h; cases h), upd_ne _ _ (fun e => by subst e; rw [n.t] at h; cases h), upd_ne _ _ (fun e => by subst e; rw [n.p] at h; cases h)]; exact h

theorem NX.start {H : Heap} {kp kt kr : Nat} {p : ByteArray} {f : Nat → Bool} {B0 : Option AO} (n : NX H kp kt kr) :
    ∀ i o, HX H kp kt kr p f i = some o → upd (upd (upd (upd H kp (some (.box [.t (.v (.string p))]))) kr (rwB f (p.size + 1))) kt B0) kt (some (.box [.os kr 0 (p.size + 1) 1])) i = some o := fun i o h => by
  rw [upd_upd]
  by_cases e1 : i = kr
  · subst e1; rw [HX, upd_same] at h; rw [upd_ne _ _ (fun e => n.tr e.symm), upd_same]; exact h
  · rw [HX, upd_ne _ _ e1] at h
    by_cases e2 : i = kt
    · subst e2; rw [upd_same] at h ⊢; exact h
    · rw [upd_ne _ _ e2] at h ⊢
      rw [upd_ne _ _ e1]; exact h
end Go.Proofs.Ytnmfjojhgfipcaa.W
namespace Go.Proofs.Ytnmfjojhgfipcaa.W
open Go.RowKit E
set_option linter.unusedVariables false
set_option linter.unusedSimpArgs false
set_option linter.unusedSectionVars false
end Go.Proofs.Ytnmfjojhgfipcaa.W
namespace Go.Proofs.Ytnmfjojhgfipcaa.W
open Go.RowKit E
set_option linter.unusedVariables false
set_option linter.unusedSimpArgs false
set_option linter.unusedSectionVars false
/-! two texts compared -/
end Go.Proofs.Ytnmfjojhgfipcaa.W
namespace Go.Proofs.Ytnmfjojhgfipcaa.W
open Go.RowKit E
set_option linter.unusedVariables false
set_option linter.unusedSimpArgs false
set_option linter.unusedSectionVars false
end Go.Proofs.Ytnmfjojhgfipcaa.W
namespace Go.Proofs.Ytnmfjojhgfipcaa.W
open Go.RowKit E
set_option linter.unusedVariables false
set_option linter.unusedSimpArgs false
set_option linter.unusedSectionVars false

end Go.Proofs.Ytnmfjojhgfipcaa.W
namespace Go.Proofs.Ytnmfjojhgfipcaa.W
open Go.RowKit E
set_option linter.unusedVariables false
set_option linter.unusedSimpArgs false
set_option linter.unusedSectionVars false
theorem idxOf_first : ∀ {l : List Int} {i : Nat} {n : Int} (h : i < l.length), l[i] = n → (∀ j (h : j < l.length), j < i → l[j] ≠ n) → l.idxOf n = i
  | x :: r, 0, n, h, e, _ => by
    have e : x = n := e
    rw [e]; simp
  | x :: r, i + 1, n, h, e, hU => by
    have h0 : x ≠ n := hU 0 (by simp) (by omega)
    have := idxOf_first (l := r) (i := i) (n := n) (by simpa using h) e (fun j hj hji => hU (j + 1) (by simpa using hj) (by omega))
    rw [List.idxOf_cons, this, beq_false_of_ne h0]; rfl
theorem idx_ub {l : List UInt8} {i : Nat} (h : i < l.length) : (l.map ubT)[i]? = some (ubT l[i]) := by rw [List.getElem?_map, List.getElem?_eq_getElem h]; rfl
abbrev absN (n : Int) : Int := (n.natAbs : Int)
theorem neg_u64 {n : Int} (h : n < 0) (h' : -9223372036854775808 ≤ n) : IntKind.u64.wrap (0 - (n + 18446744073709551616)) = absN n := by
  simp only [IntKind.wrap, IntKind.bits, IntKind.signed, Bool.false_and, Bool.false_eq_true, if_false]; show _ = (n.natAbs : Int); omega

set_option maxRecDepth 20000 in
theorem dasc_any (l : List Int) (z : Nz) (n : Int) (hL : l.length ≤ 17592186044000) : Pure Try.prog 54 [iL z l, iC n] (.c (bC (decide (ascP l n)))) := by
  intro H
  refine Spec.enter Try.func54 rfl ?_
  refine AW.wk (Wk.keep 35 [(0, .c (iL z l)), (1, .c (iC n))] [] (H) rfl ⟨rfl, rfl, trivial⟩ trivial (fun _ _ h => h) rfl) ?_
  refine AW.seq ?_
  refine AW.reg ?_
  refine SeqK.q (q_asC rfl rfl) rfl rfl rfl ?_
  refine SeqK.nil ?_
  refine AW.seq ?_
  refine AW.seq ?_
  refine AW.reg ?_
  refine SeqK.q (q_mvC rfl rfl) rfl rfl rfl ?_
  refine SeqK.q (q_len rfl Fx.un22 rfl) rfl rfl rfl ?_
  refine SeqK.q (q_mvC rfl rfl) rfl rfl rfl ?_
  refine SeqK.nil ?_
  refine AW.block ?_
  refine AW.loop (fun (i : Nat) s => (i ≤ l.length ∧ ∀ j (h : j < l.length), j < i → ascQ l n j h) ∧ s = ⟨35, sp [(0, .c (iL z l)), (1, .c (iC n)), (4, .c (bC false)), (7, .c (iL z l)), (8, iX .i64 (((l.map i64T).length : Nat) : Int)), (9, iX .i64 ((i : Nat) : Int))], lv [], H⟩) (fun i => l.length - i) 0 ⟨_, Wk.keep 35 [(0, .c (iL z l)), (1, .c (iC n)), (4, .c (bC false)), (7, .c (iL z l)), (8, iX .i64 (((l.map i64T).length : Nat) : Int)), (9, iX .i64 ((((0 : Nat)) : Nat) : Int))] [] (H) rfl ⟨rfl, rfl, rfl, rfl, rfl, rfl, trivial⟩ trivial (fun _ _ h => h) rfl, ⟨Nat.zero_le _, up0⟩, rfl⟩ (fun i s hs => ?_)
  obtain ⟨⟨hi0, hU⟩, rfl⟩ := hs
  refine AW.seq ?_
  refine AW.reg ?_
  refine SeqK.q (q_lss rfl rfl rfl) rfl rfl rfl ?_
  refine SeqK.nil ?_
  refine AW.seq ?_
  refine AW.condD rfl (fun h10 => ?_) (fun h10 => ?_)
  ·
    have hi : i < l.length := by rw [List.length_map] at h10; omega
    refine AW.skip ?_
    refine AW.seq ?_
    refine AW.block ?_
    refine AW.seq ?_
    refine AW.reg ?_
    refine SeqK.q (q_mvC rfl rfl) rfl rfl rfl ?_
    refine SeqK.q (q_index _ rfl Fx.sl22 rfl rfl (by omega) (idx_map (f := i64T) hi)) rfl rfl rfl ?_
    refine SeqK.q (q_load (.a _) rfl Fx.ty3 rfl rfl rfl) rfl rfl rfl ?_
    refine SeqK.q (q_asC rfl rfl) rfl rfl rfl ?_
    refine SeqK.q (q_asC rfl rfl) rfl rfl rfl ?_
    refine SeqK.nil ?_
    refine AW.seq ?_
    refine AW.reg ?_
    refine SeqK.q (q_mvC rfl rfl) rfl rfl rfl ?_
    refine SeqK.q (q_lss rfl rfl rfl) rfl rfl rfl ?_
    refine SeqK.qD (q_mvC rfl rfl) rfl rfl rfl (fun g16 => ?_) (fun g16 => ?_)
    ·
      refine SeqK.off rfl rfl rfl rfl rfl rfl ?_
      refine SeqK.off rfl rfl rfl rfl rfl rfl ?_
      refine SeqK.off rfl rfl rfl rfl rfl rfl ?_
      refine SeqK.q (q_pkT rfl rfl rfl) rfl rfl rfl ?_
      refine SeqK.q (q_mvC rfl rfl) rfl rfl rfl ?_
      refine SeqK.off rfl rfl rfl rfl rfl rfl ?_
      refine SeqK.off rfl rfl rfl rfl rfl rfl ?_
      refine SeqK.off rfl rfl rfl rfl rfl rfl ?_
      refine SeqK.offU rfl rfl rfl rfl rfl ?_
      refine SeqK.offU rfl rfl rfl rfl rfl ?_
      refine SeqK.offU rfl rfl rfl rfl rfl ?_
      refine SeqK.offU rfl rfl rfl rfl rfl ?_
      refine SeqK.offU rfl rfl rfl rfl rfl ?_
      refine SeqK.offU rfl rfl rfl rfl rfl ?_
      refine SeqK.offU rfl rfl rfl rfl rfl ?_
      refine SeqK.off rfl rfl rfl rfl rfl rfl ?_
      refine SeqK.q (q_pkT rfl rfl rfl) rfl rfl rfl ?_
      refine SeqK.nil ?_
      refine AW.condT rfl ?_
      refine AW.seq ?_
      refine AW.reg ?_
      refine SeqK.q (q_asC rfl rfl) rfl rfl rfl ?_
      refine SeqK.nil ?_
      refine AW.ret ?_
      exact fin_x (x := .c _) (H) (.tmp rfl .nil) rfl (fun _ _ h => h) (⟨bCe (dF (upN hi fun ⟨k1, k2, k3⟩ => by first | omega | (have := k3 (by omega); omega))), rfl⟩)
    ·
      refine SeqK.on (q_mvC rfl rfl) rfl rfl rfl rfl rfl ?_
      refine SeqK.on (q_mvC rfl rfl) rfl rfl rfl rfl rfl ?_
      refine SeqK.on (q_geq rfl rfl rfl) rfl rfl rfl rfl rfl ?_
      refine SeqK.q (q_pkF rfl rfl rfl) rfl rfl rfl ?_
      refine SeqK.qD (q_mvC rfl rfl) rfl rfl rfl (fun g21 => ?_) (fun g21 => ?_)
      ·
        refine SeqK.off rfl rfl rfl rfl rfl rfl ?_
        refine SeqK.off rfl rfl rfl rfl rfl rfl ?_
        refine SeqK.off rfl rfl rfl rfl rfl rfl ?_
        refine SeqK.offU rfl rfl rfl rfl rfl ?_
        refine SeqK.offU rfl rfl rfl rfl rfl ?_
        refine SeqK.offU rfl rfl rfl rfl rfl ?_
        refine SeqK.offU rfl rfl rfl rfl rfl ?_
        refine SeqK.offU rfl rfl rfl rfl rfl ?_
        refine SeqK.offU rfl rfl rfl rfl rfl ?_
        refine SeqK.offU rfl rfl rfl rfl rfl ?_
        refine SeqK.off rfl rfl rfl rfl rfl rfl ?_
        refine SeqK.q (q_pkT rfl rfl rfl) rfl rfl rfl ?_
        refine SeqK.nil ?_
        refine AW.condT rfl ?_
        refine AW.seq ?_
        refine AW.reg ?_
        refine SeqK.q (q_asC rfl rfl) rfl rfl rfl ?_
        refine SeqK.nil ?_
        refine AW.ret ?_
        exact fin_x (x := .c _) (H) (.tmp rfl .nil) rfl (fun _ _ h => h) (⟨bCe (dF (upN hi fun ⟨k1, k2, k3⟩ => by first | omega | (have := k3 (by omega); omega))), rfl⟩)
      ·
        refine SeqK.on (q_mvC rfl rfl) rfl rfl rfl rfl rfl ?_
        refine SeqK.on (q_gtr rfl rfl rfl) rfl rfl rfl rfl rfl ?_
        refine SeqK.onD (q_mvC rfl rfl) rfl rfl rfl rfl rfl (fun g24 => ?_) (fun g24 => ?_)
        ·
          refine SeqK.on (q_mvC rfl rfl) rfl rfl rfl rfl rfl ?_
          refine SeqK.on (q_mvC rfl rfl) rfl rfl rfl rfl rfl ?_
          refine SeqK.on (q_mvC rfl rfl) rfl rfl rfl rfl rfl ?_
          refine SeqK.on (q_sub _ rfl rfl rfl ((by rw [w64 (by omega) (by omega)]; omega : IntKind.i64.wrap _ = ((i - 1 : Nat) : Int)))) rfl rfl rfl rfl rfl ?_
          refine SeqK.on (q_index _ rfl Fx.sl22 rfl rfl (by omega) (idx_map (f := i64T) (show i - 1 < l.length by omega))) rfl rfl rfl rfl rfl ?_
          refine SeqK.on (q_load (.a _) rfl Fx.ty3 rfl rfl rfl) rfl rfl rfl rfl rfl ?_
          refine SeqK.on (q_leq rfl rfl rfl) rfl rfl rfl rfl rfl ?_
          refine SeqK.on (q_pkT rfl rfl rfl) rfl rfl rfl rfl rfl ?_
          refine SeqK.q (q_pkF rfl rfl rfl) rfl rfl rfl ?_
          refine SeqK.nil ?_
          refine AW.condD rfl (fun h33 => ?_) (fun h33 => ?_)
          ·
            refine AW.seq ?_
            refine AW.reg ?_
            refine SeqK.q (q_asC rfl rfl) rfl rfl rfl ?_
            refine SeqK.nil ?_
            refine AW.ret ?_
            exact fin_x (x := .c _) (H) (.tmp rfl .nil) rfl (fun _ _ h => h) (⟨bCe (dF (upN hi fun ⟨k1, k2, k3⟩ => by first | omega | (have := k3 (by omega); omega))), rfl⟩)
          ·
            refine AW.skip ?_
            refine AW.reg ?_
            refine SeqK.q (q_add _ rfl rfl rfl (w64 (by omega) (by omega))) rfl rfl rfl ?_
            refine SeqK.q (q_mvC rfl rfl) rfl rfl rfl ?_
            refine SeqK.nil ?_
            exact ⟨i + 1, _, Wk.keep 35 [(0, .c (iL z l)), (1, .c (iC n)), (4, .c (bC false)), (7, .c (iL z l)), (8, iX .i64 (((l.map i64T).length : Nat) : Int)), (9, iX .i64 (((i + 1) : Nat) : Int))] [] (H) rfl ⟨rfl, rfl, rfl, rfl, rfl, rfl, trivial⟩ trivial (fun _ _ h => h) rfl, by omega, ⟨hi, upS hi hU ⟨by omega, by omega, fun h0 => by omega⟩⟩, rfl⟩
        ·
          refine SeqK.off rfl rfl rfl rfl rfl rfl ?_
          refine SeqK.off rfl rfl rfl rfl rfl rfl ?_
          refine SeqK.off rfl rfl rfl rfl rfl rfl ?_
          refine SeqK.off rfl rfl rfl rfl rfl rfl ?_
          refine SeqK.off rfl rfl rfl rfl rfl rfl ?_
          refine SeqK.off rfl rfl rfl rfl rfl rfl ?_
          refine SeqK.off rfl rfl rfl rfl rfl rfl ?_
          refine SeqK.on (q_pkF rfl rfl rfl) rfl rfl rfl rfl rfl ?_
          refine SeqK.q (q_pkF rfl rfl rfl) rfl rfl rfl ?_
          refine SeqK.nil ?_
          refine AW.condF rfl ?_
          refine AW.skip ?_
          refine AW.reg ?_
          refine SeqK.q (q_add _ rfl rfl rfl (w64 (by omega) (by omega))) rfl rfl rfl ?_
          refine SeqK.q (q_mvC rfl rfl) rfl rfl rfl ?_
          refine SeqK.nil ?_
          exact ⟨i + 1, _, Wk.keep 35 [(0, .c (iL z l)), (1, .c (iC n)), (4, .c (bC false)), (7, .c (iL z l)), (8, iX .i64 (((l.map i64T).length : Nat) : Int)), (9, iX .i64 (((i + 1) : Nat) : Int))] [] (H) rfl ⟨rfl, rfl, rfl, rfl, rfl, rfl, trivial⟩ trivial (fun _ _ h => h) rfl, by omega, ⟨hi, upS hi hU ⟨by omega, by omega, fun h0 => by omega⟩⟩, rfl⟩
  ·
    refine AW.exit ?_
    refine eth_e ?_
    refine eth_e ?_
    refine exit_here ?_
    refine AW.seq ?_
    refine AW.reg ?_
    refine SeqK.q (q_asC rfl rfl) rfl rfl rfl ?_
    refine SeqK.nil ?_
    refine AW.ret ?_
    exact fin_x (x := .c _) (H) (.tmp rfl .nil) rfl (fun _ _ h => h) (⟨bCe (dT (upE hU (by rw [List.length_map] at h10; omega))), rfl⟩)

set_option maxRecDepth 20000 in
theorem dprn_any (u : ByteArray) (hs : u.size ≤ 1000000000000000) : Pure Try.prog 60 [sC u] (.c (bC (decide (prnP u ∧ u.size ≤ 16)))) := by
  intro H
  refine Spec.enter Try.func60 rfl ?_
  refine AW.wk (Wk.keep 22 [(0, .c (sC u))] [] (H) rfl ⟨rfl, trivial⟩ trivial (fun _ _ h => h) rfl) ?_
  refine AW.seq ?_
  refine AW.reg ?_
  refine SeqK.q (q_asC rfl rfl) rfl rfl rfl ?_
  refine SeqK.nil ?_
  refine AW.seq ?_
  refine AW.seq ?_
  have hl := ba_len u
  refine AW.reg ?_
  refine SeqK.q (q_mvC rfl rfl) rfl rfl rfl ?_
  refine SeqK.q (q_convSB rfl Fx.un9 Fx.un141 Fx.un5 rfl) rfl rfl rfl ?_
  refine SeqK.q (q_len rfl Fx.un141 rfl) rfl rfl rfl ?_
  refine SeqK.q (q_mvC rfl rfl) rfl rfl rfl ?_
  refine SeqK.nil ?_
  refine AW.block ?_
  refine AW.loop (fun (i : Nat) s => (i ≤ u.size ∧ ∀ j (h : j < u.data.toList.length), j < i → 32 ≤ u.data.toList[j].toNat ∧ u.data.toList[j].toNat ≤ 126) ∧ s = ⟨22, sp [(0, .c (sC u)), (2, .c (bC false)), (6, .c (.a (.t (.sl .un 1 (u.data.toList.map ubT))))), (7, iX .i64 (((u.data.toList.map ubT).length : Nat) : Int)), (8, iX .i64 ((i : Nat) : Int))], lv [], H⟩) (fun i => u.size - i) 0 ⟨_, Wk.keep 22 [(0, .c (sC u)), (2, .c (bC false)), (6, .c (.a (.t (.sl .un 1 (u.data.toList.map ubT))))), (7, iX .i64 (((u.data.toList.map ubT).length : Nat) : Int)), (8, iX .i64 ((((0 : Nat)) : Nat) : Int))] [] (H) rfl ⟨rfl, rfl, rfl, rfl, rfl, trivial⟩ trivial (fun _ _ h => h) rfl, ⟨Nat.zero_le _, up0⟩, rfl⟩ (fun i s hs => ?_)
  obtain ⟨⟨hi0, hU⟩, rfl⟩ := hs
  refine AW.seq ?_
  refine AW.reg ?_
  refine SeqK.q (q_lss rfl rfl rfl) rfl rfl rfl ?_
  refine SeqK.nil ?_
  refine AW.seq ?_
  refine AW.condD rfl (fun h9 => ?_) (fun h9 => ?_)
  ·
    have hi : i < u.data.toList.length := by rw [List.length_map] at h9; omega
    refine AW.skip ?_
    refine AW.seq ?_
    refine AW.block ?_
    refine AW.seq ?_
    refine AW.reg ?_
    refine SeqK.q (q_index _ rfl Fx.sl141 rfl rfl (by omega) (idx_ub hi)) rfl rfl rfl ?_
    refine SeqK.q (q_load (.a _) rfl Fx.ty5 rfl rfl rfl) rfl rfl rfl ?_
    refine SeqK.q (q_asC rfl rfl) rfl rfl rfl ?_
    refine SeqK.nil ?_
    refine AW.seq ?_
    refine AW.reg ?_
    refine SeqK.q (q_mvC rfl rfl) rfl rfl rfl ?_
    refine SeqK.q (q_lss rfl rfl rfl) rfl rfl rfl ?_
    refine SeqK.qD (q_mvC rfl rfl) rfl rfl rfl (fun g14 => ?_) (fun g14 => ?_)
    ·
      refine SeqK.off rfl rfl rfl rfl rfl rfl ?_
      refine SeqK.off rfl rfl rfl rfl rfl rfl ?_
      refine SeqK.q (q_pkT rfl rfl rfl) rfl rfl rfl ?_
      refine SeqK.nil ?_
      refine AW.condT rfl ?_
      refine AW.seq ?_
      refine AW.reg ?_
      refine SeqK.q (q_asC rfl rfl) rfl rfl rfl ?_
      refine SeqK.nil ?_
      refine AW.ret ?_
      exact fin_x (x := .c _) (H) (.tmp rfl .nil) rfl (fun _ _ h => h) (⟨bCe (dF (fun hv => upN (Q := fun j h => 32 ≤ u.data.toList[j].toNat ∧ u.data.toList[j].toNat ≤ 126) hi (by omega) hv.1)), rfl⟩)
    ·
      refine SeqK.on (q_mvC rfl rfl) rfl rfl rfl rfl rfl ?_
      refine SeqK.on (q_gtr rfl rfl rfl) rfl rfl rfl rfl rfl ?_
      refine SeqK.q (q_pkF rfl rfl rfl) rfl rfl rfl ?_
      refine SeqK.nil ?_
      refine AW.condD rfl (fun h17 => ?_) (fun h17 => ?_)
      ·
        refine AW.seq ?_
        refine AW.reg ?_
        refine SeqK.q (q_asC rfl rfl) rfl rfl rfl ?_
        refine SeqK.nil ?_
        refine AW.ret ?_
        exact fin_x (x := .c _) (H) (.tmp rfl .nil) rfl (fun _ _ h => h) (⟨bCe (dF (fun hv => upN (Q := fun j h => 32 ≤ u.data.toList[j].toNat ∧ u.data.toList[j].toNat ≤ 126) hi (by omega) hv.1)), rfl⟩)
      ·
        refine AW.skip ?_
        refine AW.reg ?_
        refine SeqK.q (q_add _ rfl rfl rfl (w64 (by omega) (by omega))) rfl rfl rfl ?_
        refine SeqK.q (q_mvC rfl rfl) rfl rfl rfl ?_
        refine SeqK.nil ?_
        exact ⟨i + 1, _, Wk.keep 22 [(0, .c (sC u)), (2, .c (bC false)), (6, .c (.a (.t (.sl .un 1 (u.data.toList.map ubT))))), (7, iX .i64 (((u.data.toList.map ubT).length : Nat) : Int)), (8, iX .i64 (((i + 1) : Nat) : Int))] [] (H) rfl ⟨rfl, rfl, rfl, rfl, rfl, trivial⟩ trivial (fun _ _ h => h) rfl, by omega, ⟨by omega, upS hi hU (by omega)⟩, rfl⟩
  ·
    refine AW.exit ?_
    refine eth_e ?_
    refine eth_e ?_
    refine exit_here ?_
    refine AW.seq ?_
    have hV := upE hU (by rw [List.length_map] at h9; omega)
    refine AW.reg ?_
    refine SeqK.q (q_mvC rfl rfl) rfl rfl rfl ?_
    refine SeqK.q (q_lenS rfl Fx.un9 rfl) rfl rfl rfl ?_
    refine SeqK.q (q_leq rfl rfl rfl) rfl rfl rfl ?_
    refine SeqK.q (q_asC rfl rfl) rfl rfl rfl ?_
    refine SeqK.nil ?_
    refine AW.ret ?_
    exact fin_x (x := .c _) (H) (.tmp rfl .nil) rfl (fun _ _ h => h) (⟨bCe (by first | exact dI ⟨fun h => ⟨hV, by omega⟩, fun h => by have := h.2; omega⟩), rfl⟩)

set_option maxRecDepth 20000 in
theorem didx_any (l : List Int) (z : Nz) (n : Int) (hL : l.length ≤ 17592186044000) : Pure Try.prog 83 [iL z l, iC n] (.c (iC (if n ∈ l then ((l.idxOf n : Nat) : Int) else -1))) := by
  intro H
  refine Spec.enter Try.func83 rfl ?_
  refine AW.wk (Wk.keep 19 [(0, .c (iL z l)), (1, .c (iC n))] [] (H) rfl ⟨rfl, rfl, trivial⟩ trivial (fun _ _ h => h) rfl) ?_
  refine AW.seq ?_
  refine AW.reg ?_
  refine SeqK.q (q_asC rfl rfl) rfl rfl rfl ?_
  refine SeqK.nil ?_
  refine AW.seq ?_
  refine AW.seq ?_
  refine AW.reg ?_
  refine SeqK.q (q_mvC rfl rfl) rfl rfl rfl ?_
  refine SeqK.q (q_len rfl Fx.un22 rfl) rfl rfl rfl ?_
  refine SeqK.q (q_mvC rfl rfl) rfl rfl rfl ?_
  refine SeqK.nil ?_
  refine AW.block ?_
  refine AW.loop (fun (i : Nat) s => (i ≤ l.length ∧ ∀ j (h : j < l.length), j < i → l[j] ≠ n) ∧ s = ⟨19, sp [(0, .c (iL z l)), (1, .c (iC n)), (7, iX .i64 (((l.map i64T).length : Nat) : Int)), (8, iX .i64 ((i : Nat) : Int))], lv [], H⟩) (fun i => l.length - i) 0 ⟨_, Wk.keep 19 [(0, .c (iL z l)), (1, .c (iC n)), (7, iX .i64 (((l.map i64T).length : Nat) : Int)), (8, iX .i64 ((((0 : Nat)) : Nat) : Int))] [] (H) rfl ⟨rfl, rfl, rfl, rfl, trivial⟩ trivial (fun _ _ h => h) rfl, ⟨Nat.zero_le _, up0⟩, rfl⟩ (fun i s hs => ?_)
  obtain ⟨⟨hi0, hU⟩, rfl⟩ := hs
  refine AW.seq ?_
  refine AW.reg ?_
  refine SeqK.q (q_lss rfl rfl rfl) rfl rfl rfl ?_
  refine SeqK.nil ?_
  refine AW.seq ?_
  refine AW.condD rfl (fun h9 => ?_) (fun h9 => ?_)
  ·
    have hi : i < l.length := by rw [List.length_map] at h9; omega
    refine AW.skip ?_
    refine AW.seq ?_
    refine AW.block ?_
    refine AW.seq ?_
    refine AW.reg ?_
    refine SeqK.q (q_mvC rfl rfl) rfl rfl rfl ?_
    refine SeqK.q (q_asC rfl rfl) rfl rfl rfl ?_
    refine SeqK.nil ?_
    refine AW.seq ?_
    refine AW.reg ?_
    refine SeqK.q (q_mvC rfl rfl) rfl rfl rfl ?_
    refine SeqK.q (q_mvC rfl rfl) rfl rfl rfl ?_
    refine SeqK.q (q_mvC rfl rfl) rfl rfl rfl ?_
    refine SeqK.q (q_index _ rfl Fx.sl22 rfl rfl (by omega) (idx_map (f := i64T) hi)) rfl rfl rfl ?_
    refine SeqK.q (q_load (.a _) rfl Fx.ty3 rfl rfl rfl) rfl rfl rfl ?_
    refine SeqK.q (q_eql rfl rfl rfl) rfl rfl rfl ?_
    refine SeqK.nil ?_
    refine AW.condD rfl (fun h16 => ?_) (fun h16 => ?_)
    ·
      refine AW.seq ?_
      refine AW.reg ?_
      refine SeqK.q (q_mvC rfl rfl) rfl rfl rfl ?_
      refine SeqK.q (q_asC rfl rfl) rfl rfl rfl ?_
      refine SeqK.nil ?_
      refine AW.ret ?_
      exact fin_x (x := .c _) (H) (.tmp rfl .nil) rfl (fun _ _ h => h) (⟨iCe (by
        have hm : n ∈ l := by rw [h16]; exact List.getElem_mem hi
        have hx : l.idxOf n = i := idxOf_first hi h16.symm hU
        rw [if_pos hm, hx]), rfl⟩)
    ·
      refine AW.skip ?_
      refine AW.reg ?_
      refine SeqK.q (q_add _ rfl rfl rfl (w64 (by omega) (by omega))) rfl rfl rfl ?_
      refine SeqK.q (q_mvC rfl rfl) rfl rfl rfl ?_
      refine SeqK.nil ?_
      exact ⟨i + 1, _, Wk.keep 19 [(0, .c (iL z l)), (1, .c (iC n)), (7, iX .i64 (((l.map i64T).length : Nat) : Int)), (8, iX .i64 (((i + 1) : Nat) : Int))] [] (H) rfl ⟨rfl, rfl, rfl, rfl, trivial⟩ trivial (fun _ _ h => h) rfl, by omega, ⟨hi, upS hi hU (fun e => h16 e.symm)⟩, rfl⟩
  ·
    refine AW.exit ?_
    refine eth_e ?_
    refine eth_e ?_
    refine exit_here ?_
    refine AW.seq ?_
    refine AW.reg ?_
    refine SeqK.q (q_asC rfl rfl) rfl rfl rfl ?_
    refine SeqK.nil ?_
    refine AW.ret ?_
    exact fin_x (x := .c _) (H) (.tmp rfl .nil) rfl (fun _ _ h => h) (⟨iCe (by
      have hm : n ∉ l := fun hm => by
        obtain ⟨j, hj, e⟩ := List.mem_iff_getElem.1 hm
        exact upE hU (by rw [List.length_map] at h9; omega) j hj e
      rw [if_neg hm]), rfl⟩)

set_option maxRecDepth 20000 in
theorem dhas_any (l : List Int) (z : Nz) (n : Int) (hL : l.length ≤ 17592186044000) : Pure Try.prog 56 [iL z l, iC n] (.c (bC (decide (n ∈ l)))) := by
  intro H
  refine Spec.enter Try.func56 rfl ?_
  refine AW.wk (Wk.keep 9 [(0, .c (iL z l)), (1, .c (iC n))] [] (H) rfl ⟨rfl, rfl, trivial⟩ trivial (fun _ _ h => h) rfl) ?_
  refine AW.seq ?_
  refine AW.reg ?_
  refine SeqK.q (q_asC rfl rfl) rfl rfl rfl ?_
  refine SeqK.nil ?_
  refine AW.seq ?_
  refine AW.reg ?_
  refine SeqK.q (q_mvC rfl rfl) rfl rfl rfl ?_
  refine SeqK.q (q_mvC rfl rfl) rfl rfl rfl ?_
  refine SeqK.q (q_call _ rfl Fx.fn83 rfl (didx_any l z n hL) rfl) rfl rfl rfl ?_
  refine SeqK.q (q_geq rfl rfl rfl) rfl rfl rfl ?_
  refine SeqK.q (q_asC rfl rfl) rfl rfl rfl ?_
  refine SeqK.nil ?_
  refine AW.ret ?_
  exact fin_x (x := .c _) (H) (.tmp rfl .nil) rfl (fun _ _ h => h) (⟨bCe (by
    by_cases h : n ∈ l
    · rw [decide_eq_true h]; exact decide_eq_true (by rw [if_pos h]; omega)
    · rw [decide_eq_false h]; exact decide_eq_false (by rw [if_neg h]; decide)), rfl⟩)

set_option maxRecDepth 20000 in
theorem dabs_any (n : Int) (hn : R64 n) : Pure Try.prog 58 [iC n] (.c (.a (.t (.v (.int .u64 (absN n)))))) := by
  intro H
  refine Spec.enter Try.func58 rfl ?_
  refine AW.wk (Wk.keep 10 [(0, .c (iC n))] [] (H) rfl ⟨rfl, trivial⟩ trivial (fun _ _ h => h) rfl) ?_
  refine AW.seq ?_
  refine AW.reg ?_
  refine SeqK.q (q_asC rfl rfl) rfl rfl rfl ?_
  refine SeqK.nil ?_
  refine AW.seq ?_
  refine AW.seq ?_
  obtain ⟨hn1, hn2⟩ := hn
  refine AW.reg ?_
  refine SeqK.q (q_mvC rfl rfl) rfl rfl rfl ?_
  refine SeqK.q (q_lss rfl rfl rfl) rfl rfl rfl ?_
  refine SeqK.nil ?_
  refine AW.condD rfl (fun h4 => ?_) (fun h4 => ?_)
  ·
    refine AW.seq ?_
    refine AW.reg ?_
    refine SeqK.q (q_mvC rfl rfl) rfl rfl rfl ?_
    refine SeqK.q (q_conv _ rfl Fx.un107 rfl (wu64n h4 (by omega)) ⟨_, Fx.un2⟩) rfl rfl rfl ?_
    refine SeqK.q (q_neg _ rfl rfl (neg_u64 h4 hn1)) rfl rfl rfl ?_
    refine SeqK.q (q_asC rfl rfl) rfl rfl rfl ?_
    refine SeqK.nil ?_
    refine AW.ret ?_
    exact fin_x (x := .c _) (H) (.tmp rfl .nil) rfl (fun _ _ h => h) (⟨rfl, rfl⟩)
  ·
    refine AW.skip ?_
    refine AW.seq ?_
    refine AW.reg ?_
    refine SeqK.q (q_mvC rfl rfl) rfl rfl rfl ?_
    refine SeqK.q (q_conv _ rfl Fx.un107 rfl (wu64 (by omega) (by omega)) ⟨_, Fx.un2⟩) rfl rfl rfl ?_
    refine SeqK.q (q_asC rfl rfl) rfl rfl rfl ?_
    refine SeqK.nil ?_
    refine AW.ret ?_
    exact fin_x (x := .c _) (H) (.tmp rfl .nil) rfl (fun _ _ h => h) (⟨by rw [show absN n = n by show (n.natAbs : Int) = n; omega], rfl⟩)

end Go.Proofs.Ytnmfjojhgfipcaa.W
namespace Go.Proofs.Ytnmfjojhgfipcaa.W
open Go.RowKit E
set_option linter.unusedVariables false
set_option linter.unusedSimpArgs false
set_option linter.unusedSectionVars false
theorem mul64_any (x y : Nat) (hx : x < 18446744073709551616) (hy : y < 18446744073709551616) : Pure Try.prog 84 [u64C x, u64C y] (.tup [u64C (x * y / 18446744073709551616), u64C (x * y % 18446744073709551616)]) :=
  Pure.of_calls [.int .u64 (x : Int), .int .u64 (y : Int)] (fun w => Try.bits_Mul64 x y hx hy w) fun c => ⟨_, rfl, .cons (.t (.v rfl)) (.cons (.t (.v rfl)) .nil)⟩
def mn (x : Nat) : Nat := if x ≤ 1152921504606846977 then x else 1152921504606846978
theorem mn_c (x : Nat) : (x ≤ 1152921504606846977 ∧ mn x = x) ∨ (1152921504606846977 < x ∧ mn x = 1152921504606846978) := by
  unfold mn; split
  · exact .inl ⟨by assumption, rfl⟩
  · exact .inr ⟨by omega, rfl⟩
theorem bsF_get {n : Nat} {axs : List Ax} : ∀ {m j : Nat} (hj : j < m) (hm : m ≤ axs.length), (bsF n (axs.take m))[j]? = some (nb n (bsF n (axs.take j)) axs[j])
  | m + 1, j, hj, hm => by
    rw [bsF_take (show m < axs.length by omega)]
    have hl : (bsF n (axs.take m)).length = m := by rw [bsF_len, List.length_take]; omega
    by_cases e : j = m
    · subst e
      rw [List.getElem?_append_right (by omega), hl]; simp
    · rw [List.getElem?_append_left (by omega)]
      exact bsF_get (by omega) (by omega)
structure smF (f : Lf) (n m : Nat) : Prop where
  v : ∀ k ∈ f.cs, 0 ≤ k.v ∧ k.v < n + m
  n : ∀ k ∈ f.cs, -1048576 ≤ k.n ∧ k.n ≤ 1048576
  c : -1099511627777 ≤ f.c ∧ f.c ≤ 1099511627777
  l : f.cs.length ≤ 17592186044000
abbrev okX (n : Nat) (axs : List Ax) (j : Nat) (h : j < axs.length) : Prop := axs[j].b = 0 ∨ ((1 ≤ axs[j].b ∧ axs[j].b ≤ 1000) ∧ smF axs[j].f n j ∧ fsum n (bsF n (axs.take j)) axs[j].f ≤ 1152921504606846977)
theorem bnd_ax {n m : Nat} {axs : List Ax} {v : Int} (hv : (n : Int) ≤ v) (hm : v < n + m) (hl : m ≤ axs.length) : bnd n (bsF n (axs.take m)) v = nb n (bsF n (axs.take (v.toNat - n))) (axs[v.toNat - n]'(by omega)) := by
  unfold bnd
  rw [if_pos hv, List.getD_eq_getElem?_getD, bsF_get (show v.toNat - n < m by omega) hl]; rfl
theorem divB {a : Nat} {b : Int} (h1 : 1 ≤ b) (ha : a ≤ 1152921504606846977) : IntKind.u64.wrap ((a : Int).tdiv b) = ((a / b.toNat : Nat) : Int) := by
  obtain ⟨c, rfl⟩ : ∃ c : Nat, b = (c : Int) := ⟨b.toNat, by omega⟩
  have h2 : (a : Int).tdiv (c : Int) = ((a / c : Nat) : Int) := rfl
  have h3 : a / c ≤ a := Nat.div_le_self a c
  rw [h2, Int.toNat_natCast]
  generalize a / c = q at h3 ⊢
  rw [wu64 (by omega) (by omega)]

set_option maxHeartbeats 4000000 in
set_option maxRecDepth 20000 in
theorem bound_of (f : Lf) (n m : Nat) (axs : List Ax) (z : Nz) (hf : smF f n m) (hm : m ≤ axs.length) (hn : n ≤ 17592186044000) (hl : axs.length ≤ 17592186044000) (hax : ∀ j (h : j < axs.length), j < m → okX n axs j h) (ih : ∀ j (h : j < axs.length), j < m → axs[j].b ≠ 0 → Pure Try.prog 59 [lfC axs[j].f, iC n, axsC z axs] (.c (u64C (mn (fsum n (bsF n (axs.take j)) axs[j].f))))) : Pure Try.prog 59 [lfC f, iC n, axsC z axs] (.c (u64C (mn (fsum n (bsF n (axs.take m)) f)))) := by
  intro H
  refine Spec.enter Try.func59 rfl ?_
  refine AW.wk (Wk.keep 69 [(0, .c (lfC f)), (1, .c (iC n)), (2, .c (axsC z axs))] [] (H) rfl ⟨rfl, rfl, rfl, trivial⟩ trivial (fun _ _ h => h) rfl) ?_
  refine AW.seq ?_
  refine AW.reg ?_
  refine SeqK.r (b_box (r := [_, _]) rfl rfl rfl rfl rfl rfl) rfl ?_
  refine SeqK.q (q_asC rfl rfl) rfl rfl rfl ?_
  refine SeqK.nil ?_
  refine AW.seq ?_
  obtain ⟨hfv, hfn, hfc, hfl⟩ := hf
  have hR : R64 f.c := ⟨by omega, by omega⟩
  have hmc0 := mn_c (f.c.natAbs + csum n (bsF n (axs.take m)) (f.cs.take 0))
  have hcs0 : csum n (bsF n (axs.take m)) (f.cs.take 0) = 0 := rfl
  refine AW.reg ?_
  refine SeqK.q (q_fieldL _ rfl Fx.fl74_0 rfl rfl) rfl rfl rfl ?_
  refine SeqK.r (b_load (r := .a _) rfl Fx.ty2 rfl rfl rfl rfl rfl rfl) rfl ?_
  refine SeqK.q (q_call _ rfl Fx.fn58 rfl (dabs_any _ (by assumption)) rfl) rfl rfl rfl ?_
  refine SeqK.q (q_min rfl rfl rfl) rfl rfl rfl ?_
  rw [show min (absN f.c) 1152921504606846978 = ((mn (f.c.natAbs + csum n (bsF n (axs.take m)) (f.cs.take 0)) : Nat) : Int) by show min (f.c.natAbs : Int) _ = _; omega]
  refine SeqK.q (q_asC rfl rfl) rfl rfl rfl ?_
  refine SeqK.nil ?_
  refine AW.seq ?_
  refine AW.seq ?_
  refine AW.reg ?_
  refine SeqK.q (q_fieldL _ rfl Fx.fl74_1 rfl rfl) rfl rfl rfl ?_
  refine SeqK.r (b_load (r := .a _) rfl Fx.ty72 rfl rfl rfl rfl rfl rfl) rfl ?_
  refine SeqK.q (q_len rfl Fx.un72 rfl) rfl rfl rfl ?_
  refine SeqK.q (q_mvC rfl rfl) rfl rfl rfl ?_
  refine SeqK.nil ?_
  refine AW.block ?_
  refine AW.loop (fun (i : Nat) s => (i ≤ f.cs.length) ∧ s = ⟨69, sp [(1, .c (iC n)), (2, .c (axsC z axs)), (3, .lp 3 0), (7, .c (u64C (mn (f.c.natAbs + csum n (bsF n (axs.take m)) (f.cs.take i))))), (19, .c (cfsC .un f.cs)), (20, iX .i64 (((f.cs.map cfT).length : Nat) : Int)), (21, iX .i64 ((i : Nat) : Int))], lv [(3, .box [.t (.v (.int .i64 f.c)), .t (.sl .un 2 (f.cs.map cfT))])], H⟩) (fun i => f.cs.length - i) 0 ⟨_, Wk.keep 69 [(1, .c (iC n)), (2, .c (axsC z axs)), (3, .lp 3 0), (7, .c (u64C (mn (f.c.natAbs + csum n (bsF n (axs.take m)) (f.cs.take ((0 : Nat))))))), (19, .c (cfsC .un f.cs)), (20, iX .i64 (((f.cs.map cfT).length : Nat) : Int)), (21, iX .i64 ((((0 : Nat)) : Nat) : Int))] [(3, .box [.t (.v (.int .i64 f.c)), .t (.sl .un 2 (f.cs.map cfT))])] (H) rfl ⟨rfl, rfl, rfl, rfl, rfl, rfl, rfl, trivial⟩ ⟨rfl, trivial⟩ (fun _ _ h => h) rfl, Nat.zero_le _, rfl⟩ (fun i s hs => ?_)
  obtain ⟨hi0, rfl⟩ := hs
  refine AW.seq ?_
  refine AW.reg ?_
  refine SeqK.q (q_lss rfl rfl rfl) rfl rfl rfl ?_
  refine SeqK.nil ?_
  refine AW.seq ?_
  refine AW.condD rfl (fun h22 => ?_) (fun h22 => ?_)
  ·
    have hi : i < f.cs.length := by rw [List.length_map] at h22; omega
    obtain ⟨hv0, hv1⟩ := hfv _ (List.getElem_mem hi)
    obtain ⟨hn0, hn1⟩ := hfn _ (List.getElem_mem hi)
    have hR : R64 f.cs[i].n := ⟨by omega, by omega⟩
    have hct := csum_take (n := n) (bs := (bsF n (axs.take m))) hi
    have hmc := mn_c (f.c.natAbs + csum n (bsF n (axs.take m)) (f.cs.take i))
    have hmc2 := mn_c (f.c.natAbs + csum n (bsF n (axs.take m)) (f.cs.take (i + 1)))
    have hcl := csum_take_le (n := n) (bs := (bsF n (axs.take m))) f.cs (i + 1)
    have hmf := mn_c (fsum n (bsF n (axs.take m)) f)
    have hfe : (fsum n (bsF n (axs.take m)) f) = f.c.natAbs + csum n (bsF n (axs.take m)) f.cs := rfl
    refine AW.skip ?_
    refine AW.seq ?_
    refine AW.block ?_
    refine AW.seq ?_
    refine AW.reg ?_
    refine SeqK.q (q_index _ rfl Fx.sl72 rfl rfl (by omega) (idx_map (f := cfT) hi)) rfl rfl rfl ?_
    refine SeqK.q (q_load (.g [_, _]) rfl Fx.ty106 rfl rfl rfl) rfl rfl rfl ?_
    refine SeqK.r (b_alloc (r := [_, _]) rfl rfl Fx.ze106 rfl rfl rfl rfl) rfl ?_
    refine SeqK.r (b_store (r := [_, _]) rfl rfl Fx.ty106 rfl rfl rfl rfl rfl rfl) rfl ?_
    refine SeqK.nil ?_
    refine AW.seq ?_
    refine AW.reg ?_
    refine SeqK.q (q_asC rfl rfl) rfl rfl rfl ?_
    refine SeqK.nil ?_
    refine AW.seq ?_
    refine AW.seq ?_
    refine AW.reg ?_
    refine SeqK.q (q_fieldL _ rfl Fx.fl106_0 rfl rfl) rfl rfl rfl ?_
    refine SeqK.r (b_load (r := .a _) rfl Fx.ty3 rfl rfl rfl rfl rfl rfl) rfl ?_
    refine SeqK.q (q_mvC rfl rfl) rfl rfl rfl ?_
    refine SeqK.q (q_geq rfl rfl rfl) rfl rfl rfl ?_
    refine SeqK.nil ?_
    refine AW.condD rfl (fun h28 => ?_) (fun h28 => ?_)
    ·
      have hj : (f.cs[i].v.toNat - n) < m := by omega
      have hja : (f.cs[i].v.toNat - n) < axs.length := by omega
      have hbx := bnd_ax (axs := axs) h28 hv1 hm
      have hox := hax _ hja hj
      refine AW.seq ?_
      refine AW.reg ?_
      refine SeqK.q (q_mvC rfl rfl) rfl rfl rfl ?_
      refine SeqK.q (q_fieldL _ rfl Fx.fl106_0 rfl rfl) rfl rfl rfl ?_
      refine SeqK.r (b_load (r := .a _) rfl Fx.ty3 rfl rfl rfl rfl rfl rfl) rfl ?_
      refine SeqK.q (q_mvC rfl rfl) rfl rfl rfl ?_
      refine SeqK.q (q_sub _ rfl rfl rfl ((itw_sub h28 (by omega) : IntKind.i64.wrap _ = (((f.cs[i].v.toNat - n) : Nat) : Int)))) rfl rfl rfl ?_
      refine SeqK.q (q_index _ rfl Fx.sl23 rfl rfl (by omega) (idx_map (f := axT) hja)) rfl rfl rfl ?_
      refine SeqK.q (q_load (.g [_, _, _, _]) rfl Fx.ty82 rfl rfl rfl) rfl rfl rfl ?_
      refine SeqK.r (b_alloc (r := [_, _, _, _]) rfl rfl Fx.ze82 rfl rfl rfl rfl) rfl ?_
      refine SeqK.r (b_store (r := [_, _, _, _]) rfl rfl Fx.ty82 rfl rfl rfl rfl rfl rfl) rfl ?_
      refine SeqK.nil ?_
      refine AW.seq ?_
      refine AW.reg ?_
      refine SeqK.q (q_fieldL _ rfl Fx.fl82_1 rfl rfl) rfl rfl rfl ?_
      refine SeqK.r (b_load (r := .a _) rfl Fx.ty2 rfl rfl rfl rfl rfl rfl) rfl ?_
      refine SeqK.q (q_eql rfl rfl rfl) rfl rfl rfl ?_
      refine SeqK.nil ?_
      refine AW.condD rfl (fun h38 => ?_) (fun h38 => ?_)
      ·
        have hbv : bnd n (bsF n (axs.take m)) f.cs[i].v = 16 := by rw [hbx, nb, if_pos h38]
        refine AW.reg ?_
        refine SeqK.q (q_asC rfl rfl) rfl rfl rfl ?_
        refine SeqK.nil ?_
        refine AW.seq ?_
        refine AW.reg ?_
        refine SeqK.q (q_fieldL _ rfl Fx.fl106_1 rfl rfl) rfl rfl rfl ?_
        refine SeqK.r (b_load (r := .a _) rfl Fx.ty2 rfl rfl rfl rfl rfl rfl) rfl ?_
        refine SeqK.q (q_call _ rfl Fx.fn58 rfl (dabs_any _ (by assumption)) rfl) rfl rfl rfl ?_
        refine SeqK.q (q_mvC rfl rfl) rfl rfl rfl ?_
        refine SeqK.q (q_call _ rfl Fx.fn84 rfl (mul64_any (f.cs[i].n.natAbs) (16) (by omega) (by omega)) rfl) rfl rfl rfl ?_
        refine SeqK.q (q_mvT rfl rfl) rfl rfl rfl ?_
        refine SeqK.q (q_extract _ rfl rfl rfl) rfl rfl rfl ?_
        refine SeqK.q (q_extract _ rfl rfl rfl) rfl rfl rfl ?_
        refine SeqK.q (q_asC rfl rfl) rfl rfl rfl ?_
        refine SeqK.q (q_asC rfl rfl) rfl rfl rfl ?_
        refine SeqK.nil ?_
        refine AW.seq ?_
        refine AW.seq ?_
        rw [hbv] at hct
        generalize hp : f.cs[i].n.natAbs * 16 = p at hct ⊢
        refine AW.reg ?_
        refine SeqK.q (q_mvC rfl rfl) rfl rfl rfl ?_
        refine SeqK.q (q_neq rfl rfl rfl) rfl rfl rfl ?_
        refine SeqK.qD (q_mvC rfl rfl) rfl rfl rfl (fun g59 => ?_) (fun g59 => ?_)
        ·
          refine SeqK.off rfl rfl rfl rfl rfl rfl ?_
          refine SeqK.off rfl rfl rfl rfl rfl rfl ?_
          refine SeqK.q (q_pkT rfl rfl rfl) rfl rfl rfl ?_
          refine SeqK.nil ?_
          refine AW.condT rfl ?_
          refine AW.seq ?_
          refine AW.reg ?_
          refine SeqK.q (q_asC rfl rfl) rfl rfl rfl ?_
          refine SeqK.nil ?_
          refine AW.ret ?_
          exact fin_x (x := .c _) (H) (.tmp rfl .nil) rfl (fun _ _ h => h) (⟨by rw [show mn (fsum n (bsF n (axs.take m)) f) = 1152921504606846978 by omega]; rfl, rfl⟩)
        ·
          refine SeqK.on (q_mvC rfl rfl) rfl rfl rfl rfl rfl ?_
          refine SeqK.on (q_gtr rfl rfl rfl) rfl rfl rfl rfl rfl ?_
          refine SeqK.q (q_pkF rfl rfl rfl) rfl rfl rfl ?_
          refine SeqK.nil ?_
          refine AW.condD rfl (fun h62 => ?_) (fun h62 => ?_)
          ·
            refine AW.seq ?_
            refine AW.reg ?_
            refine SeqK.q (q_asC rfl rfl) rfl rfl rfl ?_
            refine SeqK.nil ?_
            refine AW.ret ?_
            exact fin_x (x := .c _) (H) (.tmp rfl .nil) rfl (fun _ _ h => h) (⟨by rw [show mn (fsum n (bsF n (axs.take m)) f) = 1152921504606846978 by omega]; rfl, rfl⟩)
          ·
            refine AW.skip ?_
            refine AW.reg ?_
            refine SeqK.q (q_mvC rfl rfl) rfl rfl rfl ?_
            refine SeqK.q (q_mvC rfl rfl) rfl rfl rfl ?_
            refine SeqK.q (q_add _ rfl rfl rfl (wu64 (by omega) (by omega))) rfl rfl rfl ?_
            refine SeqK.q (q_min rfl rfl rfl) rfl rfl rfl ?_
            rw [show min (((mn (f.c.natAbs + csum n (bsF n (axs.take m)) (f.cs.take i)) : Nat) : Int) + ((p % 18446744073709551616 : Nat) : Int)) 1152921504606846978 = ((mn (f.c.natAbs + csum n (bsF n (axs.take m)) (f.cs.take (i + 1))) : Nat) : Int) by omega]
            refine SeqK.q (q_asC rfl rfl) rfl rfl rfl ?_
            refine SeqK.nil ?_
            refine AW.reg ?_
            refine SeqK.q (q_add _ rfl rfl rfl (w64 (by omega) (by omega))) rfl rfl rfl ?_
            refine SeqK.q (q_mvC rfl rfl) rfl rfl rfl ?_
            refine SeqK.nil ?_
            exact ⟨i + 1, _, Wk.keep 69 [(1, .c (iC n)), (2, .c (axsC z axs)), (3, .lp 3 0), (7, .c (u64C (mn (f.c.natAbs + csum n (bsF n (axs.take m)) (f.cs.take (i + 1)))))), (19, .c (cfsC .un f.cs)), (20, iX .i64 (((f.cs.map cfT).length : Nat) : Int)), (21, iX .i64 (((i + 1) : Nat) : Int))] [(3, .box [.t (.v (.int .i64 f.c)), .t (.sl .un 2 (f.cs.map cfT))])] (H) rfl ⟨rfl, rfl, rfl, rfl, rfl, rfl, rfl, trivial⟩ ⟨rfl, trivial⟩ (fun _ _ h => h) rfl, by omega, hi, rfl⟩
      ·
        have hbv : bnd n (bsF n (axs.take m)) f.cs[i].v = (fsum n (bsF n (axs.take (f.cs[i].v.toNat - n))) axs[(f.cs[i].v.toNat - n)].f / axs[(f.cs[i].v.toNat - n)].b.toNat + 1) := by rw [hbx, nb, if_neg h38]
        have hox := hox.resolve_left h38
        have hdl := Nat.div_le_self (fsum n (bsF n (axs.take (f.cs[i].v.toNat - n))) axs[(f.cs[i].v.toNat - n)].f) axs[(f.cs[i].v.toNat - n)].b.toNat
        obtain ⟨hox1, hox2, hox3⟩ := hox
        have hmj : mn (fsum n (bsF n (axs.take (f.cs[i].v.toNat - n))) axs[(f.cs[i].v.toNat - n)].f) = (fsum n (bsF n (axs.take (f.cs[i].v.toNat - n))) axs[(f.cs[i].v.toNat - n)].f) := if_pos hox3
        have hrec := ih _ hja hj h38
        rw [hmj] at hrec
        refine AW.draw Fx.mo ?_
        refine LexK.q (q_fieldL _ rfl Fx.fl82_0 rfl rfl) rfl rfl rfl ?_
        refine LexK.r (b_load (r := .g [_, _]) rfl Fx.ty74 rfl rfl rfl rfl rfl rfl) rfl ?_
        refine LexK.q (q_mvC rfl rfl) rfl rfl rfl ?_
        refine LexK.q (q_mvC rfl rfl) rfl rfl rfl ?_
        refine LexK.q (q_call _ rfl Fx.fn59 rfl (hrec) rfl) rfl rfl rfl ?_
        refine LexK.q (q_fieldL _ rfl Fx.fl82_1 rfl rfl) rfl rfl rfl ?_
        refine LexK.r (b_load (r := .a _) rfl Fx.ty2 rfl rfl rfl rfl rfl rfl) rfl ?_
        refine LexK.q (q_conv _ rfl Fx.un107 rfl (wu64 (by omega) (by omega)) ⟨_, Fx.un2⟩) rfl rfl rfl ?_
        refine LexK.q (q_quo _ rfl rfl rfl (by omega) (divB hox1.1 hox3)) rfl rfl rfl ?_
        refine LexK.q (q_add _ rfl rfl rfl ((by rw [wu64 (by omega) (by omega)]; omega : IntKind.u64.wrap _ = (((fsum n (bsF n (axs.take (f.cs[i].v.toNat - n))) axs[(f.cs[i].v.toNat - n)].f / axs[(f.cs[i].v.toNat - n)].b.toNat + 1) : Nat) : Int)))) rfl rfl rfl ?_
        refine LexK.q (q_asC rfl rfl) rfl rfl rfl ?_
        refine LexK.nil (by kernel_rfl) ?_
        refine AW.seq ?_
        refine AW.reg ?_
        refine SeqK.q (q_fieldL _ rfl Fx.fl106_1 rfl rfl) rfl rfl rfl ?_
        refine SeqK.r (b_load (r := .a _) rfl Fx.ty2 rfl rfl rfl rfl rfl rfl) rfl ?_
        refine SeqK.q (q_call _ rfl Fx.fn58 rfl (dabs_any _ (by assumption)) rfl) rfl rfl rfl ?_
        refine SeqK.q (q_mvC rfl rfl) rfl rfl rfl ?_
        refine SeqK.q (q_call _ rfl Fx.fn84 rfl (mul64_any (f.cs[i].n.natAbs) ((fsum n (bsF n (axs.take (f.cs[i].v.toNat - n))) axs[(f.cs[i].v.toNat - n)].f / axs[(f.cs[i].v.toNat - n)].b.toNat + 1)) (by omega) (by omega)) rfl) rfl rfl rfl ?_
        refine SeqK.q (q_mvT rfl rfl) rfl rfl rfl ?_
        refine SeqK.q (q_extract _ rfl rfl rfl) rfl rfl rfl ?_
        refine SeqK.q (q_extract _ rfl rfl rfl) rfl rfl rfl ?_
        refine SeqK.q (q_asC rfl rfl) rfl rfl rfl ?_
        refine SeqK.q (q_asC rfl rfl) rfl rfl rfl ?_
        refine SeqK.nil ?_
        refine AW.seq ?_
        refine AW.seq ?_
        rw [hbv] at hct
        generalize hp : f.cs[i].n.natAbs * (fsum n (bsF n (axs.take (f.cs[i].v.toNat - n))) axs[(f.cs[i].v.toNat - n)].f / axs[(f.cs[i].v.toNat - n)].b.toNat + 1) = p at hct ⊢
        refine AW.reg ?_
        refine SeqK.q (q_mvC rfl rfl) rfl rfl rfl ?_
        refine SeqK.q (q_neq rfl rfl rfl) rfl rfl rfl ?_
        refine SeqK.qD (q_mvC rfl rfl) rfl rfl rfl (fun g59 => ?_) (fun g59 => ?_)
        ·
          refine SeqK.off rfl rfl rfl rfl rfl rfl ?_
          refine SeqK.off rfl rfl rfl rfl rfl rfl ?_
          refine SeqK.q (q_pkT rfl rfl rfl) rfl rfl rfl ?_
          refine SeqK.nil ?_
          refine AW.condT rfl ?_
          refine AW.seq ?_
          refine AW.reg ?_
          refine SeqK.q (q_asC rfl rfl) rfl rfl rfl ?_
          refine SeqK.nil ?_
          refine AW.ret ?_
          exact fin_x (x := .c _) (H) (.tmp rfl .nil) rfl (fun _ _ h => h) (⟨by rw [show mn (fsum n (bsF n (axs.take m)) f) = 1152921504606846978 by omega]; rfl, rfl⟩)
        ·
          refine SeqK.on (q_mvC rfl rfl) rfl rfl rfl rfl rfl ?_
          refine SeqK.on (q_gtr rfl rfl rfl) rfl rfl rfl rfl rfl ?_
          refine SeqK.q (q_pkF rfl rfl rfl) rfl rfl rfl ?_
          refine SeqK.nil ?_
          refine AW.condD rfl (fun h62 => ?_) (fun h62 => ?_)
          ·
            refine AW.seq ?_
            refine AW.reg ?_
            refine SeqK.q (q_asC rfl rfl) rfl rfl rfl ?_
            refine SeqK.nil ?_
            refine AW.ret ?_
            exact fin_x (x := .c _) (H) (.tmp rfl .nil) rfl (fun _ _ h => h) (⟨by rw [show mn (fsum n (bsF n (axs.take m)) f) = 1152921504606846978 by omega]; rfl, rfl⟩)
          ·
            refine AW.skip ?_
            refine AW.reg ?_
            refine SeqK.q (q_mvC rfl rfl) rfl rfl rfl ?_
            refine SeqK.q (q_mvC rfl rfl) rfl rfl rfl ?_
            refine SeqK.q (q_add _ rfl rfl rfl (wu64 (by omega) (by omega))) rfl rfl rfl ?_
            refine SeqK.q (q_min rfl rfl rfl) rfl rfl rfl ?_
            rw [show min (((mn (f.c.natAbs + csum n (bsF n (axs.take m)) (f.cs.take i)) : Nat) : Int) + ((p % 18446744073709551616 : Nat) : Int)) 1152921504606846978 = ((mn (f.c.natAbs + csum n (bsF n (axs.take m)) (f.cs.take (i + 1))) : Nat) : Int) by omega]
            refine SeqK.q (q_asC rfl rfl) rfl rfl rfl ?_
            refine SeqK.nil ?_
            refine AW.reg ?_
            refine SeqK.q (q_add _ rfl rfl rfl (w64 (by omega) (by omega))) rfl rfl rfl ?_
            refine SeqK.q (q_mvC rfl rfl) rfl rfl rfl ?_
            refine SeqK.nil ?_
            exact ⟨i + 1, _, Wk.keep 69 [(1, .c (iC n)), (2, .c (axsC z axs)), (3, .lp 3 0), (7, .c (u64C (mn (f.c.natAbs + csum n (bsF n (axs.take m)) (f.cs.take (i + 1)))))), (19, .c (cfsC .un f.cs)), (20, iX .i64 (((f.cs.map cfT).length : Nat) : Int)), (21, iX .i64 (((i + 1) : Nat) : Int))] [(3, .box [.t (.v (.int .i64 f.c)), .t (.sl .un 2 (f.cs.map cfT))])] (H) rfl ⟨rfl, rfl, rfl, rfl, rfl, rfl, rfl, trivial⟩ ⟨rfl, trivial⟩ (fun _ _ h => h) rfl, by omega, hi, rfl⟩
    ·
      have hbv : bnd n (bsF n (axs.take m)) f.cs[i].v = 2147483648 := bnd_lo h28
      refine AW.skip ?_
      refine AW.seq ?_
      refine AW.reg ?_
      refine SeqK.q (q_fieldL _ rfl Fx.fl106_1 rfl rfl) rfl rfl rfl ?_
      refine SeqK.r (b_load (r := .a _) rfl Fx.ty2 rfl rfl rfl rfl rfl rfl) rfl ?_
      refine SeqK.q (q_call _ rfl Fx.fn58 rfl (dabs_any _ (by assumption)) rfl) rfl rfl rfl ?_
      refine SeqK.q (q_mvC rfl rfl) rfl rfl rfl ?_
      refine SeqK.q (q_call _ rfl Fx.fn84 rfl (mul64_any (f.cs[i].n.natAbs) (2147483648) (by omega) (by omega)) rfl) rfl rfl rfl ?_
      refine SeqK.q (q_mvT rfl rfl) rfl rfl rfl ?_
      refine SeqK.q (q_extract _ rfl rfl rfl) rfl rfl rfl ?_
      refine SeqK.q (q_extract _ rfl rfl rfl) rfl rfl rfl ?_
      refine SeqK.q (q_asC rfl rfl) rfl rfl rfl ?_
      refine SeqK.q (q_asC rfl rfl) rfl rfl rfl ?_
      refine SeqK.nil ?_
      refine AW.seq ?_
      refine AW.seq ?_
      rw [hbv] at hct
      generalize hp : f.cs[i].n.natAbs * 2147483648 = p at hct ⊢
      refine AW.reg ?_
      refine SeqK.q (q_mvC rfl rfl) rfl rfl rfl ?_
      refine SeqK.q (q_neq rfl rfl rfl) rfl rfl rfl ?_
      refine SeqK.qD (q_mvC rfl rfl) rfl rfl rfl (fun g59 => ?_) (fun g59 => ?_)
      ·
        refine SeqK.off rfl rfl rfl rfl rfl rfl ?_
        refine SeqK.off rfl rfl rfl rfl rfl rfl ?_
        refine SeqK.q (q_pkT rfl rfl rfl) rfl rfl rfl ?_
        refine SeqK.nil ?_
        refine AW.condT rfl ?_
        refine AW.seq ?_
        refine AW.reg ?_
        refine SeqK.q (q_asC rfl rfl) rfl rfl rfl ?_
        refine SeqK.nil ?_
        refine AW.ret ?_
        exact fin_x (x := .c _) (H) (.tmp rfl .nil) rfl (fun _ _ h => h) (⟨by rw [show mn (fsum n (bsF n (axs.take m)) f) = 1152921504606846978 by omega]; rfl, rfl⟩)
      ·
        refine SeqK.on (q_mvC rfl rfl) rfl rfl rfl rfl rfl ?_
        refine SeqK.on (q_gtr rfl rfl rfl) rfl rfl rfl rfl rfl ?_
        refine SeqK.q (q_pkF rfl rfl rfl) rfl rfl rfl ?_
        refine SeqK.nil ?_
        refine AW.condD rfl (fun h62 => ?_) (fun h62 => ?_)
        ·
          refine AW.seq ?_
          refine AW.reg ?_
          refine SeqK.q (q_asC rfl rfl) rfl rfl rfl ?_
          refine SeqK.nil ?_
          refine AW.ret ?_
          exact fin_x (x := .c _) (H) (.tmp rfl .nil) rfl (fun _ _ h => h) (⟨by rw [show mn (fsum n (bsF n (axs.take m)) f) = 1152921504606846978 by omega]; rfl, rfl⟩)
        ·
          refine AW.skip ?_
          refine AW.reg ?_
          refine SeqK.q (q_mvC rfl rfl) rfl rfl rfl ?_
          refine SeqK.q (q_mvC rfl rfl) rfl rfl rfl ?_
          refine SeqK.q (q_add _ rfl rfl rfl (wu64 (by omega) (by omega))) rfl rfl rfl ?_
          refine SeqK.q (q_min rfl rfl rfl) rfl rfl rfl ?_
          rw [show min (((mn (f.c.natAbs + csum n (bsF n (axs.take m)) (f.cs.take i)) : Nat) : Int) + ((p % 18446744073709551616 : Nat) : Int)) 1152921504606846978 = ((mn (f.c.natAbs + csum n (bsF n (axs.take m)) (f.cs.take (i + 1))) : Nat) : Int) by omega]
          refine SeqK.q (q_asC rfl rfl) rfl rfl rfl ?_
          refine SeqK.nil ?_
          refine AW.reg ?_
          refine SeqK.q (q_add _ rfl rfl rfl (w64 (by omega) (by omega))) rfl rfl rfl ?_
          refine SeqK.q (q_mvC rfl rfl) rfl rfl rfl ?_
          refine SeqK.nil ?_
          exact ⟨i + 1, _, Wk.keep 69 [(1, .c (iC n)), (2, .c (axsC z axs)), (3, .lp 3 0), (7, .c (u64C (mn (f.c.natAbs + csum n (bsF n (axs.take m)) (f.cs.take (i + 1)))))), (19, .c (cfsC .un f.cs)), (20, iX .i64 (((f.cs.map cfT).length : Nat) : Int)), (21, iX .i64 (((i + 1) : Nat) : Int))] [(3, .box [.t (.v (.int .i64 f.c)), .t (.sl .un 2 (f.cs.map cfT))])] (H) rfl ⟨rfl, rfl, rfl, rfl, rfl, rfl, rfl, trivial⟩ ⟨rfl, trivial⟩ (fun _ _ h => h) rfl, by omega, hi, rfl⟩
  ·
    refine AW.exit ?_
    refine eth_e ?_
    refine eth_e ?_
    refine exit_here ?_
    refine AW.seq ?_
    refine AW.reg ?_
    refine SeqK.q (q_mvC rfl rfl) rfl rfl rfl ?_
    refine SeqK.q (q_asC rfl rfl) rfl rfl rfl ?_
    refine SeqK.nil ?_
    refine AW.ret ?_
    exact fin_x (x := .c _) (H) (.tmp rfl .nil) rfl (fun _ _ h => h) (⟨by rw [show f.c.natAbs + csum n (bsF n (axs.take m)) (f.cs.take i) = (fsum n (bsF n (axs.take m)) f) by rw [List.take_of_length_le (l := f.cs) (i := i) (by rw [List.length_map] at h22; omega)]; rfl], rfl⟩)

theorem bound_any (m : Nat) : ∀ (f : Lf) (n : Nat) (axs : List Ax) (z : Nz) (hf : smF f n m) (hm : m ≤ axs.length) (hn : n ≤ 17592186044000) (hl : axs.length ≤ 17592186044000) (hax : ∀ j (h : j < axs.length), j < m → okX n axs j h), Pure Try.prog 59 [lfC f, iC n, axsC z axs] (.c (u64C (mn (fsum n (bsF n (axs.take m)) f)))) := by
  induction m using Nat.strongRecOn with
  | ind m ih =>
    intro f n axs z hf hm hn hl hax
    exact bound_of f n m axs z hf hm hn hl hax fun j h hj hb => ih j hj _ n axs z ((hax j h hj).resolve_left hb).2.1 (by omega) hn hl fun j' h' hj' => hax j' h' (by omega)

end Go.Proofs.Ytnmfjojhgfipcaa.W
