/- Parts of the proof, one after the other: W31, W32, W33. No condition. -/
import Derived.Test.YtnmfjojhgfipcaaM17
import Derived.Shelf.Spec.SlicesGrow
namespace Go.Proofs.Ytnmfjojhgfipcaa.W
open Go.RowKit E
set_option linter.unusedVariables false
set_option linter.unusedSimpArgs false
set_option linter.unusedSectionVars false

def layGrow_ren : Go.Shelf.Ren := ⟨fun | 4 => 80 | n => n, fun | 22 => 26 | 25 => 80 | n => n, fun | n => n⟩
theorem layGrow : Go.Proofs.Lays8.n4 Try.prog layGrow_ren := {
  mixed := by kernel_rfl
  f4 := ⟨"slices.Grow[[][2]int,[2]int]", by decide, Try.func80.trans (congrArg some (by kernel_rfl))⟩
  t0 := Try.underlying0
  a0 := Try.isAgg0
  z0 := Try.sizeOf0
  v0 := Try.zeroValue0
  t3 := Try.underlying3
  a3 := Try.isAgg3
  z3 := Try.sizeOf3
  v3 := Try.zeroValue3
  t4 := Try.underlying4
  a4 := Try.isAgg4
  z4 := Try.sizeOf4
  v4 := Try.zeroValue4
  t9 := Try.underlying9
  a9 := Try.isAgg9
  z9 := Try.sizeOf9
  v9 := Try.zeroValue9
  t20 := Try.underlying20
  a20 := Try.isAgg20
  z20 := Try.sizeOf20
  v20 := Try.zeroValue20
  t22 := Try.underlying26
  a22 := Try.isAgg26
  z22 := Try.sizeOf26
  v22 := Try.zeroValue26 }
theorem grow_any (H : Heap) (N : Nat) (h0 : 0 < N) (hb : N * 16 ≤ 140737488355328) : E.Spec Try.prog 80 [.a (.t (.v (.slice none 0 0))), iC (N : Int)] H fun x H' => ∃ k, H k = none ∧ x = .c (.a (.gs k 2)) ∧ H' = upd H k (some (.new 80 2)) := by
  obtain ⟨i, z, g1, g2, g3, g4, g5, g6, g7⟩ := elB_get Fx.el26
  refine E.Spec.fresh [.slice none 0 0, .int .i64 (N : Int)] (y := .new 80 2) (x := fun k => .c (.a (.gs k 2))) (fun _ => rfl) (fun w => ?_) H
  refine (Any8.slices_Grow_grow layGrow i z g2 g6 (by omega) none 0 0 N [] w (Nat.le_refl _) (by omega) (by rw [g5]; omega) (by omega) (by simp) (fun _ => rfl) (fun a h => by cases h)).mono ?_
  rintro e w' ⟨rfl, rfl⟩
  refine ⟨_, w.heap.size, grownCap w (0 + N) 0 (layGrow_ren.t 25), rfl, rfl, rfl, rfl, ?_, fun b' hb' => ?_, Nat.le_refl _, fun c hu => ?_, fun c k hk => ?_⟩
  · show w.drew.heap.size ≤ _
    show w.heap.size ≤ (w.heap.push _).size
    rw [Array.size_push]; omega
  · exact Below.heap_alloc w.drew _ b' hb'
  · refine ⟨_, heap_new w.drew _, ?_, grownCap_le_maxLen w _ _ _ (by unfold maxLen; omega), hu⟩
    have h9 := grownCap_ge w (0 + N) 0 (layGrow_ren.t 25)
    rw [Array.size_append, Array.size_append, size_zeroCells, size_zeroCells, g7]
    show 0 + (0 + N - 0) * 2 + (grownCap w (0 + N) 0 (layGrow_ren.t 25) - (0 + N)) * 2 = grownCap w (0 + N) 0 (layGrow_ren.t 25) * 2
    omega
  · exact .gs hk

end Go.Proofs.Ytnmfjojhgfipcaa.W
namespace Go.Proofs.Ytnmfjojhgfipcaa.W
open Go.RowKit E
set_option linter.unusedVariables false
set_option linter.unusedSimpArgs false
set_option linter.unusedSectionVars false
theorem pT : ∀ p : List (Int × Int), (p.map prT).flatten.length = p.length * 2
  | [] => rfl
  | a :: r => by
    have := pT r
    simp only [List.map_cons, List.flatten_cons, List.length_append, this, List.length_cons, List.length_nil]; omega
theorem grow_0 : Pure Try.prog 80 [.a (.t (.v (.slice none 0 0))), iC 0] (.c (.a (.t (.v (.slice none 0 0))))) :=
  Pure.of_calls [.slice none 0 0, .int .i64 0] (fun w => Any8.slices_Grow_room layGrow none 0 0 0 w (by omega) (by omega) (by omega) (by omega)) fun c => .t (.v rfl)
theorem XW.toNil {sz : Nat} : XW (.c (.a (.t (.sl .ne sz [])))) (tv (.slice none 0 0)) := ⟨rfl, fun c v h => by
  have h : RepA c.μ c.β (.t (.sl .ne sz [])) v := h
  cases h with | t h =>
  cases h with
  | nil => exact tv_rep rfl
  | emp h2 => exact (h2 rfl).elim
  | sl u ne => exact absurd rfl ne⟩

set_option maxHeartbeats 4000000 in
set_option maxRecDepth 20000 in
theorem cat_00  : Pure Try.prog 47 [.a (.t (.sl .nn 1 [[.sl .un 2 []], [.sl .un 2 []]]))] (.c (.a (.t (.v (.slice none 0 0))))) := by
  intro H
  refine Spec.enter Try.func47 rfl ?_
  refine AW.wk (Wk.keep 36 [(0, .c (.a (.t (.sl .nn 1 [[.sl .un 2 []], [.sl .un 2 []]]))))] [] (H) rfl ⟨rfl, trivial⟩ trivial (fun _ _ h => h) rfl) ?_
  refine AW.seq ?_
  refine AW.reg ?_
  refine SeqK.q (q_asC rfl rfl) rfl rfl rfl ?_
  refine SeqK.nil ?_
  refine AW.seq ?_
  refine AW.reg ?_
  refine SeqK.q (q_asC rfl rfl) rfl rfl rfl ?_
  refine SeqK.nil ?_
  refine AW.seq ?_
  refine AW.seq ?_
  refine AW.reg ?_
  refine SeqK.q (q_mvC rfl rfl) rfl rfl rfl ?_
  refine SeqK.q (q_len rfl Fx.un135 rfl) rfl rfl rfl ?_
  refine SeqK.q (q_mvC rfl rfl) rfl rfl rfl ?_
  refine SeqK.nil ?_
  refine AW.block ?_
  refine AW.unroll ?_
  refine AW.seq ?_
  refine AW.reg ?_
  refine SeqK.q (q_lss rfl rfl rfl) rfl rfl rfl ?_
  refine SeqK.nil ?_
  refine AW.seq ?_
  refine AW.condT rfl ?_
  refine AW.skip ?_
  refine AW.seq ?_
  refine AW.block ?_
  refine AW.seq ?_
  refine AW.reg ?_
  refine SeqK.q (q_index _ rfl Fx.sl135 rfl rfl (by omega) (rfl)) rfl rfl rfl ?_
  refine SeqK.q (q_load (.a _) rfl Fx.ty26 rfl rfl rfl) rfl rfl rfl ?_
  refine SeqK.q (q_asC rfl rfl) rfl rfl rfl ?_
  refine SeqK.nil ?_
  refine AW.seq ?_
  refine AW.reg ?_
  refine SeqK.q (q_mvC rfl rfl) rfl rfl rfl ?_
  refine SeqK.q (q_mvC rfl rfl) rfl rfl rfl ?_
  refine SeqK.q (q_len rfl Fx.un26 rfl) rfl rfl rfl ?_
  refine SeqK.q (q_add _ rfl rfl rfl ((rfl : IntKind.i64.wrap _ = 0))) rfl rfl rfl ?_
  refine SeqK.q (q_asC rfl rfl) rfl rfl rfl ?_
  refine SeqK.nil ?_
  refine AW.seq ?_
  refine AW.reg ?_
  refine SeqK.q (q_mvC rfl rfl) rfl rfl rfl ?_
  refine SeqK.q (q_lss rfl rfl rfl) rfl rfl rfl ?_
  refine SeqK.nil ?_
  refine AW.condD rfl (fun h20 => ?_) (fun h20 => ?_)
  ·
    exfalso; simp at h20
  ·
    refine AW.skip ?_
    refine AW.reg ?_
    refine SeqK.q (q_add _ rfl rfl rfl (w64 (by omega) (by omega))) rfl rfl rfl ?_
    refine SeqK.q (q_mvC rfl rfl) rfl rfl rfl ?_
    refine SeqK.nil ?_
    first | with_reducible refine LoopW.again ?_ | with_reducible refine eth_n (LoopW.again ?_) | with_reducible refine eb_n (eth_n (LoopW.again ?_)) | with_reducible refine eth_n (eb_n (eth_n (LoopW.again ?_)))
    refine AW.seq ?_
    refine AW.reg ?_
    refine SeqK.q (q_lss rfl rfl rfl) rfl rfl rfl ?_
    refine SeqK.nil ?_
    refine AW.seq ?_
    refine AW.condT rfl ?_
    refine AW.skip ?_
    refine AW.seq ?_
    refine AW.block ?_
    refine AW.seq ?_
    refine AW.reg ?_
    refine SeqK.q (q_index _ rfl Fx.sl135 rfl rfl (by omega) (rfl)) rfl rfl rfl ?_
    refine SeqK.q (q_load (.a _) rfl Fx.ty26 rfl rfl rfl) rfl rfl rfl ?_
    refine SeqK.q (q_asC rfl rfl) rfl rfl rfl ?_
    refine SeqK.nil ?_
    refine AW.seq ?_
    refine AW.reg ?_
    refine SeqK.q (q_mvC rfl rfl) rfl rfl rfl ?_
    refine SeqK.q (q_mvC rfl rfl) rfl rfl rfl ?_
    refine SeqK.q (q_len rfl Fx.un26 rfl) rfl rfl rfl ?_
    refine SeqK.q (q_add _ rfl rfl rfl ((rfl : IntKind.i64.wrap _ = 0))) rfl rfl rfl ?_
    refine SeqK.q (q_asC rfl rfl) rfl rfl rfl ?_
    refine SeqK.nil ?_
    refine AW.seq ?_
    refine AW.reg ?_
    refine SeqK.q (q_mvC rfl rfl) rfl rfl rfl ?_
    refine SeqK.q (q_lss rfl rfl rfl) rfl rfl rfl ?_
    refine SeqK.nil ?_
    refine AW.condD rfl (fun h20 => ?_) (fun h20 => ?_)
    ·
      exfalso; simp at h20
    ·
      refine AW.skip ?_
      refine AW.reg ?_
      refine SeqK.q (q_add _ rfl rfl rfl (w64 (by omega) (by omega))) rfl rfl rfl ?_
      refine SeqK.q (q_mvC rfl rfl) rfl rfl rfl ?_
      refine SeqK.nil ?_
      first | with_reducible refine LoopW.again ?_ | with_reducible refine eth_n (LoopW.again ?_) | with_reducible refine eb_n (eth_n (LoopW.again ?_)) | with_reducible refine eth_n (eb_n (eth_n (LoopW.again ?_)))
      refine AW.seq ?_
      refine AW.reg ?_
      refine SeqK.q (q_lss rfl rfl rfl) rfl rfl rfl ?_
      refine SeqK.nil ?_
      refine AW.seq ?_
      refine AW.condF rfl ?_
      refine AW.exit ?_
      refine eth_e ?_
      refine eth_e ?_
      refine exit_here ?_
      refine AW.seq ?_
      refine AW.reg ?_
      refine SeqK.q (q_mvC rfl rfl) rfl rfl rfl ?_
      refine SeqK.q (q_call _ rfl Fx.fn80 rfl (grow_0) rfl) rfl rfl rfl ?_
      refine SeqK.q (q_asC rfl rfl) rfl rfl rfl ?_
      refine SeqK.nil ?_
      refine AW.seq ?_
      refine AW.seq ?_
      refine AW.reg ?_
      refine SeqK.q (q_mvC rfl rfl) rfl rfl rfl ?_
      refine SeqK.q (q_len rfl Fx.un135 rfl) rfl rfl rfl ?_
      refine SeqK.q (q_mvC rfl rfl) rfl rfl rfl ?_
      refine SeqK.nil ?_
      refine AW.block ?_
      refine AW.unroll ?_
      refine AW.seq ?_
      refine AW.reg ?_
      refine SeqK.q (q_lss rfl rfl rfl) rfl rfl rfl ?_
      refine SeqK.nil ?_
      refine AW.seq ?_
      refine AW.condT rfl ?_
      refine AW.skip ?_
      refine AW.seq ?_
      refine AW.block ?_
      refine AW.seq ?_
      refine AW.reg ?_
      refine SeqK.q (q_index _ rfl Fx.sl135 rfl rfl (by omega) (rfl)) rfl rfl rfl ?_
      refine SeqK.q (q_load (.a _) rfl Fx.ty26 rfl rfl rfl) rfl rfl rfl ?_
      refine SeqK.q (q_asC rfl rfl) rfl rfl rfl ?_
      refine SeqK.nil ?_
      refine AW.reg ?_
      refine SeqK.q (q_mvC rfl rfl) rfl rfl rfl ?_
      refine SeqK.q (q_mvC rfl rfl) rfl rfl rfl ?_
      refine SeqK.q (q_appNil rfl Fx.el26 rfl rfl (by simp)) rfl rfl rfl ?_
      refine SeqK.xw 33 rfl XW.toNil ?_
      refine SeqK.q (q_asC rfl rfl) rfl rfl rfl ?_
      refine SeqK.nil ?_
      refine AW.reg ?_
      refine SeqK.q (q_add _ rfl rfl rfl (w64 (by omega) (by omega))) rfl rfl rfl ?_
      refine SeqK.q (q_mvC rfl rfl) rfl rfl rfl ?_
      refine SeqK.nil ?_
      first | with_reducible refine LoopW.again ?_ | with_reducible refine eth_n (LoopW.again ?_) | with_reducible refine eb_n (eth_n (LoopW.again ?_)) | with_reducible refine eth_n (eb_n (eth_n (LoopW.again ?_)))
      refine AW.seq ?_
      refine AW.reg ?_
      refine SeqK.q (q_lss rfl rfl rfl) rfl rfl rfl ?_
      refine SeqK.nil ?_
      refine AW.seq ?_
      refine AW.condT rfl ?_
      refine AW.skip ?_
      refine AW.seq ?_
      refine AW.block ?_
      refine AW.seq ?_
      refine AW.reg ?_
      refine SeqK.q (q_index _ rfl Fx.sl135 rfl rfl (by omega) (rfl)) rfl rfl rfl ?_
      refine SeqK.q (q_load (.a _) rfl Fx.ty26 rfl rfl rfl) rfl rfl rfl ?_
      refine SeqK.q (q_asC rfl rfl) rfl rfl rfl ?_
      refine SeqK.nil ?_
      refine AW.reg ?_
      refine SeqK.q (q_mvC rfl rfl) rfl rfl rfl ?_
      refine SeqK.q (q_mvC rfl rfl) rfl rfl rfl ?_
      refine SeqK.q (q_appNil rfl Fx.el26 rfl rfl (by simp)) rfl rfl rfl ?_
      refine SeqK.xw 33 rfl XW.toNil ?_
      refine SeqK.q (q_asC rfl rfl) rfl rfl rfl ?_
      refine SeqK.nil ?_
      refine AW.reg ?_
      refine SeqK.q (q_add _ rfl rfl rfl (w64 (by omega) (by omega))) rfl rfl rfl ?_
      refine SeqK.q (q_mvC rfl rfl) rfl rfl rfl ?_
      refine SeqK.nil ?_
      first | with_reducible refine LoopW.again ?_ | with_reducible refine eth_n (LoopW.again ?_) | with_reducible refine eb_n (eth_n (LoopW.again ?_)) | with_reducible refine eth_n (eb_n (eth_n (LoopW.again ?_)))
      refine AW.seq ?_
      refine AW.reg ?_
      refine SeqK.q (q_lss rfl rfl rfl) rfl rfl rfl ?_
      refine SeqK.nil ?_
      refine AW.seq ?_
      refine AW.condF rfl ?_
      refine AW.exit ?_
      refine eth_e ?_
      refine eth_e ?_
      refine exit_here ?_
      refine AW.seq ?_
      refine AW.reg ?_
      refine SeqK.q (q_mvC rfl rfl) rfl rfl rfl ?_
      refine SeqK.q (q_asC rfl rfl) rfl rfl rfl ?_
      refine SeqK.nil ?_
      refine AW.ret ?_
      exact fin_x (x := .c _) H (.tmp rfl .nil) rfl (fun _ _ h => h) ⟨rfl, rfl⟩

set_option maxHeartbeats 4000000 in
set_option maxRecDepth 20000 in
theorem cat_a (H : Heap) (a b : List (Int × Int)) (hl : (a.length + b.length) * 16 ≤ 140737488355328) (ha : a ≠ []) : E.Spec Try.prog 47 [.a (.t (.sl .nn 1 [[.sl .un 2 (a.map prT)], [.sl .un 2 (b.map prT)]]))] H fun x H' => ∃ k, H k = none ∧ x = .c (.a (.os k 0 (a ++ b).length 2)) ∧ H' = upd H k (some (.row 80 2 (((a ++ b).map prT).flatten.map .t))) := by
  have ha0 := List.length_pos_iff.2 ha
  refine Spec.enter Try.func47 rfl ?_
  refine AW.wk (Wk.keep 36 [(0, .c (.a (.t (.sl .nn 1 [[.sl .un 2 (a.map prT)], [.sl .un 2 (b.map prT)]]))))] [] (H) rfl ⟨rfl, trivial⟩ trivial (fun _ _ h => h) rfl) ?_
  refine AW.seq ?_
  refine AW.reg ?_
  refine SeqK.q (q_asC rfl rfl) rfl rfl rfl ?_
  refine SeqK.nil ?_
  refine AW.seq ?_
  refine AW.reg ?_
  refine SeqK.q (q_asC rfl rfl) rfl rfl rfl ?_
  refine SeqK.nil ?_
  refine AW.seq ?_
  refine AW.seq ?_
  refine AW.reg ?_
  refine SeqK.q (q_mvC rfl rfl) rfl rfl rfl ?_
  refine SeqK.q (q_len rfl Fx.un135 rfl) rfl rfl rfl ?_
  refine SeqK.q (q_mvC rfl rfl) rfl rfl rfl ?_
  refine SeqK.nil ?_
  refine AW.block ?_
  refine AW.unroll ?_
  refine AW.seq ?_
  refine AW.reg ?_
  refine SeqK.q (q_lss rfl rfl rfl) rfl rfl rfl ?_
  refine SeqK.nil ?_
  refine AW.seq ?_
  refine AW.condT rfl ?_
  refine AW.skip ?_
  refine AW.seq ?_
  refine AW.block ?_
  refine AW.seq ?_
  refine AW.reg ?_
  refine SeqK.q (q_index _ rfl Fx.sl135 rfl rfl (by omega) (rfl)) rfl rfl rfl ?_
  refine SeqK.q (q_load (.a _) rfl Fx.ty26 rfl rfl rfl) rfl rfl rfl ?_
  refine SeqK.q (q_asC rfl rfl) rfl rfl rfl ?_
  refine SeqK.nil ?_
  refine AW.seq ?_
  refine AW.reg ?_
  refine SeqK.q (q_mvC rfl rfl) rfl rfl rfl ?_
  refine SeqK.q (q_mvC rfl rfl) rfl rfl rfl ?_
  refine SeqK.q (q_len rfl Fx.un26 rfl) rfl rfl rfl ?_
  refine SeqK.q (q_add _ rfl rfl rfl ((by rw [List.length_map, w64 (by omega) (by omega)]; omega : IntKind.i64.wrap _ = ((a.length : Nat) : Int)))) rfl rfl rfl ?_
  refine SeqK.q (q_asC rfl rfl) rfl rfl rfl ?_
  refine SeqK.nil ?_
  refine AW.seq ?_
  refine AW.reg ?_
  refine SeqK.q (q_mvC rfl rfl) rfl rfl rfl ?_
  refine SeqK.q (q_lss rfl rfl rfl) rfl rfl rfl ?_
  refine SeqK.nil ?_
  refine AW.condD rfl (fun h20 => ?_) (fun h20 => ?_)
  ·
    exfalso; omega
  ·
    refine AW.skip ?_
    refine AW.reg ?_
    refine SeqK.q (q_add _ rfl rfl rfl (w64 (by omega) (by omega))) rfl rfl rfl ?_
    refine SeqK.q (q_mvC rfl rfl) rfl rfl rfl ?_
    refine SeqK.nil ?_
    first | with_reducible refine LoopW.again ?_ | with_reducible refine eth_n (LoopW.again ?_) | with_reducible refine eb_n (eth_n (LoopW.again ?_)) | with_reducible refine eth_n (eb_n (eth_n (LoopW.again ?_)))
    refine AW.seq ?_
    refine AW.reg ?_
    refine SeqK.q (q_lss rfl rfl rfl) rfl rfl rfl ?_
    refine SeqK.nil ?_
    refine AW.seq ?_
    refine AW.condT rfl ?_
    refine AW.skip ?_
    refine AW.seq ?_
    refine AW.block ?_
    refine AW.seq ?_
    refine AW.reg ?_
    refine SeqK.q (q_index _ rfl Fx.sl135 rfl rfl (by omega) (rfl)) rfl rfl rfl ?_
    refine SeqK.q (q_load (.a _) rfl Fx.ty26 rfl rfl rfl) rfl rfl rfl ?_
    refine SeqK.q (q_asC rfl rfl) rfl rfl rfl ?_
    refine SeqK.nil ?_
    refine AW.seq ?_
    refine AW.reg ?_
    refine SeqK.q (q_mvC rfl rfl) rfl rfl rfl ?_
    refine SeqK.q (q_mvC rfl rfl) rfl rfl rfl ?_
    refine SeqK.q (q_len rfl Fx.un26 rfl) rfl rfl rfl ?_
    refine SeqK.q (q_add _ rfl rfl rfl ((by rw [List.length_map, w64 (by omega) (by omega)]; omega : IntKind.i64.wrap _ = ((a.length + b.length : Nat) : Int)))) rfl rfl rfl ?_
    refine SeqK.q (q_asC rfl rfl) rfl rfl rfl ?_
    refine SeqK.nil ?_
    refine AW.seq ?_
    refine AW.reg ?_
    refine SeqK.q (q_mvC rfl rfl) rfl rfl rfl ?_
    refine SeqK.q (q_lss rfl rfl rfl) rfl rfl rfl ?_
    refine SeqK.nil ?_
    refine AW.condD rfl (fun h20 => ?_) (fun h20 => ?_)
    ·
      exfalso; omega
    ·
      refine AW.skip ?_
      refine AW.reg ?_
      refine SeqK.q (q_add _ rfl rfl rfl (w64 (by omega) (by omega))) rfl rfl rfl ?_
      refine SeqK.q (q_mvC rfl rfl) rfl rfl rfl ?_
      refine SeqK.nil ?_
      first | with_reducible refine LoopW.again ?_ | with_reducible refine eth_n (LoopW.again ?_) | with_reducible refine eb_n (eth_n (LoopW.again ?_)) | with_reducible refine eth_n (eb_n (eth_n (LoopW.again ?_)))
      refine AW.seq ?_
      refine AW.reg ?_
      refine SeqK.q (q_lss rfl rfl rfl) rfl rfl rfl ?_
      refine SeqK.nil ?_
      refine AW.seq ?_
      refine AW.condF rfl ?_
      refine AW.exit ?_
      refine eth_e ?_
      refine eth_e ?_
      refine exit_here ?_
      refine AW.seq ?_
      refine AW.reg ?_
      refine SeqK.q (q_mvC rfl rfl) rfl rfl rfl ?_
      refine SeqK.callE rfl rfl rfl rfl Fx.fn80 rfl (grow_any _ _ (by omega) (by omega)) (fun _ _ ⟨k, _, h, _⟩ => by rw [h]; rfl) (fun x24 H24 q24 => ?_)
      obtain ⟨kg, hkg, rfl, rfl⟩ := q24
      refine SeqK.q (q_asC rfl rfl) rfl rfl rfl ?_
      refine SeqK.nil ?_
      refine AW.seq ?_
      refine AW.seq ?_
      refine AW.reg ?_
      refine SeqK.q (q_mvC rfl rfl) rfl rfl rfl ?_
      refine SeqK.q (q_len rfl Fx.un135 rfl) rfl rfl rfl ?_
      refine SeqK.q (q_mvC rfl rfl) rfl rfl rfl ?_
      refine SeqK.nil ?_
      refine AW.block ?_
      refine AW.unroll ?_
      refine AW.seq ?_
      refine AW.reg ?_
      refine SeqK.q (q_lss rfl rfl rfl) rfl rfl rfl ?_
      refine SeqK.nil ?_
      refine AW.seq ?_
      refine AW.condT rfl ?_
      refine AW.skip ?_
      refine AW.seq ?_
      refine AW.block ?_
      refine AW.seq ?_
      refine AW.reg ?_
      refine SeqK.q (q_index _ rfl Fx.sl135 rfl rfl (by omega) (rfl)) rfl rfl rfl ?_
      refine SeqK.q (q_load (.a _) rfl Fx.ty26 rfl rfl rfl) rfl rfl rfl ?_
      refine SeqK.q (q_asC rfl rfl) rfl rfl rfl ?_
      refine SeqK.nil ?_
      refine AW.reg ?_
      refine SeqK.q (q_mvC rfl rfl) rfl rfl rfl ?_
      refine SeqK.q (q_mvC rfl rfl) rfl rfl rfl ?_
      refine SeqK.any (e_appGS (k := kg) rfl rfl Fx.el26 rfl (upd_same _ _ _) rfl (by rw [List.length_map]; omega) rfl rfl (fun he => absurd he (by simpa using ha)) (fun _ k1 hk1 => ?_))
      obtain ⟨_, hk1⟩ := upd_lt hk1
      rw [upd_back hkg]
      refine SeqK.q (q_asC rfl rfl) rfl rfl rfl ?_
      refine SeqK.nil ?_
      refine AW.reg ?_
      refine SeqK.q (q_add _ rfl rfl rfl (w64 (by omega) (by omega))) rfl rfl rfl ?_
      refine SeqK.q (q_mvC rfl rfl) rfl rfl rfl ?_
      refine SeqK.nil ?_
      first | with_reducible refine LoopW.again ?_ | with_reducible refine eth_n (LoopW.again ?_) | with_reducible refine eb_n (eth_n (LoopW.again ?_)) | with_reducible refine eth_n (eb_n (eth_n (LoopW.again ?_)))
      refine AW.seq ?_
      refine AW.reg ?_
      refine SeqK.q (q_lss rfl rfl rfl) rfl rfl rfl ?_
      refine SeqK.nil ?_
      refine AW.seq ?_
      refine AW.condT rfl ?_
      refine AW.skip ?_
      refine AW.seq ?_
      refine AW.block ?_
      refine AW.seq ?_
      refine AW.reg ?_
      refine SeqK.q (q_index _ rfl Fx.sl135 rfl rfl (by omega) (rfl)) rfl rfl rfl ?_
      refine SeqK.q (q_load (.a _) rfl Fx.ty26 rfl rfl rfl) rfl rfl rfl ?_
      refine SeqK.q (q_asC rfl rfl) rfl rfl rfl ?_
      refine SeqK.nil ?_
      refine AW.reg ?_
      refine SeqK.q (q_mvC rfl rfl) rfl rfl rfl ?_
      refine SeqK.q (q_mvC rfl rfl) rfl rfl rfl ?_
      refine SeqK.appR1 rfl hk1 rfl Fx.el26 rfl (by rw [List.length_map, pT, List.length_map]) rfl (by rw [List.length_map, List.length_map]; omega) rfl rfl (fun k2 hk2 => ?_)
      refine SeqK.q (q_asC rfl rfl) rfl rfl rfl ?_
      refine SeqK.nil ?_
      refine AW.reg ?_
      refine SeqK.q (q_add _ rfl rfl rfl (w64 (by omega) (by omega))) rfl rfl rfl ?_
      refine SeqK.q (q_mvC rfl rfl) rfl rfl rfl ?_
      refine SeqK.nil ?_
      first | with_reducible refine LoopW.again ?_ | with_reducible refine eth_n (LoopW.again ?_) | with_reducible refine eb_n (eth_n (LoopW.again ?_)) | with_reducible refine eth_n (eb_n (eth_n (LoopW.again ?_)))
      refine AW.seq ?_
      refine AW.reg ?_
      refine SeqK.q (q_lss rfl rfl rfl) rfl rfl rfl ?_
      refine SeqK.nil ?_
      refine AW.seq ?_
      refine AW.condF rfl ?_
      refine AW.exit ?_
      refine eth_e ?_
      refine eth_e ?_
      refine exit_here ?_
      refine AW.seq ?_
      refine AW.reg ?_
      refine SeqK.q (q_mvC rfl rfl) rfl rfl rfl ?_
      refine SeqK.q (q_asC rfl rfl) rfl rfl rfl ?_
      refine SeqK.nil ?_
      refine AW.ret ?_
      exact fin_x (x := .c _) (_) (.tmp rfl .nil) rfl (fun _ _ h => h) (⟨k2, hk2, by rw [show (a ++ b).length = (a.map prT).length + (b.map prT).length by simp], by rw [show ((a ++ b).map prT).flatten.map A.t = (a.map prT).flatten.map A.t ++ (b.map prT).flatten.map A.t by simp]⟩)

set_option maxHeartbeats 4000000 in
set_option maxRecDepth 20000 in
theorem cat_b (H : Heap) (b : List (Int × Int)) (hl : b.length * 16 ≤ 140737488355328) (hb : b ≠ []) : E.Spec Try.prog 47 [.a (.t (.sl .nn 1 [[.sl .un 2 []], [.sl .un 2 (b.map prT)]]))] H fun x H' => ∃ k, H k = none ∧ x = .c (.a (.os k 0 b.length 2)) ∧ H' = upd H k (some (.row 80 2 ((b.map prT).flatten.map .t))) := by
  have hb0 := List.length_pos_iff.2 hb
  refine Spec.enter Try.func47 rfl ?_
  refine AW.wk (Wk.keep 36 [(0, .c (.a (.t (.sl .nn 1 [[.sl .un 2 []], [.sl .un 2 (b.map prT)]]))))] [] (H) rfl ⟨rfl, trivial⟩ trivial (fun _ _ h => h) rfl) ?_
  refine AW.seq ?_
  refine AW.reg ?_
  refine SeqK.q (q_asC rfl rfl) rfl rfl rfl ?_
  refine SeqK.nil ?_
  refine AW.seq ?_
  refine AW.reg ?_
  refine SeqK.q (q_asC rfl rfl) rfl rfl rfl ?_
  refine SeqK.nil ?_
  refine AW.seq ?_
  refine AW.seq ?_
  refine AW.reg ?_
  refine SeqK.q (q_mvC rfl rfl) rfl rfl rfl ?_
  refine SeqK.q (q_len rfl Fx.un135 rfl) rfl rfl rfl ?_
  refine SeqK.q (q_mvC rfl rfl) rfl rfl rfl ?_
  refine SeqK.nil ?_
  refine AW.block ?_
  refine AW.unroll ?_
  refine AW.seq ?_
  refine AW.reg ?_
  refine SeqK.q (q_lss rfl rfl rfl) rfl rfl rfl ?_
  refine SeqK.nil ?_
  refine AW.seq ?_
  refine AW.condT rfl ?_
  refine AW.skip ?_
  refine AW.seq ?_
  refine AW.block ?_
  refine AW.seq ?_
  refine AW.reg ?_
  refine SeqK.q (q_index _ rfl Fx.sl135 rfl rfl (by omega) (rfl)) rfl rfl rfl ?_
  refine SeqK.q (q_load (.a _) rfl Fx.ty26 rfl rfl rfl) rfl rfl rfl ?_
  refine SeqK.q (q_asC rfl rfl) rfl rfl rfl ?_
  refine SeqK.nil ?_
  refine AW.seq ?_
  refine AW.reg ?_
  refine SeqK.q (q_mvC rfl rfl) rfl rfl rfl ?_
  refine SeqK.q (q_mvC rfl rfl) rfl rfl rfl ?_
  refine SeqK.q (q_len rfl Fx.un26 rfl) rfl rfl rfl ?_
  refine SeqK.q (q_add _ rfl rfl rfl ((by rw [w64 (by simp) (by simp)]; simp : IntKind.i64.wrap _ = 0))) rfl rfl rfl ?_
  refine SeqK.q (q_asC rfl rfl) rfl rfl rfl ?_
  refine SeqK.nil ?_
  refine AW.seq ?_
  refine AW.reg ?_
  refine SeqK.q (q_mvC rfl rfl) rfl rfl rfl ?_
  refine SeqK.q (q_lss rfl rfl rfl) rfl rfl rfl ?_
  refine SeqK.nil ?_
  refine AW.condD rfl (fun h20 => ?_) (fun h20 => ?_)
  ·
    simp at h20
  ·
    refine AW.skip ?_
    refine AW.reg ?_
    refine SeqK.q (q_add _ rfl rfl rfl (w64 (by omega) (by omega))) rfl rfl rfl ?_
    refine SeqK.q (q_mvC rfl rfl) rfl rfl rfl ?_
    refine SeqK.nil ?_
    first | with_reducible refine LoopW.again ?_ | with_reducible refine eth_n (LoopW.again ?_) | with_reducible refine eb_n (eth_n (LoopW.again ?_)) | with_reducible refine eth_n (eb_n (eth_n (LoopW.again ?_)))
    refine AW.seq ?_
    refine AW.reg ?_
    refine SeqK.q (q_lss rfl rfl rfl) rfl rfl rfl ?_
    refine SeqK.nil ?_
    refine AW.seq ?_
    refine AW.condT rfl ?_
    refine AW.skip ?_
    refine AW.seq ?_
    refine AW.block ?_
    refine AW.seq ?_
    refine AW.reg ?_
    refine SeqK.q (q_index _ rfl Fx.sl135 rfl rfl (by omega) (rfl)) rfl rfl rfl ?_
    refine SeqK.q (q_load (.a _) rfl Fx.ty26 rfl rfl rfl) rfl rfl rfl ?_
    refine SeqK.q (q_asC rfl rfl) rfl rfl rfl ?_
    refine SeqK.nil ?_
    refine AW.seq ?_
    refine AW.reg ?_
    refine SeqK.q (q_mvC rfl rfl) rfl rfl rfl ?_
    refine SeqK.q (q_mvC rfl rfl) rfl rfl rfl ?_
    refine SeqK.q (q_len rfl Fx.un26 rfl) rfl rfl rfl ?_
    refine SeqK.q (q_add _ rfl rfl rfl ((by rw [List.length_map, w64 (by omega) (by omega)]; omega : IntKind.i64.wrap _ = ((b.length : Nat) : Int)))) rfl rfl rfl ?_
    refine SeqK.q (q_asC rfl rfl) rfl rfl rfl ?_
    refine SeqK.nil ?_
    refine AW.seq ?_
    refine AW.reg ?_
    refine SeqK.q (q_mvC rfl rfl) rfl rfl rfl ?_
    refine SeqK.q (q_lss rfl rfl rfl) rfl rfl rfl ?_
    refine SeqK.nil ?_
    refine AW.condD rfl (fun h20 => ?_) (fun h20 => ?_)
    ·
      exfalso; omega
    ·
      refine AW.skip ?_
      refine AW.reg ?_
      refine SeqK.q (q_add _ rfl rfl rfl (w64 (by omega) (by omega))) rfl rfl rfl ?_
      refine SeqK.q (q_mvC rfl rfl) rfl rfl rfl ?_
      refine SeqK.nil ?_
      first | with_reducible refine LoopW.again ?_ | with_reducible refine eth_n (LoopW.again ?_) | with_reducible refine eb_n (eth_n (LoopW.again ?_)) | with_reducible refine eth_n (eb_n (eth_n (LoopW.again ?_)))
      refine AW.seq ?_
      refine AW.reg ?_
      refine SeqK.q (q_lss rfl rfl rfl) rfl rfl rfl ?_
      refine SeqK.nil ?_
      refine AW.seq ?_
      refine AW.condF rfl ?_
      refine AW.exit ?_
      refine eth_e ?_
      refine eth_e ?_
      refine exit_here ?_
      refine AW.seq ?_
      refine AW.reg ?_
      refine SeqK.q (q_mvC rfl rfl) rfl rfl rfl ?_
      refine SeqK.callE rfl rfl rfl rfl Fx.fn80 rfl (grow_any _ _ (by omega) (by omega)) (fun _ _ ⟨k, _, h, _⟩ => by rw [h]; rfl) (fun x24 H24 q24 => ?_)
      obtain ⟨kg, hkg, rfl, rfl⟩ := q24
      refine SeqK.q (q_asC rfl rfl) rfl rfl rfl ?_
      refine SeqK.nil ?_
      refine AW.seq ?_
      refine AW.seq ?_
      refine AW.reg ?_
      refine SeqK.q (q_mvC rfl rfl) rfl rfl rfl ?_
      refine SeqK.q (q_len rfl Fx.un135 rfl) rfl rfl rfl ?_
      refine SeqK.q (q_mvC rfl rfl) rfl rfl rfl ?_
      refine SeqK.nil ?_
      refine AW.block ?_
      refine AW.unroll ?_
      refine AW.seq ?_
      refine AW.reg ?_
      refine SeqK.q (q_lss rfl rfl rfl) rfl rfl rfl ?_
      refine SeqK.nil ?_
      refine AW.seq ?_
      refine AW.condT rfl ?_
      refine AW.skip ?_
      refine AW.seq ?_
      refine AW.block ?_
      refine AW.seq ?_
      refine AW.reg ?_
      refine SeqK.q (q_index _ rfl Fx.sl135 rfl rfl (by omega) (rfl)) rfl rfl rfl ?_
      refine SeqK.q (q_load (.a _) rfl Fx.ty26 rfl rfl rfl) rfl rfl rfl ?_
      refine SeqK.q (q_asC rfl rfl) rfl rfl rfl ?_
      refine SeqK.nil ?_
      refine AW.reg ?_
      refine SeqK.q (q_mvC rfl rfl) rfl rfl rfl ?_
      refine SeqK.q (q_mvC rfl rfl) rfl rfl rfl ?_
      refine SeqK.any (e_appGS (k := kg) rfl rfl Fx.el26 rfl (upd_same _ _ _) rfl (by simp) rfl rfl (fun _ k1 hk1 => ?_) (fun he => absurd rfl he))
      obtain ⟨_, hk1⟩ := upd_lt hk1
      rw [upd_back hkg]
      refine SeqK.q (q_asC rfl rfl) rfl rfl rfl ?_
      refine SeqK.nil ?_
      refine AW.reg ?_
      refine SeqK.q (q_add _ rfl rfl rfl (w64 (by omega) (by omega))) rfl rfl rfl ?_
      refine SeqK.q (q_mvC rfl rfl) rfl rfl rfl ?_
      refine SeqK.nil ?_
      first | with_reducible refine LoopW.again ?_ | with_reducible refine eth_n (LoopW.again ?_) | with_reducible refine eb_n (eth_n (LoopW.again ?_)) | with_reducible refine eth_n (eb_n (eth_n (LoopW.again ?_)))
      refine AW.seq ?_
      refine AW.reg ?_
      refine SeqK.q (q_lss rfl rfl rfl) rfl rfl rfl ?_
      refine SeqK.nil ?_
      refine AW.seq ?_
      refine AW.condT rfl ?_
      refine AW.skip ?_
      refine AW.seq ?_
      refine AW.block ?_
      refine AW.seq ?_
      refine AW.reg ?_
      refine SeqK.q (q_index _ rfl Fx.sl135 rfl rfl (by omega) (rfl)) rfl rfl rfl ?_
      refine SeqK.q (q_load (.a _) rfl Fx.ty26 rfl rfl rfl) rfl rfl rfl ?_
      refine SeqK.q (q_asC rfl rfl) rfl rfl rfl ?_
      refine SeqK.nil ?_
      refine AW.reg ?_
      refine SeqK.q (q_mvC rfl rfl) rfl rfl rfl ?_
      refine SeqK.q (q_mvC rfl rfl) rfl rfl rfl ?_
      refine SeqK.any (e_appGS (k := k1) rfl rfl Fx.el26 rfl (upd_same _ _ _) rfl (by rw [List.length_map]; omega) rfl rfl (fun he => absurd he (by simpa using hb)) (fun _ k2 hk2 => ?_))
      obtain ⟨_, hk2⟩ := upd_lt hk2
      rw [upd_back hk1]
      refine SeqK.q (q_asC rfl rfl) rfl rfl rfl ?_
      refine SeqK.nil ?_
      refine AW.reg ?_
      refine SeqK.q (q_add _ rfl rfl rfl (w64 (by omega) (by omega))) rfl rfl rfl ?_
      refine SeqK.q (q_mvC rfl rfl) rfl rfl rfl ?_
      refine SeqK.nil ?_
      first | with_reducible refine LoopW.again ?_ | with_reducible refine eth_n (LoopW.again ?_) | with_reducible refine eb_n (eth_n (LoopW.again ?_)) | with_reducible refine eth_n (eb_n (eth_n (LoopW.again ?_)))
      refine AW.seq ?_
      refine AW.reg ?_
      refine SeqK.q (q_lss rfl rfl rfl) rfl rfl rfl ?_
      refine SeqK.nil ?_
      refine AW.seq ?_
      refine AW.condF rfl ?_
      refine AW.exit ?_
      refine eth_e ?_
      refine eth_e ?_
      refine exit_here ?_
      refine AW.seq ?_
      refine AW.reg ?_
      refine SeqK.q (q_mvC rfl rfl) rfl rfl rfl ?_
      refine SeqK.q (q_asC rfl rfl) rfl rfl rfl ?_
      refine SeqK.nil ?_
      refine AW.ret ?_
      exact fin_x (x := .c _) (_) (.tmp rfl .nil) rfl (fun _ _ h => h) (⟨k2, hk2, by rw [show b.length = (b.map prT).length by simp], rfl⟩)

theorem cat_any (a b : List (Int × Int)) (hl : (a.length + b.length) * 16 ≤ 140737488355328) : Pure Try.prog 47 [.a (.t (.sl .nn 1 [[.sl .un 2 (a.map prT)], [.sl .un 2 (b.map prT)]]))] (.c (prsC .un (a ++ b))) := by
  intro H
  have fz : ∀ (p : List (Int × Int)) (x : X) (H' : Heap), (∃ k, H k = none ∧ x = .c (.a (.os k 0 p.length 2)) ∧ H' = upd H k (some (.row 80 2 ((p.map prT).flatten.map .t)))) → ∃ k sz e es, H' k = some (.row e sz (es.flatten.map .t)) ∧ (∀ z ∈ es, z.length = sz) ∧ 0 < sz ∧ (fzX k sz es x = .c (prsC .un p) ∧ upd H' k none = H) := by
    rintro p x H' ⟨k, hk, rfl, rfl⟩
    refine ⟨k, 2, 80, p.map prT, upd_same _ _ _, fun z hz => by obtain ⟨q, _, rfl⟩ := List.mem_map.1 hz; rfl, by decide, ?_, upd_back hk⟩
    simp [fzX, fzC, fzA]
  by_cases ha : a = []
  · subst ha
    by_cases hb : b = []
    · subst hb; exact (cat_00.res XW.nilU) H
    · exact E.Spec.freeze (cat_b H b (by simpa using hl) hb) fun x H' h => fz b x H' h
  · exact E.Spec.freeze (cat_a H a b hl ha) fun x H' h => fz (a ++ b) x H' h

end Go.Proofs.Ytnmfjojhgfipcaa.W
namespace Go.Proofs.Ytnmfjojhgfipcaa.W
open Go.RowKit E
set_option linter.unusedVariables false
set_option linter.unusedSimpArgs false
set_option linter.unusedSectionVars false
theorem rg_int {i : Int} (h : (Lit.int .i64 i).wf = true) : R64 i := ⟨of_decide_eq_true (Bool.and_eq_true_iff.1 h).1, of_decide_eq_true (Bool.and_eq_true_iff.1 h).2⟩
theorem rgV_of {c : Cl} (h : ok28 c) : rgV c := by
  obtain ⟨h1, h2, h3, h4, h5, h6, h7, _⟩ := h
  refine ⟨fun a ha => ⟨rg_int (h3.2.2 a ha).1.1, fun k hk => rg_int ((h3.2.2 a ha).1.2.1.2.2 k hk).2.1⟩, fun a ha => ⟨rg_int (h4.2.2 a ha).1.1, fun k hk => rg_int ((h4.2.2 a ha).1.2.1.2.2 k hk).2.1⟩⟩
theorem few_len {c : Cl} (h : fewP c) : c.sm.length + c.df.length ≤ 80 := by have := h.1; unfold lenN at this; omega

set_option maxRecDepth 20000 in
theorem valid_law (c : Cl) (l : List Vr) (z : Nz) (hc : rgC c) (hgv : rgV c) (hl : l.length ≤ 17592186044000) (H : Heap) : E.Spec Try.prog 7 [clC c, vsC z l] H fun x H' => x = bX true := by
  refine Spec.enter Try.func7 rfl ?_
  refine AW.wk (Wk.keep 25 [(0, .c (clC c)), (1, .c (vsC z l))] [] (H) rfl ⟨rfl, rfl, trivial⟩ trivial (fun _ _ h => h) rfl) ?_
  refine AW.seq ?_
  refine AW.reg ?_
  refine SeqK.r (b_box (r := [_, _, _, _, _, _, _]) rfl rfl rfl rfl rfl rfl) rfl ?_
  refine SeqK.q (q_asC rfl rfl) rfl rfl rfl ?_
  refine SeqK.nil ?_
  refine AW.seq ?_
  refine AW.seq ?_
  refine AW.reg ?_
  refine SeqK.q (q_call _ rfl Fx.fn8 rfl (awake_any) rfl) rfl rfl rfl ?_
  refine SeqK.q (q_not rfl rfl) rfl rfl rfl ?_
  refine SeqK.q (q_mvC rfl rfl) rfl rfl rfl ?_
  refine SeqK.rOn (b_load (r := .g [_, _, _, _, _, _, _]) rfl Fx.ty28 rfl rfl rfl rfl rfl rfl) rfl rfl rfl ?_
  refine SeqK.on (q_call _ rfl Fx.fn21 rfl (few_any c hc) rfl) rfl rfl rfl rfl rfl ?_
  refine SeqK.on (q_not rfl rfl) rfl rfl rfl rfl rfl ?_
  refine SeqK.q (q_pkF rfl rfl rfl) rfl rfl rfl ?_
  refine SeqK.qB (q_mvC rfl rfl) rfl rfl rfl (fun g12 => ?_) (fun g12 => ?_)
  ·
    refine SeqK.off rfl rfl rfl rfl rfl rfl ?_
    refine SeqK.off rfl rfl rfl rfl rfl rfl ?_
    refine SeqK.off rfl rfl rfl rfl rfl rfl ?_
    refine SeqK.q (q_pkT rfl rfl rfl) rfl rfl rfl ?_
    refine SeqK.nil ?_
    refine AW.condT rfl ?_
    refine AW.seq ?_
    refine AW.reg ?_
    refine SeqK.q (q_call _ rfl Fx.fn8 rfl (awake_any) rfl) rfl rfl rfl ?_
    refine SeqK.q (q_asC rfl rfl) rfl rfl rfl ?_
    refine SeqK.nil ?_
    refine AW.ret ?_
    exact fin_x (x := .c _) (H) (.tmp rfl .nil) rfl (fun _ _ h => h) (rfl)
  ·
    refine SeqK.on (q_mvC rfl rfl) rfl rfl rfl rfl rfl ?_
    refine SeqK.on (q_call _ rfl Fx.fn22 rfl (dom_any _ _ hl) rfl) rfl rfl rfl rfl rfl ?_
    refine SeqK.on (q_not rfl rfl) rfl rfl rfl rfl rfl ?_
    refine SeqK.q (q_pkF rfl rfl rfl) rfl rfl rfl ?_
    refine SeqK.nil ?_
    refine AW.cond _ rfl (fun h16 => ?_) (fun h16 => ?_)
    ·
      refine AW.seq ?_
      refine AW.reg ?_
      refine SeqK.q (q_call _ rfl Fx.fn8 rfl (awake_any) rfl) rfl rfl rfl ?_
      refine SeqK.q (q_asC rfl rfl) rfl rfl rfl ?_
      refine SeqK.nil ?_
      refine AW.ret ?_
      exact fin_x (x := .c _) (H) (.tmp rfl .nil) rfl (fun _ _ h => h) (rfl)
    ·
      refine AW.skip ?_
      refine AW.seq ?_
      have hf := few_len (by first | simpa using g12 | simpa using g11 : fewP c)
      refine AW.draw Fx.mo ?_
      refine LexK.r (b_load (r := .g [_, _, _, _, _, _, _]) rfl Fx.ty28 rfl rfl rfl rfl rfl rfl) rfl ?_
      refine LexK.q (q_mvC rfl rfl) rfl rfl rfl ?_
      refine LexK.q (q_call _ rfl Fx.fn23 rfl (dvalid_any c l z hc hgv hl (cat_any _ _ (by omega)) (by rw [List.length_append]; omega)) rfl) rfl rfl rfl ?_
      refine LexK.r (b_load (r := .g [_, _, _, _, _, _, _]) rfl Fx.ty28 rfl rfl rfl rfl rfl rfl) rfl ?_
      refine LexK.q (q_mvC rfl rfl) rfl rfl rfl ?_
      refine LexK.q (q_call _ rfl Fx.fn20 rfl (rvalid_any c l z hc hl) rfl) rfl rfl rfl ?_
      refine LexK.q (q_eqlB rfl Fx.un4 rfl rfl) rfl rfl rfl ?_
      refine LexK.q (q_asC rfl rfl) rfl rfl rfl ?_
      refine LexK.nil (by kernel_rfl) ?_
      refine AW.ret ?_
      exact fin_x (x := .c _) (H) (.tmp rfl .nil) rfl (fun _ _ h => h) (by first | rfl | (simp; done))

end Go.Proofs.Ytnmfjojhgfipcaa.W
