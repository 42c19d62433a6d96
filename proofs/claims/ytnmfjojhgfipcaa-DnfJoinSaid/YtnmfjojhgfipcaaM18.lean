/- Parts of the proof, one after the other: W31, W32, W33, W34, W35, W36, W37, W38, W39, W40, W41, W42, W43. No condition. -/
import Derived.Test.YtnmfjojhgfipcaaM17
import Derived.Shelf.Spec.SlicesGrow
namespace Go.Proofs.Ytnmfjojhgfipcaa.W
open Go.RowKit E
set_option linter.unusedVariables false
set_option linter.unusedSimpArgs false
set_option linter.unusedSectionVars false

def layGrow_ren : Go.Shelf.Ren := ⟨fun | 4 => 80 | n => n, fun | 22 => 26 | 25 => 80 | n => n, fun | n => n⟩
theorem layGrow : Go.Proofs.Lays8.n4 Try.prog layGrow_ren := {
  mixed := by kernel_rfl
  f4 := ⟨"slices.Grow[[][2]int,[2]int]", by decide, Try.func80.trans (congrArg some (by kernel_rfl))⟩
  t0 := Try.underlying0
  a0 := Try.isAgg0
  z0 := Try.sizeOf0
  v0 := Try.zeroValue0
  t3 := Try.underlying3
  a3 := Try.isAgg3
  z3 := Try.sizeOf3
  v3 := Try.zeroValue3
  t4 := Try.underlying4
  a4 := Try.isAgg4
  z4 := Try.sizeOf4
  v4 := Try.zeroValue4
  t9 := Try.underlying9
  a9 := Try.isAgg9
  z9 := Try.sizeOf9
  v9 := Try.zeroValue9
  t20 := Try.underlying20
  a20 := Try.isAgg20
  z20 := Try.sizeOf20
  v20 := Try.zeroValue20
  t22 := Try.underlying26
  a22 := Try.isAgg26
  z22 := Try.sizeOf26
  v22 := Try.zeroValue26 }
theorem grow_any (H : Heap) (N : Nat) (h0 : 0 < N) (hb : N * 16 ≤ 140737488355328) : E.Spec Try.prog 80 [.a (.t (.v (.slice none 0 0))), iC (N : Int)] H fun x H' => ∃ k, H k = none ∧ x = .c (.a (.gs k 2)) ∧ H' = upd H k (some (.new 80 2)) := by
  obtain ⟨i, z, g1, g2, g3, g4, g5, g6, g7⟩ := elB_get Fx.el26
  refine E.Spec.fresh [.slice none 0 0, .int .i64 (N : Int)] (y := .new 80 2) (x := fun k => .c (.a (.gs k 2))) (fun _ => rfl) (fun w => ?_) H
  refine (Any8.slices_Grow_grow layGrow i z g2 g6 (by omega) none 0 0 N [] w (Nat.le_refl _) (by omega) (by rw [g5]; omega) (by omega) (by simp) (fun _ => rfl) (fun a h => by cases h)).mono ?_
  rintro e w' ⟨rfl, rfl⟩
  refine ⟨_, w.heap.size, grownCap w (0 + N) 0 (layGrow_ren.t 25), rfl, rfl, rfl, rfl, ?_, fun b' hb' => ?_, Nat.le_refl _, fun c hu => ?_, fun c k hk => ?_⟩
  · show w.drew.heap.size ≤ _
    show w.heap.size ≤ (w.heap.push _).size
    rw [Array.size_push]; omega
  · exact Below.heap_alloc w.drew _ b' hb'
  · refine ⟨_, heap_new w.drew _, ?_, grownCap_le_maxLen w _ _ _ (by unfold maxLen; omega), hu⟩
    have h9 := grownCap_ge w (0 + N) 0 (layGrow_ren.t 25)
    rw [Array.size_append, Array.size_append, size_zeroCells, size_zeroCells, g7]
    show 0 + (0 + N - 0) * 2 + (grownCap w (0 + N) 0 (layGrow_ren.t 25) - (0 + N)) * 2 = grownCap w (0 + N) 0 (layGrow_ren.t 25) * 2
    omega
  · exact .gs hk

end Go.Proofs.Ytnmfjojhgfipcaa.W
namespace Go.Proofs.Ytnmfjojhgfipcaa.W
open Go.RowKit E
set_option linter.unusedVariables false
set_option linter.unusedSimpArgs false
set_option linter.unusedSectionVars false
theorem pT : ∀ p : List (Int × Int), (p.map prT).flatten.length = p.length * 2
  | [] => rfl
  | a :: r => by
    have := pT r
    simp only [List.map_cons, List.flatten_cons, List.length_append, this, List.length_cons, List.length_nil]; omega
theorem grow_0 : Pure Try.prog 80 [.a (.t (.v (.slice none 0 0))), iC 0] (.c (.a (.t (.v (.slice none 0 0))))) :=
  Pure.of_calls [.slice none 0 0, .int .i64 0] (fun w => Any8.slices_Grow_room layGrow none 0 0 0 w (by omega) (by omega) (by omega) (by omega)) fun c => .t (.v rfl)
theorem XW.toNil {sz : Nat} : XW (.c (.a (.t (.sl .ne sz [])))) (tv (.slice none 0 0)) := ⟨rfl, fun c v h => by
  have h : RepA c.μ c.β (.t (.sl .ne sz [])) v := h
  cases h with | t h =>
  cases h with
  | nil => exact tv_rep rfl
  | emp h2 => exact (h2 rfl).elim
  | sl u ne => exact absurd rfl ne⟩

set_option maxHeartbeats 4000000 in
set_option maxRecDepth 20000 in
theorem cat_00  : Pure Try.prog 47 [.a (.t (.sl .nn 1 [[.sl .un 2 []], [.sl .un 2 []]]))] (.c (.a (.t (.v (.slice none 0 0))))) := by
 intro H
 refine Spec.enter Try.func47 rfl ?_
 refine AW.wk (Wk.keep 36 [(0, .c (.a (.t (.sl .nn 1 [[.sl .un 2 []], [.sl .un 2 []]]))))] [] (H) rfl ⟨rfl, trivial⟩ trivial (fun _ _ h => h) rfl) ?_
 refine sR ?_
 refine sA ?_
 refine SeqK.nil ?_
 refine sR ?_
 refine sA ?_
 refine SeqK.nil ?_
 refine AW.seq ?_
 refine sR ?_
 refine sM ?_
 refine SeqK.q (q_len rfl Fx.un135 rfl) rfl rfl rfl ?_
 refine sM ?_
 refine SeqK.nil ?_
 refine AW.block ?_
 refine AW.unroll ?_
 refine sR ?_
 refine SeqK.q (q_lss rfl rfl rfl) rfl rfl rfl ?_
 refine SeqK.nil ?_
 refine AW.seq ?_
 refine AW.condT rfl ?_
 refine AW.skip ?_
 refine AW.seq ?_
 refine AW.block ?_
 refine sR ?_
 refine SeqK.q (q_index _ rfl Fx.sl135 rfl rfl (by omega) (rfl)) rfl rfl rfl ?_
 refine SeqK.q (q_load (.a _) rfl Fx.ty26 rfl rfl rfl) rfl rfl rfl ?_
 refine sA ?_
 refine SeqK.nil ?_
 refine sR ?_
 refine sM ?_
 refine sM ?_
 refine SeqK.q (q_len rfl Fx.un26 rfl) rfl rfl rfl ?_
 refine SeqK.q (q_add _ rfl rfl rfl ((rfl : IntKind.i64.wrap _ = 0))) rfl rfl rfl ?_
 refine sA ?_
 refine SeqK.nil ?_
 refine sR ?_
 refine sM ?_
 refine SeqK.q (q_lss rfl rfl rfl) rfl rfl rfl ?_
 refine SeqK.nil ?_
 refine AW.condD rfl (fun h20 => ?_) (fun h20 => ?_)
 ·
  exfalso; simp at h20
 ·
  refine AW.skip ?_
  refine AW.reg ?_
  refine SeqK.q (q_add _ rfl rfl rfl (w64 (by omega) (by omega))) rfl rfl rfl ?_
  refine sM ?_
  refine SeqK.nil ?_
  first | with_reducible refine LoopW.again ?_ | with_reducible refine eth_n (LoopW.again ?_) | with_reducible refine eb_n (eth_n (LoopW.again ?_)) | with_reducible refine eth_n (eb_n (eth_n (LoopW.again ?_)))
  refine sR ?_
  refine SeqK.q (q_lss rfl rfl rfl) rfl rfl rfl ?_
  refine SeqK.nil ?_
  refine AW.seq ?_
  refine AW.condT rfl ?_
  refine AW.skip ?_
  refine AW.seq ?_
  refine AW.block ?_
  refine sR ?_
  refine SeqK.q (q_index _ rfl Fx.sl135 rfl rfl (by omega) (rfl)) rfl rfl rfl ?_
  refine SeqK.q (q_load (.a _) rfl Fx.ty26 rfl rfl rfl) rfl rfl rfl ?_
  refine sA ?_
  refine SeqK.nil ?_
  refine sR ?_
  refine sM ?_
  refine sM ?_
  refine SeqK.q (q_len rfl Fx.un26 rfl) rfl rfl rfl ?_
  refine SeqK.q (q_add _ rfl rfl rfl ((rfl : IntKind.i64.wrap _ = 0))) rfl rfl rfl ?_
  refine sA ?_
  refine SeqK.nil ?_
  refine sR ?_
  refine sM ?_
  refine SeqK.q (q_lss rfl rfl rfl) rfl rfl rfl ?_
  refine SeqK.nil ?_
  refine AW.condD rfl (fun h20 => ?_) (fun h20 => ?_)
  ·
   exfalso; simp at h20
  ·
   refine AW.skip ?_
   refine AW.reg ?_
   refine SeqK.q (q_add _ rfl rfl rfl (w64 (by omega) (by omega))) rfl rfl rfl ?_
   refine sM ?_
   refine SeqK.nil ?_
   first | with_reducible refine LoopW.again ?_ | with_reducible refine eth_n (LoopW.again ?_) | with_reducible refine eb_n (eth_n (LoopW.again ?_)) | with_reducible refine eth_n (eb_n (eth_n (LoopW.again ?_)))
   refine sR ?_
   refine SeqK.q (q_lss rfl rfl rfl) rfl rfl rfl ?_
   refine SeqK.nil ?_
   refine AW.seq ?_
   refine AW.condF rfl ?_
   refine AW.exit ?_
   refine eth_e ?_
   refine eth_e ?_
   refine exit_here ?_
   refine sR ?_
   refine sM ?_
   refine SeqK.q (q_call _ rfl Fx.fn80 rfl (grow_0) rfl) rfl rfl rfl ?_
   refine sA ?_
   refine SeqK.nil ?_
   refine AW.seq ?_
   refine sR ?_
   refine sM ?_
   refine SeqK.q (q_len rfl Fx.un135 rfl) rfl rfl rfl ?_
   refine sM ?_
   refine SeqK.nil ?_
   refine AW.block ?_
   refine AW.unroll ?_
   refine sR ?_
   refine SeqK.q (q_lss rfl rfl rfl) rfl rfl rfl ?_
   refine SeqK.nil ?_
   refine AW.seq ?_
   refine AW.condT rfl ?_
   refine AW.skip ?_
   refine AW.seq ?_
   refine AW.block ?_
   refine sR ?_
   refine SeqK.q (q_index _ rfl Fx.sl135 rfl rfl (by omega) (rfl)) rfl rfl rfl ?_
   refine SeqK.q (q_load (.a _) rfl Fx.ty26 rfl rfl rfl) rfl rfl rfl ?_
   refine sA ?_
   refine SeqK.nil ?_
   refine AW.reg ?_
   refine sM ?_
   refine sM ?_
   refine SeqK.q (q_appNil rfl Fx.el26 rfl rfl (by simp)) rfl rfl rfl ?_
   refine SeqK.xw 33 rfl XW.toNil ?_
   refine sA ?_
   refine SeqK.nil ?_
   refine AW.reg ?_
   refine SeqK.q (q_add _ rfl rfl rfl (w64 (by omega) (by omega))) rfl rfl rfl ?_
   refine sM ?_
   refine SeqK.nil ?_
   first | with_reducible refine LoopW.again ?_ | with_reducible refine eth_n (LoopW.again ?_) | with_reducible refine eb_n (eth_n (LoopW.again ?_)) | with_reducible refine eth_n (eb_n (eth_n (LoopW.again ?_)))
   refine sR ?_
   refine SeqK.q (q_lss rfl rfl rfl) rfl rfl rfl ?_
   refine SeqK.nil ?_
   refine AW.seq ?_
   refine AW.condT rfl ?_
   refine AW.skip ?_
   refine AW.seq ?_
   refine AW.block ?_
   refine sR ?_
   refine SeqK.q (q_index _ rfl Fx.sl135 rfl rfl (by omega) (rfl)) rfl rfl rfl ?_
   refine SeqK.q (q_load (.a _) rfl Fx.ty26 rfl rfl rfl) rfl rfl rfl ?_
   refine sA ?_
   refine SeqK.nil ?_
   refine AW.reg ?_
   refine sM ?_
   refine sM ?_
   refine SeqK.q (q_appNil rfl Fx.el26 rfl rfl (by simp)) rfl rfl rfl ?_
   refine SeqK.xw 33 rfl XW.toNil ?_
   refine sA ?_
   refine SeqK.nil ?_
   refine AW.reg ?_
   refine SeqK.q (q_add _ rfl rfl rfl (w64 (by omega) (by omega))) rfl rfl rfl ?_
   refine sM ?_
   refine SeqK.nil ?_
   first | with_reducible refine LoopW.again ?_ | with_reducible refine eth_n (LoopW.again ?_) | with_reducible refine eb_n (eth_n (LoopW.again ?_)) | with_reducible refine eth_n (eb_n (eth_n (LoopW.again ?_)))
   refine sR ?_
   refine SeqK.q (q_lss rfl rfl rfl) rfl rfl rfl ?_
   refine SeqK.nil ?_
   refine AW.seq ?_
   refine AW.condF rfl ?_
   refine AW.exit ?_
   refine eth_e ?_
   refine eth_e ?_
   refine exit_here ?_
   refine sR ?_
   refine sM ?_
   refine sA ?_
   refine SeqK.nil ?_
   refine AW.ret ?_
   exact fin_x (x := .c _) H (.tmp rfl .nil) rfl (fun _ _ h => h) ⟨rfl, rfl⟩

set_option maxHeartbeats 4000000 in
set_option maxRecDepth 20000 in
theorem cat_a (H : Heap) (a b : List (Int × Int)) (hl : (a.length + b.length) * 16 ≤ 140737488355328) (ha : a ≠ []) : E.Spec Try.prog 47 [.a (.t (.sl .nn 1 [[.sl .un 2 (a.map prT)], [.sl .un 2 (b.map prT)]]))] H fun x H' => ∃ k, H k = none ∧ x = .c (.a (.os k 0 (a ++ b).length 2)) ∧ H' = upd H k (some (.row 80 2 (((a ++ b).map prT).flatten.map .t))) := by
 have ha0 := List.length_pos_iff.2 ha
 refine Spec.enter Try.func47 rfl ?_
 refine AW.wk (Wk.keep 36 [(0, .c (.a (.t (.sl .nn 1 [[.sl .un 2 (a.map prT)], [.sl .un 2 (b.map prT)]]))))] [] (H) rfl ⟨rfl, trivial⟩ trivial (fun _ _ h => h) rfl) ?_
 refine sR ?_
 refine sA ?_
 refine SeqK.nil ?_
 refine sR ?_
 refine sA ?_
 refine SeqK.nil ?_
 refine AW.seq ?_
 refine sR ?_
 refine sM ?_
 refine SeqK.q (q_len rfl Fx.un135 rfl) rfl rfl rfl ?_
 refine sM ?_
 refine SeqK.nil ?_
 refine AW.block ?_
 refine AW.unroll ?_
 refine sR ?_
 refine SeqK.q (q_lss rfl rfl rfl) rfl rfl rfl ?_
 refine SeqK.nil ?_
 refine AW.seq ?_
 refine AW.condT rfl ?_
 refine AW.skip ?_
 refine AW.seq ?_
 refine AW.block ?_
 refine sR ?_
 refine SeqK.q (q_index _ rfl Fx.sl135 rfl rfl (by omega) (rfl)) rfl rfl rfl ?_
 refine SeqK.q (q_load (.a _) rfl Fx.ty26 rfl rfl rfl) rfl rfl rfl ?_
 refine sA ?_
 refine SeqK.nil ?_
 refine sR ?_
 refine sM ?_
 refine sM ?_
 refine SeqK.q (q_len rfl Fx.un26 rfl) rfl rfl rfl ?_
 refine SeqK.q (q_add _ rfl rfl rfl ((by rw [List.length_map, w64 (by omega) (by omega)]; omega : IntKind.i64.wrap _ = ((a.length : Nat) : Int)))) rfl rfl rfl ?_
 refine sA ?_
 refine SeqK.nil ?_
 refine sR ?_
 refine sM ?_
 refine SeqK.q (q_lss rfl rfl rfl) rfl rfl rfl ?_
 refine SeqK.nil ?_
 refine AW.condD rfl (fun h20 => ?_) (fun h20 => ?_)
 ·
  exfalso; omega
 ·
  refine AW.skip ?_
  refine AW.reg ?_
  refine SeqK.q (q_add _ rfl rfl rfl (w64 (by omega) (by omega))) rfl rfl rfl ?_
  refine sM ?_
  refine SeqK.nil ?_
  first | with_reducible refine LoopW.again ?_ | with_reducible refine eth_n (LoopW.again ?_) | with_reducible refine eb_n (eth_n (LoopW.again ?_)) | with_reducible refine eth_n (eb_n (eth_n (LoopW.again ?_)))
  refine sR ?_
  refine SeqK.q (q_lss rfl rfl rfl) rfl rfl rfl ?_
  refine SeqK.nil ?_
  refine AW.seq ?_
  refine AW.condT rfl ?_
  refine AW.skip ?_
  refine AW.seq ?_
  refine AW.block ?_
  refine sR ?_
  refine SeqK.q (q_index _ rfl Fx.sl135 rfl rfl (by omega) (rfl)) rfl rfl rfl ?_
  refine SeqK.q (q_load (.a _) rfl Fx.ty26 rfl rfl rfl) rfl rfl rfl ?_
  refine sA ?_
  refine SeqK.nil ?_
  refine sR ?_
  refine sM ?_
  refine sM ?_
  refine SeqK.q (q_len rfl Fx.un26 rfl) rfl rfl rfl ?_
  refine SeqK.q (q_add _ rfl rfl rfl ((by rw [List.length_map, w64 (by omega) (by omega)]; omega : IntKind.i64.wrap _ = ((a.length + b.length : Nat) : Int)))) rfl rfl rfl ?_
  refine sA ?_
  refine SeqK.nil ?_
  refine sR ?_
  refine sM ?_
  refine SeqK.q (q_lss rfl rfl rfl) rfl rfl rfl ?_
  refine SeqK.nil ?_
  refine AW.condD rfl (fun h20 => ?_) (fun h20 => ?_)
  ·
   exfalso; omega
  ·
   refine AW.skip ?_
   refine AW.reg ?_
   refine SeqK.q (q_add _ rfl rfl rfl (w64 (by omega) (by omega))) rfl rfl rfl ?_
   refine sM ?_
   refine SeqK.nil ?_
   first | with_reducible refine LoopW.again ?_ | with_reducible refine eth_n (LoopW.again ?_) | with_reducible refine eb_n (eth_n (LoopW.again ?_)) | with_reducible refine eth_n (eb_n (eth_n (LoopW.again ?_)))
   refine sR ?_
   refine SeqK.q (q_lss rfl rfl rfl) rfl rfl rfl ?_
   refine SeqK.nil ?_
   refine AW.seq ?_
   refine AW.condF rfl ?_
   refine AW.exit ?_
   refine eth_e ?_
   refine eth_e ?_
   refine exit_here ?_
   refine sR ?_
   refine sM ?_
   refine SeqK.callE rfl rfl rfl rfl Fx.fn80 rfl (grow_any _ _ (by omega) (by omega)) (fun _ _ ⟨k, _, h, _⟩ => by rw [h]; rfl) (fun x24 H24 q24 => ?_)
   obtain ⟨kg, hkg, rfl, rfl⟩ := q24
   refine sA ?_
   refine SeqK.nil ?_
   refine AW.seq ?_
   refine sR ?_
   refine sM ?_
   refine SeqK.q (q_len rfl Fx.un135 rfl) rfl rfl rfl ?_
   refine sM ?_
   refine SeqK.nil ?_
   refine AW.block ?_
   refine AW.unroll ?_
   refine sR ?_
   refine SeqK.q (q_lss rfl rfl rfl) rfl rfl rfl ?_
   refine SeqK.nil ?_
   refine AW.seq ?_
   refine AW.condT rfl ?_
   refine AW.skip ?_
   refine AW.seq ?_
   refine AW.block ?_
   refine sR ?_
   refine SeqK.q (q_index _ rfl Fx.sl135 rfl rfl (by omega) (rfl)) rfl rfl rfl ?_
   refine SeqK.q (q_load (.a _) rfl Fx.ty26 rfl rfl rfl) rfl rfl rfl ?_
   refine sA ?_
   refine SeqK.nil ?_
   refine AW.reg ?_
   refine sM ?_
   refine sM ?_
   refine SeqK.any (e_appGS (k := kg) rfl rfl Fx.el26 rfl (upd_same _ _ _) rfl (by rw [List.length_map]; omega) rfl rfl (fun he => absurd he (by simpa using ha)) (fun _ k1 hk1 => ?_))
   obtain ⟨_, hk1⟩ := upd_lt hk1
   rw [upd_back hkg]
   refine sA ?_
   refine SeqK.nil ?_
   refine AW.reg ?_
   refine SeqK.q (q_add _ rfl rfl rfl (w64 (by omega) (by omega))) rfl rfl rfl ?_
   refine sM ?_
   refine SeqK.nil ?_
   first | with_reducible refine LoopW.again ?_ | with_reducible refine eth_n (LoopW.again ?_) | with_reducible refine eb_n (eth_n (LoopW.again ?_)) | with_reducible refine eth_n (eb_n (eth_n (LoopW.again ?_)))
   refine sR ?_
   refine SeqK.q (q_lss rfl rfl rfl) rfl rfl rfl ?_
   refine SeqK.nil ?_
   refine AW.seq ?_
   refine AW.condT rfl ?_
   refine AW.skip ?_
   refine AW.seq ?_
   refine AW.block ?_
   refine sR ?_
   refine SeqK.q (q_index _ rfl Fx.sl135 rfl rfl (by omega) (rfl)) rfl rfl rfl ?_
   refine SeqK.q (q_load (.a _) rfl Fx.ty26 rfl rfl rfl) rfl rfl rfl ?_
   refine sA ?_
   refine SeqK.nil ?_
   refine AW.reg ?_
   refine sM ?_
   refine sM ?_
   refine SeqK.appR1 rfl hk1 rfl Fx.el26 rfl (by rw [List.length_map, pT, List.length_map]) rfl (by rw [List.length_map, List.length_map]; omega) rfl rfl (fun k2 hk2 => ?_)
   refine sA ?_
   refine SeqK.nil ?_
   refine AW.reg ?_
   refine SeqK.q (q_add _ rfl rfl rfl (w64 (by omega) (by omega))) rfl rfl rfl ?_
   refine sM ?_
   refine SeqK.nil ?_
   first | with_reducible refine LoopW.again ?_ | with_reducible refine eth_n (LoopW.again ?_) | with_reducible refine eb_n (eth_n (LoopW.again ?_)) | with_reducible refine eth_n (eb_n (eth_n (LoopW.again ?_)))
   refine sR ?_
   refine SeqK.q (q_lss rfl rfl rfl) rfl rfl rfl ?_
   refine SeqK.nil ?_
   refine AW.seq ?_
   refine AW.condF rfl ?_
   refine AW.exit ?_
   refine eth_e ?_
   refine eth_e ?_
   refine exit_here ?_
   refine sR ?_
   refine sM ?_
   refine sA ?_
   refine SeqK.nil ?_
   refine AW.ret ?_
   exact fin_x (x := .c _) (_) (.tmp rfl .nil) rfl (fun _ _ h => h) (⟨k2, hk2, by rw [show (a ++ b).length = (a.map prT).length + (b.map prT).length by simp], by rw [show ((a ++ b).map prT).flatten.map A.t = (a.map prT).flatten.map A.t ++ (b.map prT).flatten.map A.t by simp]⟩)

set_option maxHeartbeats 4000000 in
set_option maxRecDepth 20000 in
theorem cat_b (H : Heap) (b : List (Int × Int)) (hl : b.length * 16 ≤ 140737488355328) (hb : b ≠ []) : E.Spec Try.prog 47 [.a (.t (.sl .nn 1 [[.sl .un 2 []], [.sl .un 2 (b.map prT)]]))] H fun x H' => ∃ k, H k = none ∧ x = .c (.a (.os k 0 b.length 2)) ∧ H' = upd H k (some (.row 80 2 ((b.map prT).flatten.map .t))) := by
 have hb0 := List.length_pos_iff.2 hb
 refine Spec.enter Try.func47 rfl ?_
 refine AW.wk (Wk.keep 36 [(0, .c (.a (.t (.sl .nn 1 [[.sl .un 2 []], [.sl .un 2 (b.map prT)]]))))] [] (H) rfl ⟨rfl, trivial⟩ trivial (fun _ _ h => h) rfl) ?_
 refine sR ?_
 refine sA ?_
 refine SeqK.nil ?_
 refine sR ?_
 refine sA ?_
 refine SeqK.nil ?_
 refine AW.seq ?_
 refine sR ?_
 refine sM ?_
 refine SeqK.q (q_len rfl Fx.un135 rfl) rfl rfl rfl ?_
 refine sM ?_
 refine SeqK.nil ?_
 refine AW.block ?_
 refine AW.unroll ?_
 refine sR ?_
 refine SeqK.q (q_lss rfl rfl rfl) rfl rfl rfl ?_
 refine SeqK.nil ?_
 refine AW.seq ?_
 refine AW.condT rfl ?_
 refine AW.skip ?_
 refine AW.seq ?_
 refine AW.block ?_
 refine sR ?_
 refine SeqK.q (q_index _ rfl Fx.sl135 rfl rfl (by omega) (rfl)) rfl rfl rfl ?_
 refine SeqK.q (q_load (.a _) rfl Fx.ty26 rfl rfl rfl) rfl rfl rfl ?_
 refine sA ?_
 refine SeqK.nil ?_
 refine sR ?_
 refine sM ?_
 refine sM ?_
 refine SeqK.q (q_len rfl Fx.un26 rfl) rfl rfl rfl ?_
 refine SeqK.q (q_add _ rfl rfl rfl ((by rw [w64 (by simp) (by simp)]; simp : IntKind.i64.wrap _ = 0))) rfl rfl rfl ?_
 refine sA ?_
 refine SeqK.nil ?_
 refine sR ?_
 refine sM ?_
 refine SeqK.q (q_lss rfl rfl rfl) rfl rfl rfl ?_
 refine SeqK.nil ?_
 refine AW.condD rfl (fun h20 => ?_) (fun h20 => ?_)
 ·
  simp at h20
 ·
  refine AW.skip ?_
  refine AW.reg ?_
  refine SeqK.q (q_add _ rfl rfl rfl (w64 (by omega) (by omega))) rfl rfl rfl ?_
  refine sM ?_
  refine SeqK.nil ?_
  first | with_reducible refine LoopW.again ?_ | with_reducible refine eth_n (LoopW.again ?_) | with_reducible refine eb_n (eth_n (LoopW.again ?_)) | with_reducible refine eth_n (eb_n (eth_n (LoopW.again ?_)))
  refine sR ?_
  refine SeqK.q (q_lss rfl rfl rfl) rfl rfl rfl ?_
  refine SeqK.nil ?_
  refine AW.seq ?_
  refine AW.condT rfl ?_
  refine AW.skip ?_
  refine AW.seq ?_
  refine AW.block ?_
  refine sR ?_
  refine SeqK.q (q_index _ rfl Fx.sl135 rfl rfl (by omega) (rfl)) rfl rfl rfl ?_
  refine SeqK.q (q_load (.a _) rfl Fx.ty26 rfl rfl rfl) rfl rfl rfl ?_
  refine sA ?_
  refine SeqK.nil ?_
  refine sR ?_
  refine sM ?_
  refine sM ?_
  refine SeqK.q (q_len rfl Fx.un26 rfl) rfl rfl rfl ?_
  refine SeqK.q (q_add _ rfl rfl rfl ((by rw [List.length_map, w64 (by omega) (by omega)]; omega : IntKind.i64.wrap _ = ((b.length : Nat) : Int)))) rfl rfl rfl ?_
  refine sA ?_
  refine SeqK.nil ?_
  refine sR ?_
  refine sM ?_
  refine SeqK.q (q_lss rfl rfl rfl) rfl rfl rfl ?_
  refine SeqK.nil ?_
  refine AW.condD rfl (fun h20 => ?_) (fun h20 => ?_)
  ·
   exfalso; omega
  ·
   refine AW.skip ?_
   refine AW.reg ?_
   refine SeqK.q (q_add _ rfl rfl rfl (w64 (by omega) (by omega))) rfl rfl rfl ?_
   refine sM ?_
   refine SeqK.nil ?_
   first | with_reducible refine LoopW.again ?_ | with_reducible refine eth_n (LoopW.again ?_) | with_reducible refine eb_n (eth_n (LoopW.again ?_)) | with_reducible refine eth_n (eb_n (eth_n (LoopW.again ?_)))
   refine sR ?_
   refine SeqK.q (q_lss rfl rfl rfl) rfl rfl rfl ?_
   refine SeqK.nil ?_
   refine AW.seq ?_
   refine AW.condF rfl ?_
   refine AW.exit ?_
   refine eth_e ?_
   refine eth_e ?_
   refine exit_here ?_
   refine sR ?_
   refine sM ?_
   refine SeqK.callE rfl rfl rfl rfl Fx.fn80 rfl (grow_any _ _ (by omega) (by omega)) (fun _ _ ⟨k, _, h, _⟩ => by rw [h]; rfl) (fun x24 H24 q24 => ?_)
   obtain ⟨kg, hkg, rfl, rfl⟩ := q24
   refine sA ?_
   refine SeqK.nil ?_
   refine AW.seq ?_
   refine sR ?_
   refine sM ?_
   refine SeqK.q (q_len rfl Fx.un135 rfl) rfl rfl rfl ?_
   refine sM ?_
   refine SeqK.nil ?_
   refine AW.block ?_
   refine AW.unroll ?_
   refine sR ?_
   refine SeqK.q (q_lss rfl rfl rfl) rfl rfl rfl ?_
   refine SeqK.nil ?_
   refine AW.seq ?_
   refine AW.condT rfl ?_
   refine AW.skip ?_
   refine AW.seq ?_
   refine AW.block ?_
   refine sR ?_
   refine SeqK.q (q_index _ rfl Fx.sl135 rfl rfl (by omega) (rfl)) rfl rfl rfl ?_
   refine SeqK.q (q_load (.a _) rfl Fx.ty26 rfl rfl rfl) rfl rfl rfl ?_
   refine sA ?_
   refine SeqK.nil ?_
   refine AW.reg ?_
   refine sM ?_
   refine sM ?_
   refine SeqK.any (e_appGS (k := kg) rfl rfl Fx.el26 rfl (upd_same _ _ _) rfl (by simp) rfl rfl (fun _ k1 hk1 => ?_) (fun he => absurd rfl he))
   obtain ⟨_, hk1⟩ := upd_lt hk1
   rw [upd_back hkg]
   refine sA ?_
   refine SeqK.nil ?_
   refine AW.reg ?_
   refine SeqK.q (q_add _ rfl rfl rfl (w64 (by omega) (by omega))) rfl rfl rfl ?_
   refine sM ?_
   refine SeqK.nil ?_
   first | with_reducible refine LoopW.again ?_ | with_reducible refine eth_n (LoopW.again ?_) | with_reducible refine eb_n (eth_n (LoopW.again ?_)) | with_reducible refine eth_n (eb_n (eth_n (LoopW.again ?_)))
   refine sR ?_
   refine SeqK.q (q_lss rfl rfl rfl) rfl rfl rfl ?_
   refine SeqK.nil ?_
   refine AW.seq ?_
   refine AW.condT rfl ?_
   refine AW.skip ?_
   refine AW.seq ?_
   refine AW.block ?_
   refine sR ?_
   refine SeqK.q (q_index _ rfl Fx.sl135 rfl rfl (by omega) (rfl)) rfl rfl rfl ?_
   refine SeqK.q (q_load (.a _) rfl Fx.ty26 rfl rfl rfl) rfl rfl rfl ?_
   refine sA ?_
   refine SeqK.nil ?_
   refine AW.reg ?_
   refine sM ?_
   refine sM ?_
   refine SeqK.any (e_appGS (k := k1) rfl rfl Fx.el26 rfl (upd_same _ _ _) rfl (by rw [List.length_map]; omega) rfl rfl (fun he => absurd he (by simpa using hb)) (fun _ k2 hk2 => ?_))
   obtain ⟨_, hk2⟩ := upd_lt hk2
   rw [upd_back hk1]
   refine sA ?_
   refine SeqK.nil ?_
   refine AW.reg ?_
   refine SeqK.q (q_add _ rfl rfl rfl (w64 (by omega) (by omega))) rfl rfl rfl ?_
   refine sM ?_
   refine SeqK.nil ?_
   first | with_reducible refine LoopW.again ?_ | with_reducible refine eth_n (LoopW.again ?_) | with_reducible refine eb_n (eth_n (LoopW.again ?_)) | with_reducible refine eth_n (eb_n (eth_n (LoopW.again ?_)))
   refine sR ?_
   refine SeqK.q (q_lss rfl rfl rfl) rfl rfl rfl ?_
   refine SeqK.nil ?_
   refine AW.seq ?_
   refine AW.condF rfl ?_
   refine AW.exit ?_
   refine eth_e ?_
   refine eth_e ?_
   refine exit_here ?_
   refine sR ?_
   refine sM ?_
   refine sA ?_
   refine SeqK.nil ?_
   refine AW.ret ?_
   exact fin_x (x := .c _) (_) (.tmp rfl .nil) rfl (fun _ _ h => h) (⟨k2, hk2, by rw [show b.length = (b.map prT).length by simp], rfl⟩)

theorem cat_any (a b : List (Int × Int)) (hl : (a.length + b.length) * 16 ≤ 140737488355328) : Pure Try.prog 47 [.a (.t (.sl .nn 1 [[.sl .un 2 (a.map prT)], [.sl .un 2 (b.map prT)]]))] (.c (prsC .un (a ++ b))) := by
  intro H
  have fz : ∀ (p : List (Int × Int)) (x : X) (H' : Heap), (∃ k, H k = none ∧ x = .c (.a (.os k 0 p.length 2)) ∧ H' = upd H k (some (.row 80 2 ((p.map prT).flatten.map .t)))) → ∃ k sz e es, H' k = some (.row e sz (es.flatten.map .t)) ∧ (∀ z ∈ es, z.length = sz) ∧ 0 < sz ∧ (fzX k sz es x = .c (prsC .un p) ∧ upd H' k none = H) := by
    rintro p x H' ⟨k, hk, rfl, rfl⟩
    refine ⟨k, 2, 80, p.map prT, upd_same _ _ _, fun z hz => by obtain ⟨q, _, rfl⟩ := List.mem_map.1 hz; rfl, by decide, ?_, upd_back hk⟩
    simp [fzX, fzC, fzA]
  by_cases ha : a = []
  · subst ha
    by_cases hb : b = []
    · subst hb; exact (cat_00.res XW.nilU) H
    · exact E.Spec.freeze (cat_b H b (by simpa using hl) hb) fun x H' h => fz b x H' h
  · exact E.Spec.freeze (cat_a H a b hl ha) fun x H' h => fz (a ++ b) x H' h

end Go.Proofs.Ytnmfjojhgfipcaa.W
namespace Go.Proofs.Ytnmfjojhgfipcaa.W
open Go.RowKit E
set_option linter.unusedVariables false
set_option linter.unusedSimpArgs false
set_option linter.unusedSectionVars false
end Go.Proofs.Ytnmfjojhgfipcaa.W
namespace Go.Proofs.Ytnmfjojhgfipcaa.W
open Go.RowKit E
set_option linter.unusedVariables false
set_option linter.unusedSimpArgs false
set_option linter.unusedSectionVars false
abbrev rtQ (q : List Int) (n : Int) (j : Nat) (h : j < q.length) : Prop := (0 ≤ q[j] ∧ q[j] < n) ∧ ∀ i (hi : i < j), q[j] ≠ q[i]'(by omega)
abbrev rtP (l : List Vr) (q : List Int) (n : Int) : Prop := q.length = l.length ∧ (0 ≤ n ∧ n ≤ 20) ∧ ∀ j (h : j < q.length), rtQ q n j h
instance rtDec (l : List Vr) (q : List Int) (n : Int) : Decidable (rtP l q n) := @instDecidableAnd _ _ inferInstance (@instDecidableAnd _ _ inferInstance (inferInstanceAs (Decidable (∀ j (h : j < q.length), rtQ q n j h))))

end Go.Proofs.Ytnmfjojhgfipcaa.W
namespace Go.Proofs.Ytnmfjojhgfipcaa.W
open Go.RowKit E
set_option linter.unusedVariables false
set_option linter.unusedSimpArgs false
set_option linter.unusedSectionVars false
/-- the elements in order, each of them once -/
def dd (l : List Int) : List Int := Lib.compact (l.mergeSort fun x y => decide (x ≤ y))
abbrev sI (l : List Int) : Prop := l.Pairwise (· < ·)
theorem sI_ext : ∀ {l m : List Int}, sI l → sI m → (∀ x, x ∈ l ↔ x ∈ m) → l = m
  | [], [], _, _, _ => rfl
  | [], y :: m, _, _, h => absurd ((h y).2 (by simp)) (by simp)
  | x :: l, [], _, _, h => absurd ((h x).1 (by simp)) (by simp)
  | x :: l, y :: m, hl, hm, h => by
    have h1 := List.pairwise_cons.1 hl
    have h2 := List.pairwise_cons.1 hm
    have hxy : x = y := by
      have a := (h x).1 (by simp)
      have b := (h y).2 (by simp)
      rcases List.mem_cons.1 a with e | e
      · exact e
      · rcases List.mem_cons.1 b with f | f
        · exact f.symm
        · have := h2.1 x e; have := h1.1 y f; omega
    subst hxy
    rw [sI_ext h1.2 h2.2 fun z => ?_]
    constructor
    · intro hz
      rcases List.mem_cons.1 ((h z).1 (List.mem_cons_of_mem _ hz)) with e | e
      · have := h1.1 z hz; omega
      · exact e
    · intro hz
      rcases List.mem_cons.1 ((h z).2 (List.mem_cons_of_mem _ hz)) with e | e
      · have := h2.1 z hz; omega
      · exact e
theorem cm_len (l : List Int) : (Lib.compact l).length ≤ l.length := Lib.compact_length_le l
theorem cm_upTo (d : Array Int) (hd : ∀ i j, i ≤ j → j < d.size → d[i]! ≤ d[j]!) : ∀ m, m ≤ d.size → sI (Lib.compactUpTo d m) ∧ (∀ x, x ∈ Lib.compactUpTo d m ↔ ∃ j, j < m ∧ d[j]! = x)
  | 0, _ => ⟨by simp [Lib.compactUpTo, sI], by simp [Lib.compactUpTo]⟩
  | m + 1, h => by
    obtain ⟨h1, h2⟩ := cm_upTo d hd m (by omega)
    rw [Lib.compactUpTo_succ]
    by_cases hk : Lib.keeps d m = true
    · rw [if_pos hk]
      refine ⟨List.pairwise_append.2 ⟨h1, by simp, fun a ha b hb => ?_⟩, fun x => ?_⟩
      · obtain ⟨j, hj, rfl⟩ := (h2 a).1 ha
        simp at hb; subst hb
        have hne : d[m]! ≠ d[m - 1]! := by
          have : m = 0 ∨ d[m]! ≠ d[m - 1]! := by simpa [Lib.keeps] using hk
          rcases this with e | e
          · omega
          · exact e
        have e1 := hd j (m - 1) (by omega) (by omega)
        have e2 := hd (m - 1) m (by omega) (by omega)
        omega
      · rw [List.mem_append, h2]
        constructor
        · rintro (⟨j, hj, e⟩ | e)
          · exact ⟨j, by omega, e⟩
          · exact ⟨m, by omega, (List.mem_singleton.1 e).symm⟩
        · rintro ⟨j, hj, e⟩
          by_cases hjm : j = m
          · subst hjm; exact .inr (by simp [e])
          · exact .inl ⟨j, by omega, e⟩
    · rw [if_neg hk, List.append_nil]
      refine ⟨h1, fun x => ?_⟩
      have hk2 : m ≠ 0 ∧ d[m]! = d[m - 1]! := by
        have : ¬ (m = 0 ∨ d[m]! ≠ d[m - 1]!) := by simpa [Lib.keeps] using hk
        omega
      rw [h2]
      constructor
      · rintro ⟨j, hj, e⟩; exact ⟨j, by omega, e⟩
      · rintro ⟨j, hj, e⟩
        by_cases hjm : j = m
        · subst hjm; exact ⟨j - 1, by omega, by rw [← hk2.2]; exact e⟩
        · exact ⟨j, by omega, e⟩
theorem cm_sorted {l : List Int} (h : l.Pairwise (· ≤ ·)) : sI (Lib.compact l) ∧ ∀ x, x ∈ Lib.compact l ↔ x ∈ l := by
  have hd : ∀ i j, i ≤ j → j < l.toArray.size → l.toArray[i]! ≤ l.toArray[j]! := fun i j hij hj => by
    have hj : j < l.length := by simpa using hj
    rw [getElem!_pos l.toArray i (by simp; omega), getElem!_pos l.toArray j (by simp; omega)]
    by_cases e : i = j
    · subst e; exact Int.le_refl _
    · exact List.pairwise_iff_getElem.1 h i j (by omega) hj (by omega)
  obtain ⟨h1, h2⟩ := cm_upTo l.toArray hd l.length (by simp)
  refine ⟨h1, fun x => (h2 x).trans ?_⟩
  constructor
  · rintro ⟨j, hj, rfl⟩
    rw [getElem!_pos l.toArray j (by simp; omega)]; simp
  · intro hx
    obtain ⟨j, hj, rfl⟩ := List.mem_iff_getElem.1 hx
    exact ⟨j, hj, by rw [getElem!_pos l.toArray j (by simp; omega)]; simp⟩
theorem dd_spec (l : List Int) : sI (dd l) ∧ ∀ x, x ∈ dd l ↔ x ∈ l := by
  have h : (l.mergeSort fun x y => decide (x ≤ y)).Pairwise (· ≤ ·) := (List.pairwise_mergeSort (le := fun x y : Int => decide (x ≤ y)) (fun a b c => by simp; omega) (fun a b => by simp; omega) l).imp fun {a b} h => by simpa using h
  obtain ⟨h1, h2⟩ := cm_sorted h
  exact ⟨h1, fun x => (h2 x).trans (List.mem_mergeSort ..)⟩
theorem dd_len (l : List Int) : (dd l).length ≤ l.length := by
  have := cm_len (l.mergeSort fun x y => decide (x ≤ y))
  rw [List.length_mergeSort] at this; exact this
theorem dd_eq {l m : List Int} (h : sI m) (hm : ∀ x, x ∈ m ↔ x ∈ l) : m = dd l := sI_ext h (dd_spec l).1 fun x => (hm x).trans ((dd_spec l).2 x).symm
theorem dd_self {l : List Int} (h : sI l) : dd l = l := (dd_eq h fun _ => Iff.rfl).symm
abbrev iA (n : Int) : A := .t (.v (.int .i64 n))
theorem flatI (l : List Int) : (l.map i64T).flatten.map A.t = l.map iA := by
  induction l with
  | nil => rfl
  | cons n r ih => simp only [List.map_cons, List.flatten_cons, List.map_append, ih]; rfl
theorem sortV (H : Heap) (k : Nat) (l : List Int) (hk : H k = some (.row 3 1 (l.map iA))) (hl : l.length ≤ 1000000) :
    E.Spec Try.prog 74 [.a (.os k 0 l.length 1)] H fun x H' => x = .tup [] ∧ H' = upd H k (some (.row 3 1 ((l.mergeSort fun x y => decide (x ≤ y)).map iA))) :=
  E.Spec.sort (Value.int .i64) (fun _ => rfl) (fun l => l.mergeSort fun x y => decide (x ≤ y)) (fun l => List.length_mergeSort l) (fun blk off cap zs w => Try.slices_Sort_int blk off cap zs w) (fun p cap w => Try.slices_Sort_int_none p cap w) H k 3 l hk (by omega)
theorem cm_nil : Lib.compact ([] : List Int) = [] := rfl
theorem cm_pos (l : List Int) (h : l ≠ []) : 0 < (Lib.compact l).length := by
  cases l with
  | nil => exact absurd rfl h
  | cons x r =>
    have : Lib.compactUpTo (x :: r).toArray (r.length + 1) ≠ [] := by
      unfold Lib.compactUpTo
      rw [List.range_succ_eq_map]
      simp [Lib.keeps]
    exact List.length_pos_iff.2 this
theorem compactV (H : Heap) (k : Nat) (l : List Int) (hk : H k = some (.row 3 1 (l.map iA))) (hl : l.length ≤ 1000000) :
    E.Spec Try.prog 75 [.a (.os k 0 l.length 1)] H fun x H' => x = .c (.a (.os k 0 (Lib.compact l).length 1)) ∧ H' = upd H k (some (.row 3 1 ((Lib.compact l).map iA))) :=
  E.Spec.compact (Value.int .i64) (fun _ => rfl) Lib.compact 0 cm_len cm_pos cm_nil (fun blk off cap zs w => Try.slices_Compact_int blk off cap zs w) (fun p cap w => Try.slices_Compact_int_empty p cap w) H k 3 l hk (by omega)

set_option maxRecDepth 20000 in
theorem sorted_any (H : Heap) (k : Nat) (l : List Int) (hk : H k = some (.row 3 1 (l.map iA))) (hl : l.length ≤ 1000000) : E.Spec Try.prog 42 [.a (.os k 0 l.length 1)] H fun x H' => x = .c (.a (.os k 0 (dd l).length 1)) ∧ H' = upd H k (some (.row 3 1 ((dd l).map iA))) := by
 refine Spec.enter Try.func42 rfl ?_
 refine AW.wk (Wk.keep 7 [(0, .c (.a (.os k 0 l.length 1)))] [] (H) rfl ⟨rfl, trivial⟩ trivial (fun _ _ h => h) rfl) ?_
 refine sR ?_
 refine sA ?_
 refine SeqK.nil ?_
 refine sR ?_
 refine sM ?_
 refine SeqK.callE rfl rfl rfl rfl Fx.fn74 rfl (sortV _ k l hk (by omega)) (fun _ _ ⟨h, _⟩ => by rw [h]; rfl) (fun x4 H4 q4 => ?_)
 obtain ⟨rfl, hHs⟩ := q4
 subst hHs
 have hml : (l.mergeSort fun x y => decide (x ≤ y)).length = l.length := List.length_mergeSort l
 rw [← hml]
 refine SeqK.nil ?_
 refine sR ?_
 refine sM ?_
 refine SeqK.callE rfl rfl rfl rfl Fx.fn75 rfl (compactV _ k _ (upd_same _ _ _) (by omega)) (fun _ _ ⟨h, _⟩ => by rw [h]; rfl) (fun x6 H6 q6 => ?_)
 obtain ⟨rfl, hHs⟩ := q6
 rw [upd_upd] at hHs
 subst hHs
 refine sA ?_
 refine SeqK.nil ?_
 refine AW.ret ?_
 exact fin_x (x := .c _) (_) (.tmp rfl .nil) rfl (fun _ _ h => h) (⟨rfl, rfl⟩)

end Go.Proofs.Ytnmfjojhgfipcaa.W
namespace Go.Proofs.Ytnmfjojhgfipcaa.W
open Go.RowKit E
set_option linter.unusedVariables false
set_option linter.unusedSimpArgs false
set_option linter.unusedSectionVars false
/-- a variable renamed -/
def ren (q : List Int) (n v : Int) : Int := if (q.length : Int) ≤ v then n + v - q.length else q.getD v.toNat 0
theorem ren_hi {q : List Int} {n v : Int} (h : (q.length : Int) ≤ v) : ren q n v = n + v - q.length := if_pos h
theorem ren_lo {q : List Int} {n v : Int} (h : ¬ (q.length : Int) ≤ v) (h2 : v.toNat < q.length) : ren q n v = q[v.toNat] := by
  rw [ren, if_neg h, List.getD_eq_getElem?_getD, List.getElem?_eq_getElem h2]; rfl

end Go.Proofs.Ytnmfjojhgfipcaa.W
namespace Go.Proofs.Ytnmfjojhgfipcaa.W
open Go.RowKit E
set_option linter.unusedVariables false
set_option linter.unusedSimpArgs false
set_option linter.unusedSectionVars false
abbrev Ren (f : FuncId) (cs : List A) (gv : Int → Int) (H : Heap) (v : Int) : Prop := ∀ H' : Heap, (∀ j o, H j = some o → H' j = some o) → E.Spec Try.prog f (iC v :: cs.map C.a) H' fun x H'' => x = .c (iC (gv v)) ∧ H'' = H'

set_option maxRecDepth 20000 in
theorem ren1_any (H : Heap) (kf : Nat) (f : FuncId) (cs : List A) (gv : Int → Int) (l : List Int) (z : Nz) (hfn : fnB Try.prog f = true) (hf : H kf = some (.box [.fn f cs])) (hl : l.length ≤ 1000000) (hcall : ∀ v ∈ l, Ren f cs gv H v) : E.Spec Try.prog 70 [iL z l, .a (.bp kf 0)] H fun x H' => ∃ k, H k = none ∧ x = .c (.a (.os k 0 (dd (l.map gv)).length 1)) ∧ H' = upd H k (some (.row 3 1 ((dd (l.map gv)).map iA))) := by
 refine Spec.enter Try.func70 rfl ?_
 refine AW.wk (Wk.keep 22 [(0, .c (iL z l)), (1, .c (.a (.bp kf 0)))] [] (H) rfl ⟨rfl, rfl, trivial⟩ trivial (fun _ _ h => h) rfl) ?_
 refine sR ?_
 refine sA ?_
 refine SeqK.nil ?_
 refine sR ?_
 refine sA ?_
 refine SeqK.nil ?_
 refine AW.seq ?_
 refine sR ?_
 refine sM ?_
 refine SeqK.q (q_len rfl Fx.un22 rfl) rfl rfl rfl ?_
 refine sM ?_
 refine SeqK.nil ?_
 refine AW.block ?_
 refine AW.row 4 3 1 rfl (fun k0 hk0 => ?_)
 refine AW.loop (fun (i : Nat) s => ∃ k : Nat, (i ≤ l.length ∧ H k = none) ∧ s = ⟨22, sp [(1, .c (.a (.bp kf 0))), (4, .c (.a (.os k 0 i 1))), (7, .c (iL z l)), (8, iX .i64 (((l.map i64T).length : Nat) : Int)), (9, iX .i64 ((i : Nat) : Int))], lv [], upd H k (some (.row 3 1 (((l.take i).map gv).map iA)))⟩) (fun i => l.length - i) 0 ⟨_, Wk.keep 22 [(1, .c (.a (.bp kf 0))), (4, .c (.a (.os (k0) 0 ((0 : Nat)) 1))), (7, .c (iL z l)), (8, iX .i64 (((l.map i64T).length : Nat) : Int)), (9, iX .i64 ((((0 : Nat)) : Nat) : Int))] [] (upd H (k0) (some (.row 3 1 (((l.take ((0 : Nat))).map gv).map iA)))) rfl ⟨rfl, rfl, rfl, rfl, rfl, trivial⟩ trivial (fun _ _ h => h) rfl, k0, ⟨Nat.zero_le _, hk0⟩, rfl⟩ (fun i s hs => ?_)
 obtain ⟨k, ⟨hi0, hk⟩, rfl⟩ := hs
 refine sR ?_
 refine SeqK.q (q_lss rfl rfl rfl) rfl rfl rfl ?_
 refine SeqK.nil ?_
 refine AW.seq ?_
 refine AW.condD rfl (fun h10 => ?_) (fun h10 => ?_)
 ·
  have hi : i < l.length := by rw [List.length_map] at h10; omega
  have nk : kf ≠ k := fun e => by rw [e, hk] at hf; cases hf
  refine AW.skip ?_
  refine AW.seq ?_
  refine AW.block ?_
  refine sR ?_
  refine SeqK.q (q_index _ rfl Fx.sl22 rfl rfl (by omega) (idx_map (f := i64T) hi)) rfl rfl rfl ?_
  refine SeqK.q (q_load (.a _) rfl Fx.ty3 rfl rfl rfl) rfl rfl rfl ?_
  refine sA ?_
  refine SeqK.nil ?_
  refine AW.reg ?_
  refine sM ?_
  refine SeqK.r (g_load (r := .a _) rfl Fx.ty84 rfl (by (repeat rw [upd_ne _ _ (by first | assumption | exact Ne.symm (by assumption))]); first | assumption | exact upd_same _ _ _) rfl rfl rfl rfl) rfl ?_
  refine sM ?_
  refine SeqK.callV (f := f) (cs := cs) rfl rfl rfl rfl rfl hfn rfl (hcall _ (List.getElem_mem hi) _ (upd_sub hk)) (fun _ _ h => by rw [h.1]; rfl) (fun x16 H16 q16 => ?_)
  obtain ⟨rfl, hHs⟩ := q16
  subst hHs
  refine SeqK.q (q_buildSlice _ rfl Fx.el22 rfl (by decide) rfl) rfl rfl rfl ?_
  refine SeqK.appR1 rfl (hk) rfl Fx.el22 rfl (by simp; omega) rfl (by simp; omega) rfl rfl (fun k18 hk18 => ?_)
  rw [show List.map iA ((l.take i).map gv) ++ List.map A.t (List.flatten [[E.T.v (.int .i64 (gv l[i]))]]) = ((l.take (i + 1)).map gv).map iA by rw [List.take_succ_eq_append_getElem hi, List.map_append, List.map_append]; rfl]
  refine sA ?_
  refine SeqK.nil ?_
  refine AW.reg ?_
  refine SeqK.q (q_add _ rfl rfl rfl (w64 (by omega) (by omega))) rfl rfl rfl ?_
  refine sM ?_
  refine SeqK.nil ?_
  exact ⟨i + 1, _, Wk.keep 22 [(1, .c (.a (.bp kf 0))), (4, .c (.a (.os (k18) 0 (i + 1) 1))), (7, .c (iL z l)), (8, iX .i64 (((l.map i64T).length : Nat) : Int)), (9, iX .i64 (((i + 1) : Nat) : Int))] [] (upd H (k18) (some (.row 3 1 (((l.take (i + 1)).map gv).map iA)))) rfl ⟨rfl, rfl, rfl, rfl, rfl, trivial⟩ trivial (fun _ _ h => h) rfl, by omega, k18, ⟨hi, hk18⟩, rfl⟩
 ·
  refine AW.exit ?_
  refine eth_e ?_
  refine eth_e ?_
  refine exit_here ?_
  refine AW.seq ?_
  obtain rfl : i = l.length := by rw [List.length_map] at h10; omega
  rw [List.take_length, show l.length = (l.map gv).length by simp]
  refine AW.reg ?_
  refine sM ?_
  refine SeqK.callE rfl rfl rfl rfl Fx.fn42 rfl (sorted_any _ k _ (upd_same _ _ _) (by rw [List.length_map]; omega)) (fun _ _ h => by rw [h.1]; rfl) (fun x21 H21 q21 => ?_)
  obtain ⟨rfl, hHs⟩ := q21
  rw [upd_upd] at hHs
  subst hHs
  refine sA ?_
  refine SeqK.nil ?_
  refine AW.ret ?_
  exact fin_x (x := .c _) (_) (.tmp rfl .nil) rfl (fun _ _ h => h) (⟨k, hk, rfl, rfl⟩)

end Go.Proofs.Ytnmfjojhgfipcaa.W
namespace Go.Proofs.Ytnmfjojhgfipcaa.W
open Go.RowKit E
set_option linter.unusedVariables false
set_option linter.unusedSimpArgs false
set_option linter.unusedSectionVars false
/-! coefficients in the order of their variables; maps that hold them -/
/-- the value of a variable -/
def cval : List Cf → Int → Int
  | [], _ => 0
  | k :: r, v => if k.v = v then k.n else cval r v
theorem cval_mem : ∀ {l : List Cf} {k : Cf}, (l.map (·.v)).Nodup → k ∈ l → cval l k.v = k.n
  | a :: r, k, hn, hk => by
    rw [List.map_cons, List.nodup_cons] at hn
    rw [cval]
    rcases List.mem_cons.1 hk with rfl | h
    · rw [if_pos rfl]
    · rw [if_neg (fun e => hn.1 (by rw [e]; exact List.mem_map.2 ⟨k, h, rfl⟩)), cval_mem hn.2 h]
def cofs (l : List Cf) : List Cf := (dd (l.map (·.v))).map fun v => ⟨v, cval l v⟩
theorem cofs_mem {l : List Cf} (hn : (l.map (·.v)).Nodup) (k : Cf) : k ∈ cofs l ↔ k ∈ l := by
  constructor
  · intro h
    obtain ⟨v, hv, rfl⟩ := List.mem_map.1 h
    obtain ⟨k, hk, rfl⟩ := List.mem_map.1 (((dd_spec _).2 v).1 hv)
    rw [cval_mem hn hk]; exact hk
  · intro h
    exact List.mem_map.2 ⟨k.v, ((dd_spec _).2 k.v).2 (List.mem_map.2 ⟨k, h, rfl⟩), by rw [cval_mem hn h]⟩
theorem cofs_v (l : List Cf) : (cofs l).map (·.v) = dd (l.map (·.v)) := by rw [cofs, List.map_map]; exact List.map_id _
theorem cofs_len (l : List Cf) : (cofs l).length ≤ l.length := by
  have := dd_len (l.map (·.v)); rw [cofs, List.length_map]; simpa using this
theorem sI_nodup {l : List Int} (h : sI l) : l.Nodup := h.imp fun {a b} h => by omega
def Es (es : List ME) (l : List Cf) : Prop := es.map (fun m => (m.k, m.x)) = l.map fun k => (Value.int .i64 k.v, iC k.n)
def vK (m : ME) : Int := match m.k with | .int _ q => q | _ => 0
theorem Es.len {es : List ME} {l : List Cf} (h : Es es l) : es.length = l.length := by have := congrArg List.length h; simpa using this
theorem Es.mem {es : List ME} {l : List Cf} (h : Es es l) {m : ME} (hm : m ∈ es) : ∃ k ∈ l, m.k = .int .i64 k.v ∧ m.x = iC k.n := by
  have h1 : (m.k, m.x) ∈ l.map fun k => (Value.int .i64 k.v, iC k.n) := h ▸ List.mem_map.2 ⟨m, hm, rfl⟩
  obtain ⟨k, hk, e⟩ := List.mem_map.1 h1
  injection e with e1 e2
  exact ⟨k, hk, e1.symm, e2.symm⟩
theorem Es.mem' {es : List ME} {l : List Cf} (h : Es es l) {k : Cf} (hk : k ∈ l) : ∃ m ∈ es, m.k = .int .i64 k.v ∧ m.x = iC k.n := by
  have h1 : (Value.int .i64 k.v, iC k.n) ∈ es.map fun m => (m.k, m.x) := h ▸ List.mem_map.2 ⟨k, hk, rfl⟩
  obtain ⟨m, hm, e⟩ := List.mem_map.1 h1
  injection e with e1 e2
  exact ⟨m, hm, e1, e2⟩
theorem Es.keys {es : List ME} {l : List Cf} (h : Es es l) : es.map (·.k) = l.map fun k => Value.int .i64 k.v := by
  have := congrArg (List.map Prod.fst) h
  rw [List.map_map, List.map_map] at this
  exact this
theorem Es.nodup {kk : KK} {ck : Nat} {es : List ME} {l : List Cf} (ok : MOk kk es ck) (h : Es es l) : (l.map (·.v)).Nodup := by
  have h1 := ok.nodup
  rw [h.keys] at h1
  refine List.pairwise_map.2 ((List.pairwise_map.1 h1).imp fun {a b} hab e => hab (by rw [e]))
theorem Es.get {kk : KK} {ck : Nat} {es : List ME} {l : List Cf} (ok : MOk kk es ck) (h : Es es l) {k : Cf} (hk : k ∈ l) : mget (.int .i64 k.v) es = some (iC k.n) := by
  obtain ⟨m, hm, e1, e2⟩ := h.mem' hk
  rw [← e1, mget_mem ok hm, e2]
theorem Es.getv {kk : KK} {ck : Nat} {es : List ME} {l : List Cf} (ok : MOk kk es ck) (h : Es es l) {v : Int} (hv : v ∈ l.map (·.v)) : mget (.int .i64 v) es = some (iC (cval l v)) := by
  obtain ⟨k, hk, rfl⟩ := List.mem_map.1 hv
  rw [h.get ok hk, cval_mem (h.nodup ok) hk]
theorem same_born {kk : KK} {es : List ME} {c3 : Nat} (ok : MOk kk es c3) {m m' : ME} (h : m ∈ es) (h' : m' ∈ es) (e : m.b = m'.b) : m = m' := by
  obtain ⟨i, hi, rfl⟩ := List.mem_iff_getElem.1 h
  obtain ⟨j, hj, rfl⟩ := List.mem_iff_getElem.1 h'
  have : i = j := (List.getElem_inj (xs := es.map (·.b)) (h₀ := by simpa using hi) (h₁ := by simpa using hj) ok.inj).1 (by simpa using e)
  subst this; rfl
theorem same_key {kk : KK} {es : List ME} {c3 : Nat} (ok : MOk kk es c3) {m m' : ME} (h : m ∈ es) (h' : m' ∈ es) (e : m.k = m'.k) : m = m' := by
  obtain ⟨i, hi, rfl⟩ := List.mem_iff_getElem.1 h
  obtain ⟨j, hj, rfl⟩ := List.mem_iff_getElem.1 h'
  have : i = j := (List.getElem_inj (xs := es.map (·.k)) (h₀ := by simpa using hi) (h₁ := by simpa using hj) ok.nodup).1 (by simpa using e)
  subst this; rfl
theorem len_sub' : ∀ (l m : List Nat), l.Nodup → (∀ x ∈ l, x ∈ m) → l.length ≤ m.length
  | [], _, _, _ => Nat.zero_le _
  | a :: l, m, hn, h => by
    rw [List.nodup_cons] at hn
    have ha := h a (by simp)
    have h1 := len_sub' l (m.erase a) hn.2 fun x hx => (List.mem_erase_of_ne (fun e => hn.1 (by rw [← e]; exact hx))).2 (h x (by simp [hx]))
    rw [List.length_erase_of_mem ha] at h1
    have := List.length_pos_of_mem ha
    simp only [List.length_cons]; omega
theorem ms_len {es ms : List ME} (hms : ∀ m ∈ ms, m ∈ es) (hnd : (ms.map (·.b)).Nodup) : ms.length ≤ es.length := by
  have := len_sub' (ms.map (·.b)) (es.map (·.b)) hnd fun x hx => by
    obtain ⟨m, hm, rfl⟩ := List.mem_map.1 hx
    exact List.mem_map.2 ⟨m, hms m hm, rfl⟩
  simpa using this
/-- all the entries seen, their keys sorted -/
theorem Es.sorted {kk : KK} {ck : Nat} {es ms : List ME} {l : List Cf} (ok : MOk kk es ck) (h : Es es l) (hms : ∀ m ∈ ms, m ∈ es) (hall : ∀ m ∈ es, m.b ∈ ms.map (·.b)) (hnd : (ms.map (·.b)).Nodup) :
    ((ms.map vK).mergeSort fun x y => decide (x ≤ y)) = dd (l.map (·.v)) := by
  have hp := List.mergeSort_perm (ms.map vK) (fun x y => decide (x ≤ y))
  have hk : ∀ m ∈ es, m.k = .int .i64 (vK m) := fun m hm => by
    obtain ⟨k, _, e, _⟩ := h.mem hm
    rw [vK, e]
  have hpair : (ms.map vK).Nodup := by
    refine List.pairwise_map.2 (((List.pairwise_map.1 hnd).imp_of_mem fun {a b} ha hb hab e => hab ?_))
    have : a = b := same_key ok (hms _ ha) (hms _ hb) (by rw [hk _ (hms _ ha), hk _ (hms _ hb), e])
    rw [this]
  have hs := List.pairwise_mergeSort (le := fun x y : Int => decide (x ≤ y)) (fun a b c h1 h2 => by simp at h1 h2 ⊢; omega) (fun a b => by simp; omega) (ms.map vK)
  refine dd_eq ((hs.and (hp.nodup_iff.2 hpair)).imp fun {a b} ⟨h4, h5⟩ => by simp at h4; omega) fun x => (hp.mem_iff).trans ?_
  constructor
  · intro hx
    obtain ⟨m, hm, rfl⟩ := List.mem_map.1 hx
    obtain ⟨k, hk', e, _⟩ := h.mem (hms m hm)
    exact List.mem_map.2 ⟨k, hk', by rw [vK, e]⟩
  · intro hx
    obtain ⟨k, hk', rfl⟩ := List.mem_map.1 hx
    obtain ⟨m, hm, e, _⟩ := h.mem' hk'
    obtain ⟨m', hm', e'⟩ := List.mem_map.1 (hall m hm)
    have := same_born ok (hms m' hm') hm e'
    subst this
    exact List.mem_map.2 ⟨m', hm', by rw [vK, e]⟩
/-- a new entry -/
theorem Es.add {ck : Nat} {es : List ME} {l : List Cf} (ok : MOk (.int .i64) es ck) (h : Es es l) (k : Cf) (hk : k.v ∉ l.map (·.v)) :
    mget (.int .i64 k.v) es = none ∧ Es (mset (.int .i64 k.v) (iC k.n) ck es) (l ++ [k]) ∧ MOk (.int .i64) (mset (.int .i64 k.v) (iC k.n) ck es) (mclock (.int .i64 k.v) es ck) := by
  obtain ⟨h1, h2, _⟩ := m_none (kk := .int .i64) (k := .int .i64 k.v) (x := iC k.n) (ck := ck) rfl ok.key (fun m hm e => by
    obtain ⟨k', hk', e', _⟩ := h.mem hm
    rw [e'] at e
    injection e with _ e
    exact hk (List.mem_map.2 ⟨k', hk', e⟩))
  refine ⟨h1, ?_, ok.set rfl⟩
  rw [h2, Es, List.map_append, List.map_append, h]; rfl
end Go.Proofs.Ytnmfjojhgfipcaa.W
namespace Go.Proofs.Ytnmfjojhgfipcaa.W
open Go.RowKit E
set_option linter.unusedVariables false
set_option linter.unusedSimpArgs false
set_option linter.unusedSectionVars false
theorem take_put {α : Type} {l : List α} {i : Nat} (hi : i < l.length) : l.take (i + 1) = l.take i ++ [l[i]] := List.take_succ_eq_append_getElem hi

set_option maxHeartbeats 4000000 in
set_option maxRecDepth 20000 in
theorem coefs_any (H : Heap) (km ck : Nat) (es : List ME) (l : List Cf) (hm : H km = some (.map (.int .i64) es ck)) (ok : MOk (.int .i64) es ck) (hE : Es es l) (hl : l.length ≤ 1000000) (hn0 : ∀ k ∈ l, k.n ≠ 0) : E.Spec Try.prog 72 [.a (.mp km)] H fun x H' => x = .c (cfsC .un (cofs l)) ∧ H' = H := by
 have hel := hE.len
 obtain ⟨D, hD⟩ : ∃ D, D = dd (l.map (·.v)) := ⟨_, rfl⟩
 obtain ⟨F, hF⟩ : ∃ F, F = cofs l := ⟨_, rfl⟩
 have hFD : F = D.map fun v => ⟨v, cval l v⟩ := by rw [hF, hD, cofs]
 refine Spec.enter Try.func72 rfl ?_
 refine AW.wk (Wk.keep 40 [(0, .c (.a (.mp km)))] [] (H) rfl ⟨rfl, trivial⟩ trivial (fun _ _ h => h) rfl) ?_
 refine sR ?_
 refine sA ?_
 refine SeqK.nil ?_
 refine sR ?_
 refine sA ?_
 refine SeqK.nil ?_
 refine AW.seq ?_
 refine sR ?_
 refine sM ?_
 refine SeqK.r (b_range rfl rfl Fx.un122 rfl (by (repeat rw [upd_ne _ _ (by first | assumption | exact Ne.symm (by assumption))]); first | assumption | exact upd_same _ _ _) rfl rfl) rfl ?_
 refine SeqK.nil ?_
 refine AW.block ?_
 refine AW.row 3 3 1 rfl (fun k0 hk0 => ?_)
 refine AW.loop (fun (i : Nat) s => ∃ (kr : Nat) (seen : List Nat) (ms : List ME) (out : List Int) (m : Nat), (m = out.length ∧ H kr = none ∧ seen.Nodup ∧ (∀ m ∈ ms, m ∈ es) ∧ seen = ms.map (·.b) ∧ out = ms.map vK ∧ out.length = i ∧ i ≤ es.length) ∧ s = ⟨40, sp [(0, .c (.a (.mp km))), (3, .c (.a (.os kr 0 m 1))), (10, .lp 10 0)], lv [(10, .iter km ck seen ck)], upd H kr (some (.row 3 1 (out.map iA)))⟩) (fun i => es.length + 1 - i) 0 ⟨_, Wk.keep 40 [(0, .c (.a (.mp km))), (3, .c (.a (.os (k0) 0 (0) 1))), (10, .lp 10 0)] [(10, .iter km ck ([]) ck)] (upd H (k0) (some (.row 3 1 (([]).map iA)))) rfl ⟨rfl, rfl, rfl, trivial⟩ ⟨rfl, trivial⟩ (fun _ _ h => h) rfl, k0, [], [], [], 0, ⟨rfl, hk0, by simp, by simp, rfl, rfl, rfl, Nat.zero_le _⟩, rfl⟩ (fun i s hs => ?_)
 obtain ⟨kr, seen, ms, out, m, ⟨hnl, hkr, hsn, hms, hse, hout, hol, hil⟩, rfl⟩ := hs
 have nkr : km ≠ kr := fun e => (by rw [← e, hm] at hkr; cases hkr)
 refine sR ?_
 refine SeqK.next rfl rfl rfl rfl rfl rfl (by (repeat rw [upd_ne _ _ (by first | assumption | exact Ne.symm (by assumption))]); first | assumption | exact upd_same _ _ _) (fun m hm => ok.born m hm) (Nat.le_refl _) (fun hd11 => ?_) (fun m11 hm11 hn11 => ?_)
 ·
  refine SeqK.q (q_extract _ rfl rfl rfl) rfl rfl rfl ?_
  refine SeqK.nil ?_
  refine AW.seq ?_
  refine AW.condF rfl ?_
  refine AW.exit ?_
  refine eth_e ?_
  refine eth_e ?_
  refine exit_here ?_
  refine AW.seq ?_
  subst hnl
  have hsrt : (out.mergeSort fun x y => decide (x ≤ y)) = D := by rw [hout, hD]; exact hE.sorted ok hms (fun m hm => hse ▸ hd11 m hm) (hse ▸ hsn)
  have hoD : out.length = D.length := by rw [← hsrt, List.length_mergeSort]
  have hDl : D.length ≤ 1000000 := by have := dd_len (l.map (·.v)); rw [List.length_map] at this; rw [hD]; omega
  refine AW.reg ?_
  refine sM ?_
  refine SeqK.callE rfl rfl rfl rfl Fx.fn74 rfl (sortV _ kr out (upd_same _ _ _) (by omega)) (fun _ _ h => by rw [h.1]; rfl) (fun x23 H23 q23 => ?_)
  obtain ⟨rfl, hHs⟩ := q23
  rw [upd_upd, hsrt] at hHs
  subst hHs
  refine SeqK.nil ?_
  refine AW.gh (Gh.freeze kr 1 3 (D.map i64T) (by rw [flatI]; exact upd_same _ _ _) (fun e he => by obtain ⟨p, _, rfl⟩ := List.mem_map.1 he; rfl) (by decide)) ?_
  rintro s1 rfl
  refine AW.wk (Wk.keep 40 [(0, .c (.a (.mp km))), (3, .c (iL .un D))] [] (H) rfl ⟨rfl, by show fzX _ _ _ (.c (.a (.os kr 0 out.length 1))) = _; rw [show out.length = (D.map i64T).length by rw [List.length_map, hoD]]; simp [fzX, fzC, fzA], trivial⟩ trivial (fun j o h => by show upd (upd H kr _) kr none j = _; rw [upd_back hkr]; exact h) rfl) ?_
  refine sR ?_
  refine sA ?_
  refine SeqK.nil ?_
  refine AW.seq ?_
  refine sR ?_
  refine sM ?_
  refine SeqK.q (q_len rfl Fx.un22 rfl) rfl rfl rfl ?_
  refine sM ?_
  refine SeqK.nil ?_
  refine AW.block ?_
  refine AW.tip 6 106 2 rfl (fun k0 hk0 => ?_)
  refine AW.loop (fun (i : Nat) s => ∃ (kt : Nat) (zs : List (List E.T)), (i ≤ D.length ∧ H kt = none ∧ zs = (F.take i).map cfT) ∧ s = ⟨40, sp [(0, .c (.a (.mp km))), (6, .c (.a (.ts kt .ne 2 zs))), (24, .c (iL .un D)), (25, iX .i64 (((D.map i64T).length : Nat) : Int)), (26, iX .i64 ((i : Nat) : Int))], lv [], upd H kt (some (.tip 106 2 zs.length))⟩) (fun i => D.length - i) 0 ⟨_, Wk.keep 40 [(0, .c (.a (.mp km))), (6, .c (.a (.ts (k0) .ne 2 ([])))), (24, .c (iL .un D)), (25, iX .i64 (((D.map i64T).length : Nat) : Int)), (26, iX .i64 ((((0 : Nat)) : Nat) : Int))] [] (upd H (k0) (some (.tip 106 2 ([]).length))) rfl ⟨rfl, rfl, rfl, rfl, rfl, trivial⟩ trivial (fun _ _ h => h) rfl, k0, [], ⟨Nat.zero_le _, hk0, rfl⟩, rfl⟩ (fun i s hs => ?_)
  obtain ⟨kt, zs, ⟨hi0, hkt, hzs⟩, rfl⟩ := hs
  have nkt : km ≠ kt := fun e => (by rw [← e, hm] at hkt; cases hkt)
  refine sR ?_
  refine SeqK.q (q_lss rfl rfl rfl) rfl rfl rfl ?_
  refine SeqK.nil ?_
  refine AW.seq ?_
  refine AW.condD rfl (fun h27 => ?_) (fun h27 => ?_)
  ·
   have hi : i < D.length := by rw [List.length_map] at h27; omega
   have hget := hE.getv ok (((dd_spec _).2 D[i]).1 (by rw [← hD]; exact List.getElem_mem hi))
   refine AW.skip ?_
   refine AW.seq ?_
   refine AW.block ?_
   refine sR ?_
   refine SeqK.q (q_index _ rfl Fx.sl22 rfl rfl (by omega) (idx_map (f := i64T) hi)) rfl rfl rfl ?_
   refine SeqK.q (q_load (.a _) rfl Fx.ty3 rfl rfl rfl) rfl rfl rfl ?_
   refine sA ?_
   refine SeqK.nil ?_
   refine AW.reg ?_
   refine sM ?_
   refine sM ?_
   refine sM ?_
   refine sM ?_
   refine SeqK.r (g_lookup (r := .c (.a _)) (.int Fx.un3) rfl Fx.un122 Fx.ze2 rfl (by (repeat rw [upd_ne _ _ (by first | assumption | exact Ne.symm (by assumption))]); first | assumption | exact upd_same _ _ _) rfl rfl (hget) rfl rfl rfl) rfl ?_
   refine SeqK.q (q_build2 (zs := [_, _]) (r := [_, _]) [(0, 1), (1, 1)] _ rfl Fx.ze106 rfl Fx.bp106 rfl rfl rfl rfl) rfl rfl rfl ?_
   refine SeqK.q (q_buildSlice _ rfl Fx.el72 rfl (by decide) rfl) rfl rfl rfl ?_
   refine SeqK.app1 rfl (hkt) rfl Fx.el72 rfl rfl (by simp [hzs, hFD]; omega) rfl rfl (fun k37 hk37 => ?_)
   refine sA ?_
   refine SeqK.nil ?_
   refine AW.reg ?_
   refine SeqK.q (q_add _ rfl rfl rfl (w64 (by omega) (by omega))) rfl rfl rfl ?_
   refine sM ?_
   refine SeqK.nil ?_
   exact ⟨i + 1, _, Wk.keep 40 [(0, .c (.a (.mp km))), (6, .c (.a (.ts (k37) .ne 2 (zs ++ [cfT ⟨D[i], cval l D[i]⟩])))), (24, .c (iL .un D)), (25, iX .i64 (((D.map i64T).length : Nat) : Int)), (26, iX .i64 (((i + 1) : Nat) : Int))] [] (upd H (k37) (some (.tip 106 2 (zs ++ [cfT ⟨D[i], cval l D[i]⟩]).length))) rfl ⟨rfl, rfl, rfl, rfl, rfl, trivial⟩ trivial (fun _ _ h => h) rfl, by omega, k37, zs ++ [cfT ⟨D[i], cval l D[i]⟩], ⟨hi, hk37, by rw [hzs, take_put (l := F) (by rw [hFD, List.length_map]; exact hi), List.map_append]; simp [hFD]⟩, rfl⟩
  ·
   refine AW.exit ?_
   refine eth_e ?_
   refine eth_e ?_
   refine exit_here ?_
   refine AW.seq ?_
   obtain rfl : i = D.length := by rw [List.length_map] at h27; omega
   refine AW.xw 6 rfl (XW.ts.trans (XW.es hzs)) ?_
   refine AW.reg ?_
   refine sM ?_
   refine sA ?_
   refine SeqK.nil ?_
   refine AW.ret ?_
   exact fin_x (x := .c _) (H) (.tmp rfl .nil) rfl (fun j o h => by show upd H _ _ j = _; rw [upd_ne _ _ (fun e => by subst e; simp_all)]; exact h) (⟨by rw [← hF, List.take_of_length_le (by rw [hFD, List.length_map]; exact Nat.le_refl _)], rfl⟩)
 ·
  obtain ⟨mk, mx, mb⟩ := m11
  obtain ⟨k, hkl, rfl, rfl⟩ := hE.mem hm11
  have hk0 := hn0 k hkl
  refine SeqK.q (q_extract _ rfl rfl rfl) rfl rfl rfl ?_
  refine SeqK.nil ?_
  refine AW.seq ?_
  refine AW.condT rfl ?_
  refine AW.skip ?_
  refine AW.block ?_
  refine sR ?_
  refine SeqK.r (b_entry rfl rfl rfl (by (repeat rw [upd_ne _ _ (by first | assumption | exact Ne.symm (by assumption))]); first | assumption | exact upd_same _ _ _) (by assumption) rfl rfl) rfl ?_
  refine SeqK.q (q_extract _ rfl rfl rfl) rfl rfl rfl ?_
  refine SeqK.q (q_extract _ rfl rfl rfl) rfl rfl rfl ?_
  refine sA ?_
  refine sA ?_
  refine SeqK.nil ?_
  refine sR ?_
  refine sM ?_
  refine SeqK.q (q_neq rfl rfl rfl) rfl rfl rfl ?_
  refine SeqK.nil ?_
  refine AW.condD rfl (fun h17 => ?_) (fun h17 => ?_)
  ·
   refine AW.reg ?_
   refine sM ?_
   refine sM ?_
   refine SeqK.q (q_buildSlice _ rfl Fx.el22 rfl (by decide) rfl) rfl rfl rfl ?_
   refine SeqK.appR1 rfl (by assumption) rfl Fx.el22 rfl (by simp [hnl]) rfl (by simp; omega) rfl rfl (fun k21 hk21 => ?_)
   refine sA ?_
   refine SeqK.nil ?_
   obtain ⟨me, hme⟩ : ∃ me : ME, me = ⟨.int .i64 k.v, iC k.n, mb⟩ := ⟨_, rfl⟩
   have hsn2 : (seen ++ [mb]).Nodup := by rw [List.nodup_append]; exact ⟨hsn, by simp, fun a ha c hc e => by simp at hc; subst hc e; exact hn11 ha⟩
   have hms2 : ∀ m ∈ ms ++ [me], m ∈ es := fun m h => (List.mem_append.1 h).elim (hms m) fun h => by rw [List.mem_singleton.1 h, hme]; exact hm11
   have hse2 : seen ++ [mb] = (ms ++ [me]).map (·.b) := by rw [hse]; simp [hme]
   have hml := ms_len hms2 (hse2 ▸ hsn2)
   have hmo : ms.length = i := by rw [← hol, hout, List.length_map]
   exact ⟨i + 1, _, Wk.keep 40 [(0, .c (.a (.mp km))), (3, .c (.a (.os (k21) 0 (m + 1) 1))), (10, .lp 10 0)] [(10, .iter km ck (seen ++ [mb]) ck)] (upd H (k21) (some (.row 3 1 ((out ++ [k.v]).map iA)))) rfl ⟨rfl, rfl, rfl, trivial⟩ ⟨rfl, trivial⟩ (fun j o h => by rw [List.map_append] at h; exact h) rfl, by have := Nat.le_of_lt_succ (Nat.lt_succ_of_le hil); omega, k21, seen ++ [mb], ms ++ [me], out ++ [k.v], m + 1, ⟨by simp [hnl], hk21, hsn2, hms2, hse2, by rw [hout]; simp [vK, hme], by simp [hol], by rw [List.length_append] at hml; simp at hml; omega⟩, rfl⟩
  ·
   exact absurd (by simpa using h17) hk0

end Go.Proofs.Ytnmfjojhgfipcaa.W
namespace Go.Proofs.Ytnmfjojhgfipcaa.W
open Go.RowKit E
set_option linter.unusedVariables false
set_option linter.unusedSimpArgs false
set_option linter.unusedSectionVars false
theorem ren1_fz (H : Heap) (kf : Nat) (f : FuncId) (cs : List A) (gv : Int → Int) (l : List Int) (z : Nz) (hfn : fnB Try.prog f = true) (hf : H kf = some (.box [.fn f cs])) (hl : l.length ≤ 1000000) (hcall : ∀ v ∈ l, Ren f cs gv H v) :
    E.Spec Try.prog 70 [iL z l, .a (.bp kf 0)] H fun x H' => x = .c (iL .un (dd (l.map gv))) ∧ H' = H :=
  E.Spec.freeze (ren1_any H kf f cs gv l z hfn hf hl hcall) fun x H' ⟨k, hk, hx, hH⟩ => ⟨k, 1, 3, (dd (l.map gv)).map i64T, by rw [hH, upd_same, flatI], fun e he => by obtain ⟨s, _, rfl⟩ := List.mem_map.1 he; rfl, by decide, by
    subst hx hH
    refine ⟨?_, upd_back hk⟩
    simp [fzX, fzC, fzA]⟩
abbrev rnK (gv : Int → Int) (k : Cf) : Cf := ⟨gv k.v, k.n⟩
abbrev rnF (gv : Int → Int) (F : Lf) : Lf := ⟨F.c, cofs (F.cs.map (rnK gv))⟩
abbrev rnP (gv : Int → Int) (p : Int × Int) : Int × Int := (min (gv p.1) (gv p.2), max (gv p.1) (gv p.2))
theorem nd_new {gv : Int → Int} {l : List Cf} {i : Nat} (h : (l.map fun k => gv k.v).Nodup) (hi : i < l.length) : gv l[i].v ∉ ((l.take i).map (rnK gv)).map (·.v) := by
  intro hm
  rw [List.map_map] at hm
  obtain ⟨k, hk, e⟩ := List.mem_map.1 hm
  obtain ⟨j, hj, rfl⟩ := List.mem_iff_getElem.1 hk
  rw [List.length_take] at hj
  rw [List.getElem_take] at e
  have : j = i := (List.getElem_inj (xs := l.map fun k => gv k.v) (h₀ := by rw [List.length_map]; omega) (h₁ := by rw [List.length_map]; omega) h).1 (by simpa using e)
  omega

set_option maxRecDepth 20000 in
theorem rnf_any (H : Heap) (kf : Nat) (f : FuncId) (cs : List A) (gv : Int → Int) (F : Lf) (hfn : fnB Try.prog f = true) (hf : H kf = some (.box [.fn f cs])) (hl : F.cs.length ≤ 1000000) (hcall : ∀ k ∈ F.cs, Ren f cs gv H k.v) (hn0 : ∀ k ∈ F.cs, k.n ≠ 0) (hnd : (F.cs.map fun k => gv k.v).Nodup) : E.Spec Try.prog 71 [lfC F, .a (.bp kf 0)] H fun x H' => x = .c (lfC (rnF gv F)) ∧ H' = H := by
 refine Spec.enter Try.func71 rfl ?_
 refine AW.wk (Wk.keep 28 [(0, .c (lfC F)), (1, .c (.a (.bp kf 0)))] [] (H) rfl ⟨rfl, rfl, trivial⟩ trivial (fun _ _ h => h) rfl) ?_
 refine sR ?_
 refine SeqK.r (b_box (r := [_, _]) rfl rfl rfl rfl rfl rfl) rfl ?_
 refine SeqK.r (b_alloc (r := [_, _]) rfl rfl Fx.ze74 rfl rfl rfl rfl) rfl ?_
 refine SeqK.nil ?_
 refine sR ?_
 refine SeqK.newMap (.int .i64) rfl rfl rfl rfl (fun k7 hk7 => ?_)
 refine sA ?_
 refine SeqK.nil ?_
 refine AW.seq ?_
 refine sR ?_
 refine SeqK.q (q_fieldL _ rfl Fx.fl74_1 rfl rfl) rfl rfl rfl ?_
 refine SeqK.r (b_load (r := .a _) rfl Fx.ty72 rfl rfl rfl rfl rfl rfl) rfl ?_
 refine SeqK.q (q_len rfl Fx.un72 rfl) rfl rfl rfl ?_
 refine sM ?_
 refine SeqK.nil ?_
 refine AW.block ?_
 refine AW.loop (fun (i : Nat) s => ∃ (km ck : Nat) (es : List ME), (i ≤ F.cs.length ∧ H km = none ∧ Es es ((F.cs.take i).map (rnK gv)) ∧ MOk (.int .i64) es ck) ∧ s = ⟨28, sp [(1, .c (.a (.bp kf 0))), (2, .lp 2 0), (3, .lp 3 0), (4, .c (.a (.mp km))), (9, .c (cfsC .un F.cs)), (10, iX .i64 (((F.cs.map cfT).length : Nat) : Int)), (11, iX .i64 ((i : Nat) : Int))], lv [(2, .box [.t (.v (.int .i64 F.c)), .t (.sl .un 2 (F.cs.map cfT))]), (3, .box [.t (.v (.int .i64 0)), .t (.v (.slice none 0 0))])], upd H km (some (.map (.int .i64) es ck))⟩) (fun i => F.cs.length - i) 0 ⟨_, Wk.keep 28 [(1, .c (.a (.bp kf 0))), (2, .lp 2 0), (3, .lp 3 0), (4, .c (.a (.mp (k7)))), (9, .c (cfsC .un F.cs)), (10, iX .i64 (((F.cs.map cfT).length : Nat) : Int)), (11, iX .i64 ((((0 : Nat)) : Nat) : Int))] [(2, .box [.t (.v (.int .i64 F.c)), .t (.sl .un 2 (F.cs.map cfT))]), (3, .box [.t (.v (.int .i64 0)), .t (.v (.slice none 0 0))])] (upd H (k7) (some (.map (.int .i64) ([]) (0)))) rfl ⟨rfl, rfl, rfl, rfl, rfl, rfl, rfl, trivial⟩ ⟨rfl, rfl, trivial⟩ (fun _ _ h => h) rfl, k7, 0, [], ⟨Nat.zero_le _, hk7, rfl, MOk.nil⟩, rfl⟩ (fun i s hs => ?_)
 obtain ⟨km, ck, es, ⟨hi0, hkm, hE, hok⟩, rfl⟩ := hs
 have nkf : kf ≠ km := fun e => by rw [e, hkm] at hf; cases hf
 refine sR ?_
 refine SeqK.q (q_lss rfl rfl rfl) rfl rfl rfl ?_
 refine SeqK.nil ?_
 refine AW.seq ?_
 refine AW.condD rfl (fun h12 => ?_) (fun h12 => ?_)
 ·
  have hi : i < F.cs.length := by rw [List.length_map] at h12; omega
  refine AW.skip ?_
  refine AW.seq ?_
  refine AW.block ?_
  refine sR ?_
  refine SeqK.q (q_index _ rfl Fx.sl72 rfl rfl (by omega) (idx_map (f := cfT) hi)) rfl rfl rfl ?_
  refine SeqK.q (q_load (.g [_, _]) rfl Fx.ty106 rfl rfl rfl) rfl rfl rfl ?_
  refine SeqK.r (b_alloc (r := [_, _]) rfl rfl Fx.ze106 rfl rfl rfl rfl) rfl ?_
  refine SeqK.r (b_store (r := [_, _]) rfl rfl Fx.ty106 rfl rfl rfl rfl rfl rfl) rfl ?_
  refine SeqK.nil ?_
  refine AW.draw Fx.mo ?_
  refine LexK.q (q_mvC rfl rfl) rfl rfl rfl ?_
  refine LexK.r (g_load (r := .a _) rfl Fx.ty84 rfl (by (repeat rw [upd_ne _ _ (by first | assumption | exact Ne.symm (by assumption))]); first | assumption | exact upd_same _ _ _) rfl rfl rfl rfl) rfl ?_
  refine LexK.q (q_fieldL _ rfl Fx.fl106_0 rfl rfl) rfl rfl rfl ?_
  refine LexK.r (b_load (r := .a _) rfl Fx.ty3 rfl rfl rfl rfl rfl rfl) rfl ?_
  refine LexK.r (g_callV (f := f) (cs := cs) rfl rfl hfn rfl (hcall _ (List.getElem_mem hi) _ (upd_sub hkm)) rfl rfl rfl) rfl ?_
  refine LexK.q (q_fieldL _ rfl Fx.fl106_1 rfl rfl) rfl rfl rfl ?_
  refine LexK.r (b_load (r := .a _) rfl Fx.ty2 rfl rfl rfl rfl rfl rfl) rfl ?_
  refine LexK.r (g_mapUpdate (.int Fx.un3) rfl rfl Fx.un122 rfl (by (repeat rw [upd_ne _ _ (by first | assumption | exact Ne.symm (by assumption))]); first | assumption | exact upd_same _ _ _) rfl rfl rfl) rfl ?_
  refine LexK.nil (by kernel_rfl) ?_
  refine AW.reg ?_
  refine SeqK.q (q_add _ rfl rfl rfl (w64 (by omega) (by omega))) rfl rfl rfl ?_
  refine sM ?_
  refine SeqK.nil ?_
  have hadd := hE.add hok (rnK gv F.cs[i]) (nd_new hnd hi)
  exact ⟨i + 1, _, Wk.keep 28 [(1, .c (.a (.bp kf 0))), (2, .lp 2 0), (3, .lp 3 0), (4, .c (.a (.mp (km)))), (9, .c (cfsC .un F.cs)), (10, iX .i64 (((F.cs.map cfT).length : Nat) : Int)), (11, iX .i64 (((i + 1) : Nat) : Int))] [(2, .box [.t (.v (.int .i64 F.c)), .t (.sl .un 2 (F.cs.map cfT))]), (3, .box [.t (.v (.int .i64 0)), .t (.v (.slice none 0 0))])] (upd H (km) (some (.map (.int .i64) (mset (.int .i64 (gv F.cs[i].v)) (iC F.cs[i].n) ck es) (mclock (.int .i64 (gv F.cs[i].v)) es ck)))) rfl ⟨rfl, rfl, rfl, rfl, rfl, rfl, rfl, trivial⟩ ⟨rfl, rfl, trivial⟩ (fun j o h => by show upd (upd H km _) km _ j = some o; rw [upd_upd]; exact h) rfl, by omega, km, mclock (.int .i64 (gv F.cs[i].v)) es ck, mset (.int .i64 (gv F.cs[i].v)) (iC F.cs[i].n) ck es, ⟨hi, hkm, by rw [take_put hi, List.map_append]; exact hadd.2.1, hadd.2.2⟩, rfl⟩
 ·
  refine AW.exit ?_
  refine eth_e ?_
  refine eth_e ?_
  refine exit_here ?_
  refine AW.seq ?_
  obtain rfl : i = F.cs.length := by rw [List.length_map] at h12; omega
  rw [List.take_length] at hE
  have hnn : ∀ k ∈ F.cs.map (rnK gv), k.n ≠ 0 := fun k hk => by
   obtain ⟨k2, hk2, rfl⟩ := List.mem_map.1 hk
   exact hn0 k2 hk2
  refine AW.draw Fx.mo ?_
  refine LexK.q (q_fieldL _ rfl Fx.fl74_0 rfl rfl) rfl rfl rfl ?_
  refine LexK.r (b_load (r := .a _) rfl Fx.ty2 rfl rfl rfl rfl rfl rfl) rfl ?_
  refine LexK.q (q_mvC rfl rfl) rfl rfl rfl ?_
  refine LexK.r (g_call rfl Fx.fn72 rfl (coefs_any _ km ck es _ (upd_same _ _ _) hok hE (by rw [List.length_map]; omega) hnn) rfl rfl rfl) rfl ?_
  refine LexK.q (q_build2 (zs := [_, _]) (r := [_, _]) [(0, 1), (1, 1)] _ rfl Fx.ze74 rfl Fx.bp74 rfl rfl rfl rfl) rfl rfl rfl ?_
  refine LexK.r (b_store (r := [_, _]) rfl rfl Fx.ty74 rfl rfl rfl rfl rfl rfl) rfl ?_
  refine LexK.nil (by kernel_rfl) ?_
  refine AW.ret ?_
  exact fin_x (x := .c _) (H) (.cellL rfl rfl Fx.ty74 rfl rfl .nil) rfl (fun j o h => by show upd H _ _ j = _; rw [upd_ne _ _ (fun e => by subst e; simp_all)]; exact h) (⟨rfl, rfl⟩)

set_option maxRecDepth 20000 in
theorem rnp_any (H : Heap) (kf : Nat) (f : FuncId) (cs : List A) (gv : Int → Int) (l : List (Int × Int)) (z : Nz) (hfn : fnB Try.prog f = true) (hf : H kf = some (.box [.fn f cs])) (hl : l.length ≤ 1000000) (hcall : ∀ p ∈ l, Ren f cs gv H p.1 ∧ Ren f cs gv H p.2) : E.Spec Try.prog 73 [prsC z l, .a (.bp kf 0)] H fun x H' => x = .c (prsC .un (l.map (rnP gv))) ∧ H' = H := by
 refine Spec.enter Try.func73 rfl ?_
 refine AW.wk (Wk.keep 35 [(0, .c (prsC z l)), (1, .c (.a (.bp kf 0)))] [] (H) rfl ⟨rfl, rfl, trivial⟩ trivial (fun _ _ h => h) rfl) ?_
 refine sR ?_
 refine sA ?_
 refine SeqK.nil ?_
 refine sR ?_
 refine sA ?_
 refine SeqK.nil ?_
 refine AW.seq ?_
 refine sR ?_
 refine sM ?_
 refine SeqK.q (q_len rfl Fx.un26 rfl) rfl rfl rfl ?_
 refine sM ?_
 refine SeqK.nil ?_
 refine AW.block ?_
 refine AW.tip 4 80 2 rfl (fun k0 hk0 => ?_)
 refine AW.loop (fun (i : Nat) s => ∃ (kt : Nat) (zs : List (List E.T)), (i ≤ l.length ∧ H kt = none ∧ zs = ((l.take i).map (rnP gv)).map prT) ∧ s = ⟨35, sp [(1, .c (.a (.bp kf 0))), (4, .c (.a (.ts kt .ne 2 zs))), (9, .c (prsC z l)), (10, iX .i64 (((l.map prT).length : Nat) : Int)), (11, iX .i64 ((i : Nat) : Int))], lv [], upd H kt (some (.tip 80 2 zs.length))⟩) (fun i => l.length - i) 0 ⟨_, Wk.keep 35 [(1, .c (.a (.bp kf 0))), (4, .c (.a (.ts (k0) .ne 2 ([])))), (9, .c (prsC z l)), (10, iX .i64 (((l.map prT).length : Nat) : Int)), (11, iX .i64 ((((0 : Nat)) : Nat) : Int))] [] (upd H (k0) (some (.tip 80 2 ([]).length))) rfl ⟨rfl, rfl, rfl, rfl, rfl, trivial⟩ trivial (fun _ _ h => h) rfl, k0, [], ⟨Nat.zero_le _, hk0, rfl⟩, rfl⟩ (fun i s hs => ?_)
 obtain ⟨kt, zs, ⟨hi0, hkt, hzs⟩, rfl⟩ := hs
 have nkf : kf ≠ kt := fun e => by rw [e, hkt] at hf; cases hf
 refine sR ?_
 refine SeqK.q (q_lss rfl rfl rfl) rfl rfl rfl ?_
 refine SeqK.nil ?_
 refine AW.seq ?_
 refine AW.condD rfl (fun h12 => ?_) (fun h12 => ?_)
 ·
  have hi : i < l.length := by rw [List.length_map] at h12; omega
  refine AW.skip ?_
  refine AW.seq ?_
  refine AW.block ?_
  refine sR ?_
  refine SeqK.q (q_index _ rfl Fx.sl26 rfl rfl (by omega) (idx_map (f := prT) hi)) rfl rfl rfl ?_
  refine SeqK.q (q_load (.g [_, _]) rfl Fx.ty80 rfl rfl rfl) rfl rfl rfl ?_
  refine SeqK.r (b_alloc (r := [_, _]) rfl rfl Fx.ze80 rfl rfl rfl rfl) rfl ?_
  refine SeqK.r (b_store (r := [_, _]) rfl rfl Fx.ty80 rfl rfl rfl rfl rfl rfl) rfl ?_
  refine SeqK.nil ?_
  refine AW.seq ?_
  refine AW.draw Fx.mo ?_
  refine LexK.r (g_load (r := .a _) rfl Fx.ty84 rfl (by (repeat rw [upd_ne _ _ (by first | assumption | exact Ne.symm (by assumption))]); first | assumption | exact upd_same _ _ _) rfl rfl rfl rfl) rfl ?_
  refine LexK.q (q_indexL _ rfl Fx.ar80 rfl rfl (by omega) (by omega) rfl) rfl rfl rfl ?_
  refine LexK.r (b_load (r := .a _) rfl Fx.ty3 rfl rfl rfl rfl rfl rfl) rfl ?_
  refine LexK.r (g_callV (f := f) (cs := cs) rfl rfl hfn rfl ((hcall _ (List.getElem_mem hi)).1 _ (upd_sub hkt)) rfl rfl rfl) rfl ?_
  refine LexK.r (g_load (r := .a _) rfl Fx.ty84 rfl (by (repeat rw [upd_ne _ _ (by first | assumption | exact Ne.symm (by assumption))]); first | assumption | exact upd_same _ _ _) rfl rfl rfl rfl) rfl ?_
  refine LexK.q (q_indexL _ rfl Fx.ar80 rfl rfl (by omega) (by omega) rfl) rfl rfl rfl ?_
  refine LexK.r (b_load (r := .a _) rfl Fx.ty3 rfl rfl rfl rfl rfl rfl) rfl ?_
  refine LexK.r (g_callV (f := f) (cs := cs) rfl rfl hfn rfl ((hcall _ (List.getElem_mem hi)).2 _ (upd_sub hkt)) rfl rfl rfl) rfl ?_
  refine LexK.q (q_asC rfl rfl) rfl rfl rfl ?_
  refine LexK.q (q_asC rfl rfl) rfl rfl rfl ?_
  refine LexK.nil (by kernel_rfl) ?_
  refine AW.reg ?_
  refine sM ?_
  refine sM ?_
  refine sM ?_
  refine SeqK.q (q_min rfl rfl rfl) rfl rfl rfl ?_
  refine sM ?_
  refine sM ?_
  refine SeqK.q (q_max rfl rfl rfl) rfl rfl rfl ?_
  refine SeqK.q (q_build2 (zs := [_, _]) (r := [_, _]) [(0, 1), (1, 1)] _ rfl Fx.ze80 rfl Fx.bp80 rfl rfl rfl rfl) rfl rfl rfl ?_
  refine SeqK.q (q_buildSlice _ rfl Fx.el26 rfl (by decide) rfl) rfl rfl rfl ?_
  refine SeqK.app1 rfl (hkt) rfl Fx.el26 rfl rfl (by simp [hzs]; omega) rfl rfl (fun k32 hk32 => ?_)
  refine sA ?_
  refine SeqK.nil ?_
  refine AW.reg ?_
  refine SeqK.q (q_add _ rfl rfl rfl (w64 (by omega) (by omega))) rfl rfl rfl ?_
  refine sM ?_
  refine SeqK.nil ?_
  exact ⟨i + 1, _, Wk.keep 35 [(1, .c (.a (.bp kf 0))), (4, .c (.a (.ts (k32) .ne 2 (zs ++ [prT (rnP gv l[i])])))), (9, .c (prsC z l)), (10, iX .i64 (((l.map prT).length : Nat) : Int)), (11, iX .i64 (((i + 1) : Nat) : Int))] [] (upd H (k32) (some (.tip 80 2 (zs ++ [prT (rnP gv l[i])]).length))) rfl ⟨rfl, rfl, rfl, rfl, rfl, trivial⟩ trivial (fun _ _ h => h) rfl, by omega, k32, zs ++ [prT (rnP gv l[i])], ⟨hi, hk32, by rw [hzs, take_put hi, List.map_append, List.map_append]; rfl⟩, rfl⟩
 ·
  refine AW.exit ?_
  refine eth_e ?_
  refine eth_e ?_
  refine exit_here ?_
  refine AW.seq ?_
  obtain rfl : i = l.length := by rw [List.length_map] at h12; omega
  rw [List.take_length] at hzs
  refine AW.xw 4 rfl (XW.ts.trans (XW.es hzs)) ?_
  refine AW.reg ?_
  refine sM ?_
  refine sA ?_
  refine SeqK.nil ?_
  refine AW.ret ?_
  exact fin_x (x := .c _) (H) (.tmp rfl .nil) rfl (fun j o h => by show upd H _ _ j = _; rw [upd_ne _ _ (fun e => by subst e; simp_all)]; exact h) (⟨rfl, rfl⟩)

end Go.Proofs.Ytnmfjojhgfipcaa.W
namespace Go.Proofs.Ytnmfjojhgfipcaa.W
open Go.RowKit E
set_option linter.unusedVariables false
set_option linter.unusedSimpArgs false
set_option linter.unusedSectionVars false
abbrev rnA (gv : Int → Int) (a : Ax) : Ax := ⟨rnF gv a.f, a.b, if a.b = 0 then gv a.t else a.t⟩
abbrev rnI (gv : Int → Int) (a : Ct) : Ct := ⟨rnF gv a.f, a.e⟩
abbrev rnT (gv : Int → Int) (t : Ts) : Ts := ⟨gv t.v, t.k, t.n, t.s⟩
/-- a clause with its variables renamed -/
abbrev rnCl (gv : Int → Int) (c : Cl) : Cl := ⟨dd (c.nl.map gv), dd (c.nn.map gv), c.ax.map (rnA gv), c.is.map (rnI gv), c.ts.map (rnT gv), c.sm.map (rnP gv), c.df.map (rnP gv)⟩
structure nmF (V : Int → Prop) (gv : Int → Int) (F : Lf) : Prop where
  len : F.cs.length ≤ 1000000
  v : ∀ k ∈ F.cs, V k.v
  n0 : ∀ k ∈ F.cs, k.n ≠ 0
  nd : (F.cs.map fun k => gv k.v).Nodup
structure nmC (V : Int → Prop) (gv : Int → Int) (c : Cl) : Prop where
  nll : c.nl.length ≤ 1000000
  nnl : c.nn.length ≤ 1000000
  axl : c.ax.length ≤ 1000000
  isl : c.is.length ≤ 1000000
  tsl : c.ts.length ≤ 1000000
  sml : c.sm.length ≤ 1000000
  dfl : c.df.length ≤ 1000000
  nl : ∀ v ∈ c.nl, V v
  nn : ∀ v ∈ c.nn, V v
  axt : ∀ a ∈ c.ax, a.b = 0 → V a.t
  ax : ∀ a ∈ c.ax, nmF V gv a.f
  is : ∀ a ∈ c.is, nmF V gv a.f
  ts : ∀ t ∈ c.ts, V t.v
  sm : ∀ p ∈ c.sm, V p.1 ∧ V p.2
  df : ∀ p ∈ c.df, V p.1 ∧ V p.2
theorem Ren.up {f : FuncId} {cs : List A} {gv : Int → Int} {H H1 : Heap} {v : Int} (h : Ren f cs gv H v) (s : ∀ j o, H j = some o → H1 j = some o) : Ren f cs gv H1 v := fun H' h' => h H' fun j o q => h' j o (s j o q)

set_option maxHeartbeats 4000000 in
set_option maxRecDepth 20000 in
theorem renamed_any (H : Heap) (f : FuncId) (cs : List A) (gv : Int → Int) (V : Int → Prop) (c : Cl) (hfn : fnB Try.prog f = true) (hc : nmC V gv c) (hV : ∀ v, V v → Ren f cs gv H v) : E.Spec Try.prog 32 [clC c, .a (.fn f cs)] H fun x H' => x = .c (clC (rnCl gv c)) ∧ H' = H := by
 refine Spec.enter Try.func32 rfl ?_
 refine AW.wk (Wk.keep 102 [(0, .c (clC c)), (1, .c (.a (.fn f cs)))] [] (H) rfl ⟨rfl, rfl, trivial⟩ trivial (fun _ _ h => h) rfl) ?_
 refine sR ?_
 refine SeqK.r (b_box (r := [_, _, _, _, _, _, _]) rfl rfl rfl rfl rfl rfl) rfl ?_
 refine SeqK.newBox (r := [_]) rfl rfl rfl rfl rfl rfl (fun k3 hk3 => ?_)
 refine SeqK.r (b_alloc (r := [_, _, _, _, _, _, _]) rfl rfl Fx.ze28 rfl rfl rfl rfl) rfl ?_
 refine SeqK.nil ?_
 refine AW.seq ?_
 have q1 := hc.axl
 have q2 := hc.isl
 have q3 := hc.tsl
 refine AW.reg ?_
 refine SeqK.q (q_mkFn rfl rfl rfl) rfl rfl rfl ?_
 refine sA ?_
 refine SeqK.nil ?_
 refine sR ?_
 refine SeqK.q (q_mkFn rfl rfl rfl) rfl rfl rfl ?_
 refine sA ?_
 refine SeqK.nil ?_
 refine sR ?_
 refine SeqK.q (q_mkFn rfl rfl rfl) rfl rfl rfl ?_
 refine sA ?_
 refine SeqK.nil ?_
 refine AW.seq ?_
 refine AW.draw Fx.mo ?_
 refine LexK.q (q_mvC rfl rfl) rfl rfl rfl ?_
 refine LexK.q (q_fieldL _ rfl Fx.fl28_0 rfl rfl) rfl rfl rfl ?_
 refine LexK.r (b_load (r := .a _) rfl Fx.ty22 rfl rfl rfl rfl rfl rfl) rfl ?_
 refine LexK.r (g_callV (f := 70) (cs := [.bp k3 0]) rfl rfl Fx.fn70 rfl (ren1_fz _ k3 f cs gv c.nl .un hfn (upd_same _ _ _) hc.nll (fun v hv => (hV v (hc.nl v hv)).up (upd_sub hk3))) rfl rfl rfl) rfl ?_
 refine LexK.q (q_mvC rfl rfl) rfl rfl rfl ?_
 refine LexK.q (q_fieldL _ rfl Fx.fl28_1 rfl rfl) rfl rfl rfl ?_
 refine LexK.r (b_load (r := .a _) rfl Fx.ty22 rfl rfl rfl rfl rfl rfl) rfl ?_
 refine LexK.r (g_callV (f := 70) (cs := [.bp k3 0]) rfl rfl Fx.fn70 rfl (ren1_fz _ k3 f cs gv c.nn .un hfn (upd_same _ _ _) hc.nnl (fun v hv => (hV v (hc.nn v hv)).up (upd_sub hk3))) rfl rfl rfl) rfl ?_
 refine LexK.q (q_mvC rfl rfl) rfl rfl rfl ?_
 refine LexK.q (q_fieldL _ rfl Fx.fl28_5 rfl rfl) rfl rfl rfl ?_
 refine LexK.r (b_load (r := .a _) rfl Fx.ty26 rfl rfl rfl rfl rfl rfl) rfl ?_
 refine LexK.r (g_callV (f := 73) (cs := [.bp k3 0]) rfl rfl Fx.fn73 rfl (rnp_any _ k3 f cs gv c.sm .un hfn (upd_same _ _ _) hc.sml (fun p hp => ⟨(hV _ (hc.sm p hp).1).up (upd_sub hk3), (hV _ (hc.sm p hp).2).up (upd_sub hk3)⟩)) rfl rfl rfl) rfl ?_
 refine LexK.q (q_mvC rfl rfl) rfl rfl rfl ?_
 refine LexK.q (q_fieldL _ rfl Fx.fl28_6 rfl rfl) rfl rfl rfl ?_
 refine LexK.r (b_load (r := .a _) rfl Fx.ty26 rfl rfl rfl rfl rfl rfl) rfl ?_
 refine LexK.r (g_callV (f := 73) (cs := [.bp k3 0]) rfl rfl Fx.fn73 rfl (rnp_any _ k3 f cs gv c.df .un hfn (upd_same _ _ _) hc.dfl (fun p hp => ⟨(hV _ (hc.df p hp).1).up (upd_sub hk3), (hV _ (hc.df p hp).2).up (upd_sub hk3)⟩)) rfl rfl rfl) rfl ?_
 refine LexK.q (q_build2 (zs := [_, _, _, _, _, _, _]) (r := [_, _, _, _, _, _, _]) [(0, 1), (1, 1), (2, 1), (3, 1), (4, 1), (5, 1), (6, 1)] _ rfl Fx.ze28 rfl Fx.bp28 rfl rfl rfl rfl) rfl rfl rfl ?_
 refine LexK.r (b_alloc (r := [_, _, _, _, _, _, _]) rfl rfl Fx.ze28 rfl rfl rfl rfl) rfl ?_
 refine LexK.r (b_store (r := [_, _, _, _, _, _, _]) rfl rfl Fx.ty28 rfl rfl rfl rfl rfl rfl) rfl ?_
 refine LexK.nil (by kernel_rfl) ?_
 refine AW.seq ?_
 refine sR ?_
 refine SeqK.q (q_fieldL _ rfl Fx.fl28_2 rfl rfl) rfl rfl rfl ?_
 refine SeqK.r (b_load (r := .a _) rfl Fx.ty23 rfl rfl rfl rfl rfl rfl) rfl ?_
 refine SeqK.q (q_len rfl Fx.un23 rfl) rfl rfl rfl ?_
 refine sM ?_
 refine SeqK.nil ?_
 refine AW.block ?_
 refine AW.tipL 8 2 82 4 rfl rfl (fun k0 hk0 => ?_)
 refine AW.loop (fun (i : Nat) s => ∃ (ka : Nat) (za : List (List E.T)), (i ≤ c.ax.length ∧ (upd H k3 (some (.box [.fn f cs]))) ka = none ∧ za = ((c.ax.take i).map (rnA gv)).map axT) ∧ s = ⟨102, sp [(2, .lp 2 0), (3, .c (.a (.bp k3 0))), (4, .lp 4 0), (6, .c (.a (.fn 71 [.bp k3 0]))), (8, .lp 8 0), (36, .c (.a (.t (.sl .un 4 (c.ax.map axT))))), (37, iX .i64 (((c.ax.map axT).length : Nat) : Int)), (38, iX .i64 ((i : Nat) : Int))], lv [(2, .box [.t (.sl .un 1 (c.nl.map i64T)), .t (.sl .un 1 (c.nn.map i64T)), .t (.sl .un 4 (c.ax.map axT)), .t (.sl .un 3 (c.is.map ctT)), .t (.sl .un 4 (c.ts.map tsT)), .t (.sl .un 2 (c.sm.map prT)), .t (.sl .un 2 (c.df.map prT))]), (4, .box [.t (.v (.slice none 0 0)), .t (.v (.slice none 0 0)), .t (.v (.slice none 0 0)), .t (.v (.slice none 0 0)), .t (.v (.slice none 0 0)), .t (.v (.slice none 0 0)), .t (.v (.slice none 0 0))]), (8, .box [.t (.sl .un 1 ((dd (c.nl.map gv)).map i64T)), .t (.sl .un 1 ((dd (c.nn.map gv)).map i64T)), .ts ka .ne 4 za, .t (.v (.slice none 0 0)), .t (.v (.slice none 0 0)), .t (.sl .un 2 ((c.sm.map (rnP gv)).map prT)), .t (.sl .un 2 ((c.df.map (rnP gv)).map prT))])], (upd (upd H k3 (some (.box [.fn f cs]))) ka (some (.tip 82 4 za.length)))⟩) (fun i => c.ax.length - i) 0 ⟨_, Wk.keep 102 [(2, .lp 2 0), (3, .c (.a (.bp k3 0))), (4, .lp 4 0), (6, .c (.a (.fn 71 [.bp k3 0]))), (8, .lp 8 0), (36, .c (.a (.t (.sl .un 4 (c.ax.map axT))))), (37, iX .i64 (((c.ax.map axT).length : Nat) : Int)), (38, iX .i64 ((((0 : Nat)) : Nat) : Int))] [(2, .box [.t (.sl .un 1 (c.nl.map i64T)), .t (.sl .un 1 (c.nn.map i64T)), .t (.sl .un 4 (c.ax.map axT)), .t (.sl .un 3 (c.is.map ctT)), .t (.sl .un 4 (c.ts.map tsT)), .t (.sl .un 2 (c.sm.map prT)), .t (.sl .un 2 (c.df.map prT))]), (4, .box [.t (.v (.slice none 0 0)), .t (.v (.slice none 0 0)), .t (.v (.slice none 0 0)), .t (.v (.slice none 0 0)), .t (.v (.slice none 0 0)), .t (.v (.slice none 0 0)), .t (.v (.slice none 0 0))]), (8, .box [.t (.sl .un 1 ((dd (c.nl.map gv)).map i64T)), .t (.sl .un 1 ((dd (c.nn.map gv)).map i64T)), .ts (k0) .ne 4 ([]), .t (.v (.slice none 0 0)), .t (.v (.slice none 0 0)), .t (.sl .un 2 ((c.sm.map (rnP gv)).map prT)), .t (.sl .un 2 ((c.df.map (rnP gv)).map prT))])] ((upd (upd H k3 (some (.box [.fn f cs]))) (k0) (some (.tip 82 4 ([]).length)))) rfl ⟨rfl, rfl, rfl, rfl, rfl, rfl, rfl, rfl, trivial⟩ ⟨rfl, rfl, rfl, trivial⟩ (fun _ _ h => h) rfl, k0, [], ⟨Nat.zero_le _, hk0, rfl⟩, rfl⟩ (fun i s hs => ?_)
 obtain ⟨ka, za, ⟨hi0, hka, hza⟩, rfl⟩ := hs
 refine sR ?_
 refine SeqK.q (q_lss rfl rfl rfl) rfl rfl rfl ?_
 refine SeqK.nil ?_
 refine AW.seq ?_
 refine AW.condD rfl (fun h39 => ?_) (fun h39 => ?_)
 ·
  have hi : i < c.ax.length := by rw [List.length_map] at h39; omega
  refine AW.skip ?_
  refine AW.seq ?_
  refine AW.block ?_
  refine sR ?_
  refine SeqK.q (q_index _ rfl Fx.sl23 rfl rfl (by omega) (idx_map (f := axT) hi)) rfl rfl rfl ?_
  refine SeqK.q (q_load (.g [_, _, _, _]) rfl Fx.ty82 rfl rfl rfl) rfl rfl rfl ?_
  refine SeqK.r (b_alloc (r := [_, _, _, _]) rfl rfl Fx.ze82 rfl rfl rfl rfl) rfl ?_
  refine SeqK.r (b_store (r := [_, _, _, _]) rfl rfl Fx.ty82 rfl rfl rfl rfl rfl rfl) rfl ?_
  refine SeqK.nil ?_
  refine AW.seq ?_
  refine sR ?_
  refine SeqK.q (q_fieldL _ rfl Fx.fl82_1 rfl rfl) rfl rfl rfl ?_
  refine SeqK.r (b_load (r := .a _) rfl Fx.ty2 rfl rfl rfl rfl rfl rfl) rfl ?_
  refine SeqK.q (q_eql rfl rfl rfl) rfl rfl rfl ?_
  refine SeqK.nil ?_
  refine AW.condD rfl (fun h44 => ?_) (fun h44 => ?_)
  ·
   refine AW.reg ?_
   refine SeqK.r (g_load (r := .a _) rfl Fx.ty84 rfl ((upd_sub hka _ _ (upd_same _ _ _))) rfl rfl rfl rfl) rfl ?_
   refine SeqK.q (q_fieldL _ rfl Fx.fl82_2 rfl rfl) rfl rfl rfl ?_
   refine SeqK.r (b_load (r := .a _) rfl Fx.ty3 rfl rfl rfl rfl rfl rfl) rfl ?_
   refine SeqK.r (g_callV (f := f) (cs := cs) rfl rfl hfn rfl (hV c.ax[i].t (hc.axt _ (List.getElem_mem hi) h44) _ (fun j o q => upd_sub hka j o (upd_sub hk3 j o q))) rfl rfl rfl) rfl ?_
   refine SeqK.q (q_fieldL _ rfl Fx.fl82_2 rfl rfl) rfl rfl rfl ?_
   refine SeqK.r (b_store (r := [_, _, _, _]) rfl rfl Fx.ty3 rfl rfl rfl rfl rfl rfl) rfl ?_
   refine SeqK.nil ?_
   refine sR ?_
   refine sM ?_
   refine SeqK.q (q_fieldL _ rfl Fx.fl82_0 rfl rfl) rfl rfl rfl ?_
   refine SeqK.r (b_load (r := .g [_, _]) rfl Fx.ty74 rfl rfl rfl rfl rfl rfl) rfl ?_
   refine SeqK.r (g_callV (f := 71) (cs := [.bp k3 0]) rfl rfl Fx.fn71 rfl (rnf_any _ k3 f cs gv c.ax[i].f hfn (upd_sub hka _ _ (upd_same _ _ _)) (hc.ax _ (List.getElem_mem hi)).len (fun k hk => (hV _ ((hc.ax _ (List.getElem_mem hi)).v k hk)).up (fun j o q => upd_sub hka j o (upd_sub hk3 j o q))) (hc.ax _ (List.getElem_mem hi)).n0 (hc.ax _ (List.getElem_mem hi)).nd) rfl rfl rfl) rfl ?_
   refine SeqK.q (q_fieldL _ rfl Fx.fl82_0 rfl rfl) rfl rfl rfl ?_
   refine SeqK.r (b_store (r := [_, _, _, _]) rfl rfl Fx.ty74 rfl rfl rfl rfl rfl rfl) rfl ?_
   refine SeqK.nil ?_
   refine AW.reg ?_
   refine SeqK.q (q_fieldL _ rfl Fx.fl28_2 rfl rfl) rfl rfl rfl ?_
   refine SeqK.r (b_load (r := .a _) rfl Fx.ty23 rfl rfl rfl rfl rfl rfl) rfl ?_
   refine SeqK.r (b_load (r := .g [_, _, _, _]) rfl Fx.ty82 rfl rfl rfl rfl rfl rfl) rfl ?_
   refine SeqK.q (q_buildSlice _ rfl Fx.el23 rfl (by decide) rfl) rfl rfl rfl ?_
   refine SeqK.app1 rfl (hka) rfl Fx.el23 rfl rfl (by simp [hza]; omega) rfl rfl (fun k59 hk59 => ?_)
   refine SeqK.q (q_fieldL _ rfl Fx.fl28_2 rfl rfl) rfl rfl rfl ?_
   refine SeqK.r (b_store (r := [_, _, _, _, _, _, _]) rfl rfl Fx.ty23 rfl rfl rfl rfl rfl rfl) rfl ?_
   refine SeqK.nil ?_
   refine AW.reg ?_
   refine SeqK.q (q_add _ rfl rfl rfl (w64 (by omega) (by omega))) rfl rfl rfl ?_
   refine sM ?_
   refine SeqK.nil ?_
   exact ⟨i + 1, _, Wk.keep 102 [(2, .lp 2 0), (3, .c (.a (.bp k3 0))), (4, .lp 4 0), (6, .c (.a (.fn 71 [.bp k3 0]))), (8, .lp 8 0), (36, .c (.a (.t (.sl .un 4 (c.ax.map axT))))), (37, iX .i64 (((c.ax.map axT).length : Nat) : Int)), (38, iX .i64 (((i + 1) : Nat) : Int))] [(2, .box [.t (.sl .un 1 (c.nl.map i64T)), .t (.sl .un 1 (c.nn.map i64T)), .t (.sl .un 4 (c.ax.map axT)), .t (.sl .un 3 (c.is.map ctT)), .t (.sl .un 4 (c.ts.map tsT)), .t (.sl .un 2 (c.sm.map prT)), .t (.sl .un 2 (c.df.map prT))]), (4, .box [.t (.v (.slice none 0 0)), .t (.v (.slice none 0 0)), .t (.v (.slice none 0 0)), .t (.v (.slice none 0 0)), .t (.v (.slice none 0 0)), .t (.v (.slice none 0 0)), .t (.v (.slice none 0 0))]), (8, .box [.t (.sl .un 1 ((dd (c.nl.map gv)).map i64T)), .t (.sl .un 1 ((dd (c.nn.map gv)).map i64T)), .ts (k59) .ne 4 (za ++ [axT ⟨rnF gv c.ax[i].f, c.ax[i].b, gv c.ax[i].t⟩]), .t (.v (.slice none 0 0)), .t (.v (.slice none 0 0)), .t (.sl .un 2 ((c.sm.map (rnP gv)).map prT)), .t (.sl .un 2 ((c.df.map (rnP gv)).map prT))])] ((upd (upd H k3 (some (.box [.fn f cs]))) (k59) (some (.tip 82 4 (za ++ [axT ⟨rnF gv c.ax[i].f, c.ax[i].b, gv c.ax[i].t⟩]).length)))) rfl ⟨rfl, rfl, rfl, rfl, rfl, rfl, rfl, rfl, trivial⟩ ⟨rfl, rfl, rfl, trivial⟩ (fun _ _ h => h) rfl, by omega, k59, za ++ [axT ⟨rnF gv c.ax[i].f, c.ax[i].b, gv c.ax[i].t⟩], ⟨hi, hk59, by rw [hza, take_put hi, List.map_append, List.map_append]; simp [rnA, h44]⟩, rfl⟩
  ·
   refine AW.skip ?_
   refine sR ?_
   refine sM ?_
   refine SeqK.q (q_fieldL _ rfl Fx.fl82_0 rfl rfl) rfl rfl rfl ?_
   refine SeqK.r (b_load (r := .g [_, _]) rfl Fx.ty74 rfl rfl rfl rfl rfl rfl) rfl ?_
   refine SeqK.r (g_callV (f := 71) (cs := [.bp k3 0]) rfl rfl Fx.fn71 rfl (rnf_any _ k3 f cs gv c.ax[i].f hfn (upd_sub hka _ _ (upd_same _ _ _)) (hc.ax _ (List.getElem_mem hi)).len (fun k hk => (hV _ ((hc.ax _ (List.getElem_mem hi)).v k hk)).up (fun j o q => upd_sub hka j o (upd_sub hk3 j o q))) (hc.ax _ (List.getElem_mem hi)).n0 (hc.ax _ (List.getElem_mem hi)).nd) rfl rfl rfl) rfl ?_
   refine SeqK.q (q_fieldL _ rfl Fx.fl82_0 rfl rfl) rfl rfl rfl ?_
   refine SeqK.r (b_store (r := [_, _, _, _]) rfl rfl Fx.ty74 rfl rfl rfl rfl rfl rfl) rfl ?_
   refine SeqK.nil ?_
   refine AW.reg ?_
   refine SeqK.q (q_fieldL _ rfl Fx.fl28_2 rfl rfl) rfl rfl rfl ?_
   refine SeqK.r (b_load (r := .a _) rfl Fx.ty23 rfl rfl rfl rfl rfl rfl) rfl ?_
   refine SeqK.r (b_load (r := .g [_, _, _, _]) rfl Fx.ty82 rfl rfl rfl rfl rfl rfl) rfl ?_
   refine SeqK.q (q_buildSlice _ rfl Fx.el23 rfl (by decide) rfl) rfl rfl rfl ?_
   refine SeqK.app1 rfl (hka) rfl Fx.el23 rfl rfl (by simp [hza]; omega) rfl rfl (fun k59 hk59 => ?_)
   refine SeqK.q (q_fieldL _ rfl Fx.fl28_2 rfl rfl) rfl rfl rfl ?_
   refine SeqK.r (b_store (r := [_, _, _, _, _, _, _]) rfl rfl Fx.ty23 rfl rfl rfl rfl rfl rfl) rfl ?_
   refine SeqK.nil ?_
   refine AW.reg ?_
   refine SeqK.q (q_add _ rfl rfl rfl (w64 (by omega) (by omega))) rfl rfl rfl ?_
   refine sM ?_
   refine SeqK.nil ?_
   exact ⟨i + 1, _, Wk.keep 102 [(2, .lp 2 0), (3, .c (.a (.bp k3 0))), (4, .lp 4 0), (6, .c (.a (.fn 71 [.bp k3 0]))), (8, .lp 8 0), (36, .c (.a (.t (.sl .un 4 (c.ax.map axT))))), (37, iX .i64 (((c.ax.map axT).length : Nat) : Int)), (38, iX .i64 (((i + 1) : Nat) : Int))] [(2, .box [.t (.sl .un 1 (c.nl.map i64T)), .t (.sl .un 1 (c.nn.map i64T)), .t (.sl .un 4 (c.ax.map axT)), .t (.sl .un 3 (c.is.map ctT)), .t (.sl .un 4 (c.ts.map tsT)), .t (.sl .un 2 (c.sm.map prT)), .t (.sl .un 2 (c.df.map prT))]), (4, .box [.t (.v (.slice none 0 0)), .t (.v (.slice none 0 0)), .t (.v (.slice none 0 0)), .t (.v (.slice none 0 0)), .t (.v (.slice none 0 0)), .t (.v (.slice none 0 0)), .t (.v (.slice none 0 0))]), (8, .box [.t (.sl .un 1 ((dd (c.nl.map gv)).map i64T)), .t (.sl .un 1 ((dd (c.nn.map gv)).map i64T)), .ts (k59) .ne 4 (za ++ [axT ⟨rnF gv c.ax[i].f, c.ax[i].b, c.ax[i].t⟩]), .t (.v (.slice none 0 0)), .t (.v (.slice none 0 0)), .t (.sl .un 2 ((c.sm.map (rnP gv)).map prT)), .t (.sl .un 2 ((c.df.map (rnP gv)).map prT))])] ((upd (upd H k3 (some (.box [.fn f cs]))) (k59) (some (.tip 82 4 (za ++ [axT ⟨rnF gv c.ax[i].f, c.ax[i].b, c.ax[i].t⟩]).length)))) rfl ⟨rfl, rfl, rfl, rfl, rfl, rfl, rfl, rfl, trivial⟩ ⟨rfl, rfl, rfl, trivial⟩ (fun _ _ h => h) rfl, by omega, k59, za ++ [axT ⟨rnF gv c.ax[i].f, c.ax[i].b, c.ax[i].t⟩], ⟨hi, hk59, by rw [hza, take_put hi, List.map_append, List.map_append]; simp [rnA, h44]⟩, rfl⟩
 ·
  refine AW.exit ?_
  refine eth_e ?_
  refine eth_e ?_
  refine exit_here ?_
  refine AW.seq ?_
  refine AW.seq ?_
  obtain rfl : i = c.ax.length := by rw [List.length_map] at h39; omega
  rw [List.take_length] at hza
  refine AW.reg ?_
  refine SeqK.q (q_fieldL _ rfl Fx.fl28_3 rfl rfl) rfl rfl rfl ?_
  refine SeqK.r (b_load (r := .a _) rfl Fx.ty24 rfl rfl rfl rfl rfl rfl) rfl ?_
  refine SeqK.q (q_len rfl Fx.un24 rfl) rfl rfl rfl ?_
  refine sM ?_
  refine SeqK.nil ?_
  refine AW.block ?_
  refine AW.tipL 8 3 76 3 rfl rfl (fun k0 hk0 => ?_)
  refine AW.loop (fun (i : Nat) s => ∃ (kb : Nat) (zb : List (List E.T)), (i ≤ c.is.length ∧ (upd (upd H k3 (some (.box [.fn f cs]))) ka (some (.tip 82 4 za.length))) kb = none ∧ zb = ((c.is.take i).map (rnI gv)).map ctT) ∧ s = ⟨102, sp [(2, .lp 2 0), (3, .c (.a (.bp k3 0))), (4, .lp 4 0), (6, .c (.a (.fn 71 [.bp k3 0]))), (8, .lp 8 0), (63, .c (.a (.t (.sl .un 3 (c.is.map ctT))))), (64, iX .i64 (((c.is.map ctT).length : Nat) : Int)), (65, iX .i64 ((i : Nat) : Int))], lv [(2, .box [.t (.sl .un 1 (c.nl.map i64T)), .t (.sl .un 1 (c.nn.map i64T)), .t (.sl .un 4 (c.ax.map axT)), .t (.sl .un 3 (c.is.map ctT)), .t (.sl .un 4 (c.ts.map tsT)), .t (.sl .un 2 (c.sm.map prT)), .t (.sl .un 2 (c.df.map prT))]), (4, .box [.t (.v (.slice none 0 0)), .t (.v (.slice none 0 0)), .t (.v (.slice none 0 0)), .t (.v (.slice none 0 0)), .t (.v (.slice none 0 0)), .t (.v (.slice none 0 0)), .t (.v (.slice none 0 0))]), (8, .box [.t (.sl .un 1 ((dd (c.nl.map gv)).map i64T)), .t (.sl .un 1 ((dd (c.nn.map gv)).map i64T)), .ts ka .ne 4 za, .ts kb .ne 3 zb, .t (.v (.slice none 0 0)), .t (.sl .un 2 ((c.sm.map (rnP gv)).map prT)), .t (.sl .un 2 ((c.df.map (rnP gv)).map prT))])], (upd (upd (upd H k3 (some (.box [.fn f cs]))) ka (some (.tip 82 4 za.length))) kb (some (.tip 76 3 zb.length)))⟩) (fun i => c.is.length - i) 0 ⟨_, Wk.keep 102 [(2, .lp 2 0), (3, .c (.a (.bp k3 0))), (4, .lp 4 0), (6, .c (.a (.fn 71 [.bp k3 0]))), (8, .lp 8 0), (63, .c (.a (.t (.sl .un 3 (c.is.map ctT))))), (64, iX .i64 (((c.is.map ctT).length : Nat) : Int)), (65, iX .i64 ((((0 : Nat)) : Nat) : Int))] [(2, .box [.t (.sl .un 1 (c.nl.map i64T)), .t (.sl .un 1 (c.nn.map i64T)), .t (.sl .un 4 (c.ax.map axT)), .t (.sl .un 3 (c.is.map ctT)), .t (.sl .un 4 (c.ts.map tsT)), .t (.sl .un 2 (c.sm.map prT)), .t (.sl .un 2 (c.df.map prT))]), (4, .box [.t (.v (.slice none 0 0)), .t (.v (.slice none 0 0)), .t (.v (.slice none 0 0)), .t (.v (.slice none 0 0)), .t (.v (.slice none 0 0)), .t (.v (.slice none 0 0)), .t (.v (.slice none 0 0))]), (8, .box [.t (.sl .un 1 ((dd (c.nl.map gv)).map i64T)), .t (.sl .un 1 ((dd (c.nn.map gv)).map i64T)), .ts ka .ne 4 za, .ts (k0) .ne 3 ([]), .t (.v (.slice none 0 0)), .t (.sl .un 2 ((c.sm.map (rnP gv)).map prT)), .t (.sl .un 2 ((c.df.map (rnP gv)).map prT))])] ((upd (upd (upd H k3 (some (.box [.fn f cs]))) ka (some (.tip 82 4 za.length))) (k0) (some (.tip 76 3 ([]).length)))) rfl ⟨rfl, rfl, rfl, rfl, rfl, rfl, rfl, rfl, trivial⟩ ⟨rfl, rfl, rfl, trivial⟩ (fun _ _ h => h) rfl, k0, [], ⟨Nat.zero_le _, hk0, rfl⟩, rfl⟩ (fun i s hs => ?_)
  obtain ⟨kb, zb, ⟨hi0, hkb, hzb⟩, rfl⟩ := hs
  refine sR ?_
  refine SeqK.q (q_lss rfl rfl rfl) rfl rfl rfl ?_
  refine SeqK.nil ?_
  refine AW.seq ?_
  refine AW.condD rfl (fun h66 => ?_) (fun h66 => ?_)
  ·
   have hi : i < c.is.length := by rw [List.length_map] at h66; omega
   refine AW.skip ?_
   refine AW.seq ?_
   refine AW.block ?_
   refine sR ?_
   refine SeqK.q (q_index _ rfl Fx.sl24 rfl rfl (by omega) (idx_map (f := ctT) hi)) rfl rfl rfl ?_
   refine SeqK.q (q_load (.g [_, _, _]) rfl Fx.ty76 rfl rfl rfl) rfl rfl rfl ?_
   refine SeqK.r (b_alloc (r := [_, _, _]) rfl rfl Fx.ze76 rfl rfl rfl rfl) rfl ?_
   refine SeqK.r (b_store (r := [_, _, _]) rfl rfl Fx.ty76 rfl rfl rfl rfl rfl rfl) rfl ?_
   refine SeqK.nil ?_
   refine AW.drawO [0, 1, 2, 3, 4, 6, 7, 5, 8, 9, 10, 11, 12] Fx.mo (by kernel_rfl) ?_
   refine LexO.q rfl (by kernel_rfl) (q_fieldL _ rfl Fx.fl28_3 rfl rfl) rfl rfl rfl ?_
   refine LexO.r rfl (by kernel_rfl) (b_load (r := .a _) rfl Fx.ty24 rfl rfl rfl rfl rfl rfl) rfl ?_
   refine LexO.q rfl (by kernel_rfl) (q_mvC rfl rfl) rfl rfl rfl ?_
   refine LexO.q rfl (by kernel_rfl) (q_fieldL _ rfl Fx.fl76_0 rfl rfl) rfl rfl rfl ?_
   refine LexO.r rfl (by kernel_rfl) (b_load (r := .g [_, _]) rfl Fx.ty74 rfl rfl rfl rfl rfl rfl) rfl ?_
   refine LexO.q rfl (by kernel_rfl) (q_fieldL _ rfl Fx.fl76_1 rfl rfl) rfl rfl rfl ?_
   refine LexO.r rfl (by kernel_rfl) (b_load (r := .a _) rfl Fx.ty4 rfl rfl rfl rfl rfl rfl) rfl ?_
   refine LexO.r rfl (by kernel_rfl) (g_callV (f := 71) (cs := [.bp k3 0]) rfl rfl Fx.fn71 rfl (rnf_any _ k3 f cs gv c.is[i].f hfn (upd_sub hkb _ _ (upd_sub hka _ _ (upd_same _ _ _))) (hc.is _ (List.getElem_mem hi)).len (fun k hk => (hV _ ((hc.is _ (List.getElem_mem hi)).v k hk)).up (fun j o q => upd_sub hkb j o (upd_sub hka j o (upd_sub hk3 j o q)))) (hc.is _ (List.getElem_mem hi)).n0 (hc.is _ (List.getElem_mem hi)).nd) rfl rfl rfl) rfl ?_
   refine LexO.q rfl (by kernel_rfl) (q_build2 (zs := [_, _, _]) (r := [_, _, _]) [(0, 2), (2, 1)] _ rfl Fx.ze76 rfl Fx.bp76 rfl rfl rfl rfl) rfl rfl rfl ?_
   refine LexO.q rfl (by kernel_rfl) (q_buildSlice _ rfl Fx.el24 rfl (by decide) rfl) rfl rfl rfl ?_
   refine LexO.app1 rfl (by kernel_rfl) (by kernel_rfl) (by kernel_rfl) rfl (hkb) rfl Fx.el24 rfl rfl (by simp [hzb]; omega) rfl rfl (fun k79 hk79 => ?_)
   refine LexO.q rfl (by kernel_rfl) (q_fieldL _ rfl Fx.fl28_3 rfl rfl) rfl rfl rfl ?_
   refine LexO.r rfl (by kernel_rfl) (b_store (r := [_, _, _, _, _, _, _]) rfl rfl Fx.ty24 rfl rfl rfl rfl rfl rfl) rfl ?_
   refine LexO.nil (by kernel_rfl) ?_
   refine AW.reg ?_
   refine SeqK.q (q_add _ rfl rfl rfl (w64 (by omega) (by omega))) rfl rfl rfl ?_
   refine sM ?_
   refine SeqK.nil ?_
   exact ⟨i + 1, _, Wk.keep 102 [(2, .lp 2 0), (3, .c (.a (.bp k3 0))), (4, .lp 4 0), (6, .c (.a (.fn 71 [.bp k3 0]))), (8, .lp 8 0), (63, .c (.a (.t (.sl .un 3 (c.is.map ctT))))), (64, iX .i64 (((c.is.map ctT).length : Nat) : Int)), (65, iX .i64 (((i + 1) : Nat) : Int))] [(2, .box [.t (.sl .un 1 (c.nl.map i64T)), .t (.sl .un 1 (c.nn.map i64T)), .t (.sl .un 4 (c.ax.map axT)), .t (.sl .un 3 (c.is.map ctT)), .t (.sl .un 4 (c.ts.map tsT)), .t (.sl .un 2 (c.sm.map prT)), .t (.sl .un 2 (c.df.map prT))]), (4, .box [.t (.v (.slice none 0 0)), .t (.v (.slice none 0 0)), .t (.v (.slice none 0 0)), .t (.v (.slice none 0 0)), .t (.v (.slice none 0 0)), .t (.v (.slice none 0 0)), .t (.v (.slice none 0 0))]), (8, .box [.t (.sl .un 1 ((dd (c.nl.map gv)).map i64T)), .t (.sl .un 1 ((dd (c.nn.map gv)).map i64T)), .ts ka .ne 4 za, .ts (k79) .ne 3 (zb ++ [ctT (rnI gv c.is[i])]), .t (.v (.slice none 0 0)), .t (.sl .un 2 ((c.sm.map (rnP gv)).map prT)), .t (.sl .un 2 ((c.df.map (rnP gv)).map prT))])] ((upd (upd (upd H k3 (some (.box [.fn f cs]))) ka (some (.tip 82 4 za.length))) (k79) (some (.tip 76 3 (zb ++ [ctT (rnI gv c.is[i])]).length)))) rfl ⟨rfl, rfl, rfl, rfl, rfl, rfl, rfl, rfl, trivial⟩ ⟨rfl, rfl, rfl, trivial⟩ (fun _ _ h => h) rfl, by omega, k79, zb ++ [ctT (rnI gv c.is[i])], ⟨hi, hk79, by rw [hzb, take_put hi, List.map_append, List.map_append]; simp ⟩, rfl⟩
  ·
   refine AW.exit ?_
   refine eth_e ?_
   refine eth_e ?_
   refine exit_here ?_
   refine AW.seq ?_
   refine AW.seq ?_
   obtain rfl : i = c.is.length := by rw [List.length_map] at h66; omega
   rw [List.take_length] at hzb
   refine AW.reg ?_
   refine SeqK.q (q_fieldL _ rfl Fx.fl28_4 rfl rfl) rfl rfl rfl ?_
   refine SeqK.r (b_load (r := .a _) rfl Fx.ty25 rfl rfl rfl rfl rfl rfl) rfl ?_
   refine SeqK.q (q_len rfl Fx.un25 rfl) rfl rfl rfl ?_
   refine sM ?_
   refine SeqK.nil ?_
   refine AW.block ?_
   refine AW.tipL 8 4 61 4 rfl rfl (fun k0 hk0 => ?_)
   refine AW.loop (fun (i : Nat) s => ∃ (kc : Nat) (zc : List (List E.T)), (i ≤ c.ts.length ∧ (upd (upd (upd H k3 (some (.box [.fn f cs]))) ka (some (.tip 82 4 za.length))) kb (some (.tip 76 3 zb.length))) kc = none ∧ zc = ((c.ts.take i).map (rnT gv)).map tsT) ∧ s = ⟨102, sp [(2, .lp 2 0), (3, .c (.a (.bp k3 0))), (4, .lp 4 0), (6, .c (.a (.fn 71 [.bp k3 0]))), (8, .lp 8 0), (83, .c (.a (.t (.sl .un 4 (c.ts.map tsT))))), (84, iX .i64 (((c.ts.map tsT).length : Nat) : Int)), (85, iX .i64 ((i : Nat) : Int))], lv [(2, .box [.t (.sl .un 1 (c.nl.map i64T)), .t (.sl .un 1 (c.nn.map i64T)), .t (.sl .un 4 (c.ax.map axT)), .t (.sl .un 3 (c.is.map ctT)), .t (.sl .un 4 (c.ts.map tsT)), .t (.sl .un 2 (c.sm.map prT)), .t (.sl .un 2 (c.df.map prT))]), (4, .box [.t (.v (.slice none 0 0)), .t (.v (.slice none 0 0)), .t (.v (.slice none 0 0)), .t (.v (.slice none 0 0)), .t (.v (.slice none 0 0)), .t (.v (.slice none 0 0)), .t (.v (.slice none 0 0))]), (8, .box [.t (.sl .un 1 ((dd (c.nl.map gv)).map i64T)), .t (.sl .un 1 ((dd (c.nn.map gv)).map i64T)), .ts ka .ne 4 za, .ts kb .ne 3 zb, .ts kc .ne 4 zc, .t (.sl .un 2 ((c.sm.map (rnP gv)).map prT)), .t (.sl .un 2 ((c.df.map (rnP gv)).map prT))])], (upd (upd (upd (upd H k3 (some (.box [.fn f cs]))) ka (some (.tip 82 4 za.length))) kb (some (.tip 76 3 zb.length))) kc (some (.tip 61 4 zc.length)))⟩) (fun i => c.ts.length - i) 0 ⟨_, Wk.keep 102 [(2, .lp 2 0), (3, .c (.a (.bp k3 0))), (4, .lp 4 0), (6, .c (.a (.fn 71 [.bp k3 0]))), (8, .lp 8 0), (83, .c (.a (.t (.sl .un 4 (c.ts.map tsT))))), (84, iX .i64 (((c.ts.map tsT).length : Nat) : Int)), (85, iX .i64 ((((0 : Nat)) : Nat) : Int))] [(2, .box [.t (.sl .un 1 (c.nl.map i64T)), .t (.sl .un 1 (c.nn.map i64T)), .t (.sl .un 4 (c.ax.map axT)), .t (.sl .un 3 (c.is.map ctT)), .t (.sl .un 4 (c.ts.map tsT)), .t (.sl .un 2 (c.sm.map prT)), .t (.sl .un 2 (c.df.map prT))]), (4, .box [.t (.v (.slice none 0 0)), .t (.v (.slice none 0 0)), .t (.v (.slice none 0 0)), .t (.v (.slice none 0 0)), .t (.v (.slice none 0 0)), .t (.v (.slice none 0 0)), .t (.v (.slice none 0 0))]), (8, .box [.t (.sl .un 1 ((dd (c.nl.map gv)).map i64T)), .t (.sl .un 1 ((dd (c.nn.map gv)).map i64T)), .ts ka .ne 4 za, .ts kb .ne 3 zb, .ts (k0) .ne 4 ([]), .t (.sl .un 2 ((c.sm.map (rnP gv)).map prT)), .t (.sl .un 2 ((c.df.map (rnP gv)).map prT))])] ((upd (upd (upd (upd H k3 (some (.box [.fn f cs]))) ka (some (.tip 82 4 za.length))) kb (some (.tip 76 3 zb.length))) (k0) (some (.tip 61 4 ([]).length)))) rfl ⟨rfl, rfl, rfl, rfl, rfl, rfl, rfl, rfl, trivial⟩ ⟨rfl, rfl, rfl, trivial⟩ (fun _ _ h => h) rfl, k0, [], ⟨Nat.zero_le _, hk0, rfl⟩, rfl⟩ (fun i s hs => ?_)
   obtain ⟨kc, zc, ⟨hi0, hkc, hzc⟩, rfl⟩ := hs
   refine sR ?_
   refine SeqK.q (q_lss rfl rfl rfl) rfl rfl rfl ?_
   refine SeqK.nil ?_
   refine AW.seq ?_
   refine AW.condD rfl (fun h86 => ?_) (fun h86 => ?_)
   ·
    have hi : i < c.ts.length := by rw [List.length_map] at h86; omega
    refine AW.skip ?_
    refine AW.seq ?_
    refine AW.block ?_
    refine sR ?_
    refine SeqK.q (q_index _ rfl Fx.sl25 rfl rfl (by omega) (idx_map (f := tsT) hi)) rfl rfl rfl ?_
    refine SeqK.q (q_load (.g [_, _, _, _]) rfl Fx.ty61 rfl rfl rfl) rfl rfl rfl ?_
    refine SeqK.r (b_alloc (r := [_, _, _, _]) rfl rfl Fx.ze61 rfl rfl rfl rfl) rfl ?_
    refine SeqK.r (b_store (r := [_, _, _, _]) rfl rfl Fx.ty61 rfl rfl rfl rfl rfl rfl) rfl ?_
    refine SeqK.nil ?_
    refine sR ?_
    refine SeqK.r (g_load (r := .a _) rfl Fx.ty84 rfl (upd_sub hkc _ _ (upd_sub hkb _ _ (upd_sub hka _ _ (upd_same _ _ _)))) rfl rfl rfl rfl) rfl ?_
    refine SeqK.q (q_fieldL _ rfl Fx.fl61_0 rfl rfl) rfl rfl rfl ?_
    refine SeqK.r (b_load (r := .a _) rfl Fx.ty3 rfl rfl rfl rfl rfl rfl) rfl ?_
    refine SeqK.r (g_callV (f := f) (cs := cs) rfl rfl hfn rfl (hV c.ts[i].v (hc.ts _ (List.getElem_mem hi)) _ (fun j o q => upd_sub hkc j o (upd_sub hkb j o (upd_sub hka j o (upd_sub hk3 j o q))))) rfl rfl rfl) rfl ?_
    refine SeqK.q (q_fieldL _ rfl Fx.fl61_0 rfl rfl) rfl rfl rfl ?_
    refine SeqK.r (b_store (r := [_, _, _, _]) rfl rfl Fx.ty3 rfl rfl rfl rfl rfl rfl) rfl ?_
    refine SeqK.nil ?_
    refine AW.reg ?_
    refine SeqK.q (q_fieldL _ rfl Fx.fl28_4 rfl rfl) rfl rfl rfl ?_
    refine SeqK.r (b_load (r := .a _) rfl Fx.ty25 rfl rfl rfl rfl rfl rfl) rfl ?_
    refine SeqK.r (b_load (r := .g [_, _, _, _]) rfl Fx.ty61 rfl rfl rfl rfl rfl rfl) rfl ?_
    refine SeqK.q (q_buildSlice _ rfl Fx.el25 rfl (by decide) rfl) rfl rfl rfl ?_
    refine SeqK.app1 rfl (hkc) rfl Fx.el25 rfl rfl (by simp [hzc]; omega) rfl rfl (fun k98 hk98 => ?_)
    refine SeqK.q (q_fieldL _ rfl Fx.fl28_4 rfl rfl) rfl rfl rfl ?_
    refine SeqK.r (b_store (r := [_, _, _, _, _, _, _]) rfl rfl Fx.ty25 rfl rfl rfl rfl rfl rfl) rfl ?_
    refine SeqK.nil ?_
    refine AW.reg ?_
    refine SeqK.q (q_add _ rfl rfl rfl (w64 (by omega) (by omega))) rfl rfl rfl ?_
    refine sM ?_
    refine SeqK.nil ?_
    exact ⟨i + 1, _, Wk.keep 102 [(2, .lp 2 0), (3, .c (.a (.bp k3 0))), (4, .lp 4 0), (6, .c (.a (.fn 71 [.bp k3 0]))), (8, .lp 8 0), (83, .c (.a (.t (.sl .un 4 (c.ts.map tsT))))), (84, iX .i64 (((c.ts.map tsT).length : Nat) : Int)), (85, iX .i64 (((i + 1) : Nat) : Int))] [(2, .box [.t (.sl .un 1 (c.nl.map i64T)), .t (.sl .un 1 (c.nn.map i64T)), .t (.sl .un 4 (c.ax.map axT)), .t (.sl .un 3 (c.is.map ctT)), .t (.sl .un 4 (c.ts.map tsT)), .t (.sl .un 2 (c.sm.map prT)), .t (.sl .un 2 (c.df.map prT))]), (4, .box [.t (.v (.slice none 0 0)), .t (.v (.slice none 0 0)), .t (.v (.slice none 0 0)), .t (.v (.slice none 0 0)), .t (.v (.slice none 0 0)), .t (.v (.slice none 0 0)), .t (.v (.slice none 0 0))]), (8, .box [.t (.sl .un 1 ((dd (c.nl.map gv)).map i64T)), .t (.sl .un 1 ((dd (c.nn.map gv)).map i64T)), .ts ka .ne 4 za, .ts kb .ne 3 zb, .ts (k98) .ne 4 (zc ++ [tsT (rnT gv c.ts[i])]), .t (.sl .un 2 ((c.sm.map (rnP gv)).map prT)), .t (.sl .un 2 ((c.df.map (rnP gv)).map prT))])] ((upd (upd (upd (upd H k3 (some (.box [.fn f cs]))) ka (some (.tip 82 4 za.length))) kb (some (.tip 76 3 zb.length))) (k98) (some (.tip 61 4 (zc ++ [tsT (rnT gv c.ts[i])]).length)))) rfl ⟨rfl, rfl, rfl, rfl, rfl, rfl, rfl, rfl, trivial⟩ ⟨rfl, rfl, rfl, trivial⟩ (fun _ _ h => h) rfl, by omega, k98, zc ++ [tsT (rnT gv c.ts[i])], ⟨hi, hk98, by rw [hzc, take_put hi, List.map_append, List.map_append]; simp ⟩, rfl⟩
   ·
    refine AW.exit ?_
    refine eth_e ?_
    refine eth_e ?_
    refine exit_here ?_
    refine AW.seq ?_
    obtain rfl : i = c.ts.length := by rw [List.length_map] at h86; omega
    rw [List.take_length] at hzc
    refine AW.reg ?_
    refine SeqK.r (b_load (r := .g [_, _, _, _, _, _, _]) rfl Fx.ty28 rfl rfl rfl rfl rfl rfl) rfl ?_
    refine SeqK.xw 101 rfl (XW.g (.cons XW.reA (.cons XW.reA (.cons (XW.ts.trans (XW.es hza)) (.cons (XW.ts.trans (XW.es hzb)) (.cons (XW.ts.trans (XW.es hzc)) (.cons XW.reA (.cons XW.reA .nil)))))))) ?_
    refine SeqK.r (b_store (r := [_, _, _, _, _, _, _]) rfl rfl Fx.ty28 rfl rfl rfl rfl rfl rfl) rfl ?_
    refine SeqK.nil ?_
    refine AW.ret ?_
    exact fin_x (x := .c _) (H) (.cellL rfl rfl Fx.ty28 rfl rfl .nil) rfl ((fun j o q => upd_sub hkc j o (upd_sub hkb j o (upd_sub hka j o (upd_sub hk3 j o q))))) (⟨rfl, rfl⟩)

end Go.Proofs.Ytnmfjojhgfipcaa.W
namespace Go.Proofs.Ytnmfjojhgfipcaa.W
open Go.RowKit E
set_option linter.unusedVariables false
set_option linter.unusedSimpArgs false
set_option linter.unusedSectionVars false
/-! Rename; the reference's parts of it -/
abbrev VV (v : Int) : Prop := 0 ≤ v ∧ v ≤ 1000000000000000

set_option maxRecDepth 20000 in
theorem move_any (v : Int) (q : List Int) (z : Nz) (n : Int) (hq : q.length ≤ 17592186044000) (hn : 0 ≤ n ∧ n ≤ 1000000) (hv : VV v) : Pure Try.prog 37 [iC v, iL z q, iC n] (.c (iC (ren q n v))) := by
 have hv1 := hv.1
 have hv2 := hv.2
 intro H
 refine Spec.enter Try.func37 rfl ?_
 refine AW.wk (Wk.keep 21 [(0, .c (iC v)), (1, .c (iL z q)), (2, .c (iC n))] [] (H) rfl ⟨rfl, rfl, rfl, trivial⟩ trivial (fun _ _ h => h) rfl) ?_
 refine sR ?_
 refine sA ?_
 refine SeqK.nil ?_
 refine AW.seq ?_
 refine sR ?_
 refine sM ?_
 refine sM ?_
 refine SeqK.q (q_len rfl Fx.un22 rfl) rfl rfl rfl ?_
 refine SeqK.q (q_lss rfl rfl rfl) rfl rfl rfl ?_
 refine SeqK.nil ?_
 refine AW.condD rfl (fun h10 => ?_) (fun h10 => ?_)
 ·
  rw [List.length_map] at h10
  have hvq : v.toNat < q.length := by omega
  have hr := ren_lo (n := n) (by omega) hvq
  refine sR ?_
  refine sM ?_
  refine sM ?_
  refine SeqK.q (q_index _ rfl Fx.sl22 rfl rfl (by omega) (idx_map (f := i64T) hvq)) rfl rfl rfl ?_
  refine SeqK.q (q_load (.a _) rfl Fx.ty3 rfl rfl rfl) rfl rfl rfl ?_
  refine sA ?_
  refine SeqK.nil ?_
  refine AW.ret ?_
  exact fin_x (x := .c _) (H) (.tmp rfl .nil) rfl (fun _ _ h => h) (⟨iCe hr.symm, rfl⟩)
 ·
  rw [List.length_map] at h10
  have hr := ren_hi (n := n) (show (q.length : Int) ≤ v by omega)
  refine AW.skip ?_
  refine sR ?_
  refine sM ?_
  refine sM ?_
  refine SeqK.q (q_len rfl Fx.un22 rfl) rfl rfl rfl ?_
  refine SeqK.q (q_sub _ rfl rfl rfl (w64 (by rw [List.length_map]; omega) (by rw [List.length_map]; omega))) rfl rfl rfl ?_
  refine sM ?_
  refine SeqK.q (q_add _ rfl rfl rfl ((by rw [List.length_map, w64 (by omega) (by omega), hr]; omega : IntKind.i64.wrap _ = ren q n v))) rfl rfl rfl ?_
  refine sA ?_
  refine SeqK.nil ?_
  refine AW.ret ?_
  exact fin_x (x := .c _) (H) (.tmp rfl .nil) rfl (fun _ _ h => h) (⟨rfl, rfl⟩)

/-- a number put into an ascending list -/
def ins (x : Int) (l : List Int) : List Int := l.filter (fun y => decide (y < x)) ++ x :: l.filter (fun y => decide (x < y))
theorem ins_lt {x : Int} {l : List Int} (h : ∀ y ∈ l, y < x) : ins x l = l ++ [x] := by
  rw [ins, List.filter_eq_self.2 (fun y hy => by simpa using h y hy), List.filter_eq_nil_iff.2 (fun y hy => by have := h y hy; simp; omega)]
theorem ins_gt {x y : Int} {l : List Int} (h : x < y) : ins x (l ++ [y]) = ins x l ++ [y] := by
  have h1 : ¬ y < x := by omega
  simp [ins, h, h1]
theorem ins_eq {x : Int} {l : List Int} (h : ∀ y ∈ l, y < x) : ins x (l ++ [x]) = l ++ [x] := by
  have h1 := ins_lt h
  rw [ins] at h1 ⊢
  simpa using h1
theorem ins_mem {x y : Int} {l : List Int} : y ∈ ins x l ↔ y ∈ l ∨ y = x := by
  simp only [ins, List.mem_append, List.mem_filter, List.mem_cons, decide_eq_true_eq]
  by_cases h : y ∈ l <;> simp only [h, true_and, false_and, true_or, false_or, or_false, iff_true] <;> omega
theorem ins_sI {x : Int} {l : List Int} (h : sI l) : sI (ins x l) := by
  refine List.pairwise_append.2 ⟨h.filter _, List.pairwise_cons.2 ⟨fun y hy => ?_, h.filter _⟩, fun a ha b hb => ?_⟩
  · simpa using (List.mem_filter.1 hy).2
  · have h1 : a < x := by simpa using (List.mem_filter.1 ha).2
    rcases List.mem_cons.1 hb with rfl | hb
    · exact h1
    · have h2 : x < b := by simpa using (List.mem_filter.1 hb).2
      omega
theorem ins_dd {l : List Int} {i : Nat} (hi : i < l.length) : ins l[i] (dd (l.take i)) = dd (l.take (i + 1)) :=
  dd_eq (ins_sI (dd_spec _).1) fun y => by rw [ins_mem, (dd_spec _).2, take_put hi, List.mem_append, List.mem_singleton]
theorem put_x {zs : List (List E.T)} {nx : List Int} (v : Int) (h : zs = nx.map i64T) : zs ++ [i64T v] = (nx ++ [v]).map i64T := by rw [h]; simp

set_option maxHeartbeats 4000000 in
set_option maxRecDepth 20000 in
theorem rsorted_any (l : List Int) (z : Nz) (hl : l.length ≤ 1000000) : Pure Try.prog 38 [iL z l] (.c (iL .un (dd l))) := by
 intro H
 refine Spec.enter Try.func38 rfl ?_
 refine AW.wk (Wk.keep 67 [(0, .c (iL z l))] [] (H) rfl ⟨rfl, trivial⟩ trivial (fun _ _ h => h) rfl) ?_
 refine sR ?_
 refine sA ?_
 refine SeqK.nil ?_
 refine sR ?_
 refine sA ?_
 refine SeqK.nil ?_
 refine AW.seq ?_
 refine sR ?_
 refine sA ?_
 refine SeqK.nil ?_
 refine AW.block ?_
 refine AW.xw 3 rfl (XW.nilU (sz := 1)) ?_
 refine AW.loop (fun (i : Nat) s => ∃ (d : List Int), (i ≤ l.length ∧ d = dd (l.take i)) ∧ s = ⟨67, sp [(0, .c (iL z l)), (3, .c (iL .un d)), (4, iX .i64 ((i : Nat) : Int))], lv [], H⟩) (fun i => l.length - i) 0 ⟨_, Wk.keep 67 [(0, .c (iL z l)), (3, .c (iL .un ([]))), (4, iX .i64 ((((0 : Nat)) : Nat) : Int))] [] (H) rfl ⟨rfl, rfl, rfl, trivial⟩ trivial (fun _ _ h => h) rfl, [], ⟨Nat.zero_le _, by rw [List.take_zero]; exact (dd_self List.Pairwise.nil).symm⟩, rfl⟩ (fun i s hs => ?_)
 obtain ⟨d, ⟨hi0, hd⟩, rfl⟩ := hs
 have hsd : sI d := by rw [hd]; exact (dd_spec _).1
 have hdl : d.length ≤ 1000000 := by have := dd_len (l.take i); rw [← hd, List.length_take] at this; omega
 refine AW.seq ?_
 refine sR ?_
 refine sM ?_
 refine sM ?_
 refine SeqK.q (q_len rfl Fx.un22 rfl) rfl rfl rfl ?_
 refine SeqK.q (q_lss rfl rfl rfl) rfl rfl rfl ?_
 refine SeqK.nil ?_
 refine AW.condD rfl (fun h11 => ?_) (fun h11 => ?_)
 ·
  have hi : i < l.length := by rw [List.length_map] at h11; omega
  refine AW.skip ?_
  refine AW.seq ?_
  refine AW.block ?_
  refine sR ?_
  refine sA ?_
  refine SeqK.nil ?_
  refine sR ?_
  refine sA ?_
  refine SeqK.nil ?_
  refine AW.seq ?_
  refine sR ?_
  refine sA ?_
  refine SeqK.nil ?_
  refine AW.block ?_
  refine AW.tip 5 3 1 rfl (fun k0 hk0 => ?_)
  refine AW.loop (fun (j : Nat) s => ∃ (kt : Nat) (zs : List (List E.T)) (nx : List Int) (b : Bool), (j ≤ d.length ∧ H kt = none ∧ zs = nx.map i64T ∧ nx.length ≤ j + 1 ∧ (b = false → nx = d.take j ∧ ∀ y ∈ d.take j, y < l[i]) ∧ (b = true → nx = ins l[i] (d.take j) ∧ ∃ y ∈ d.take j, l[i] ≤ y)) ∧ s = ⟨67, sp [(0, .c (iL z l)), (3, .c (iL .un d)), (4, iX .i64 ((i : Nat) : Int)), (5, .c (.a (.ts kt .ne 1 zs))), (6, bX b), (7, iX .i64 ((j : Nat) : Int))], lv [], upd H kt (some (.tip 3 1 zs.length))⟩) (fun j => d.length - j) 0 ⟨_, Wk.keep 67 [(0, .c (iL z l)), (3, .c (iL .un d)), (4, iX .i64 ((i : Nat) : Int)), (5, .c (.a (.ts (k0) .ne 1 ([])))), (6, bX (false)), (7, iX .i64 ((((0 : Nat)) : Nat) : Int))] [] (upd H (k0) (some (.tip 3 1 ([]).length))) rfl ⟨rfl, rfl, rfl, rfl, rfl, rfl, trivial⟩ trivial (fun _ _ h => h) rfl, k0, [], [], false, ⟨Nat.zero_le _, hk0, rfl, by simp, (fun _ => ⟨by simp, by simp⟩), fun e => (by cases e)⟩, rfl⟩ (fun j s hs => ?_)
  obtain ⟨kt, zs, nx, b, ⟨hj0, hkt, hzs, hnl, hF, hT⟩, rfl⟩ := hs
  refine AW.seq ?_
  refine sR ?_
  refine sM ?_
  refine sM ?_
  refine SeqK.q (q_len rfl Fx.un22 rfl) rfl rfl rfl ?_
  refine SeqK.q (q_lss rfl rfl rfl) rfl rfl rfl ?_
  refine SeqK.nil ?_
  refine AW.condD rfl (fun h17 => ?_) (fun h17 => ?_)
  ·
   have hj : j < d.length := by rw [List.length_map] at h17; omega
   refine AW.skip ?_
   refine AW.seq ?_
   refine AW.block ?_
   refine AW.seq ?_
   refine AW.seq ?_
   refine AW.draw Fx.mo ?_
   refine LexK.q (q_mvC rfl rfl) rfl rfl rfl ?_
   refine LexK.q (q_not rfl rfl) rfl rfl rfl ?_
   refine LexK.qB (q_mvC rfl rfl) rfl rfl rfl (fun g22 => ?_) (fun g22 => ?_)
   ·
    obtain rfl : b = false := by simpa using g22
    have hbf := hF rfl
    have hbl : nx.length ≤ j := by rw [hbf.1, List.length_take]; omega
    refine LexK.on (q_mvC rfl rfl) rfl rfl rfl rfl rfl ?_
    refine LexK.on (q_mvC rfl rfl) rfl rfl rfl rfl rfl ?_
    refine LexK.on (q_index _ rfl Fx.sl22 rfl rfl (by omega) (idx_map (f := i64T) hj)) rfl rfl rfl rfl rfl ?_
    refine LexK.on (q_load (.a _) rfl Fx.ty3 rfl rfl rfl) rfl rfl rfl rfl rfl ?_
    refine LexK.on (q_mvC rfl rfl) rfl rfl rfl rfl rfl ?_
    refine LexK.on (q_mvC rfl rfl) rfl rfl rfl rfl rfl ?_
    refine LexK.on (q_index _ rfl Fx.sl22 rfl rfl (by omega) (idx_map (f := i64T) hi)) rfl rfl rfl rfl rfl ?_
    refine LexK.on (q_load (.a _) rfl Fx.ty3 rfl rfl rfl) rfl rfl rfl rfl rfl ?_
    refine LexK.on (q_geq rfl rfl rfl) rfl rfl rfl rfl rfl ?_
    refine LexK.q (q_pkT rfl rfl rfl) rfl rfl rfl ?_
    refine LexK.nil (by kernel_rfl) ?_
    refine AW.condD rfl (fun h32 => ?_) (fun h32 => ?_)
    ·
     refine sR ?_
     refine sA ?_
     refine SeqK.nil ?_
     refine AW.seq ?_
     refine AW.draw Fx.mo ?_
     refine LexK.q (q_mvC rfl rfl) rfl rfl rfl ?_
     refine LexK.q (q_mvC rfl rfl) rfl rfl rfl ?_
     refine LexK.q (q_index _ rfl Fx.sl22 rfl rfl (by omega) (idx_map (f := i64T) hj)) rfl rfl rfl ?_
     refine LexK.q (q_load (.a _) rfl Fx.ty3 rfl rfl rfl) rfl rfl rfl ?_
     refine LexK.q (q_mvC rfl rfl) rfl rfl rfl ?_
     refine LexK.q (q_mvC rfl rfl) rfl rfl rfl ?_
     refine LexK.q (q_index _ rfl Fx.sl22 rfl rfl (by omega) (idx_map (f := i64T) hi)) rfl rfl rfl ?_
     refine LexK.q (q_load (.a _) rfl Fx.ty3 rfl rfl rfl) rfl rfl rfl ?_
     refine LexK.q (q_gtr rfl rfl rfl) rfl rfl rfl ?_
     refine LexK.nil (by kernel_rfl) ?_
     refine AW.condD rfl (fun h41 => ?_) (fun h41 => ?_)
     ·
      refine AW.reg ?_
      refine sM ?_
      refine sM ?_
      refine sM ?_
      refine SeqK.q (q_index _ rfl Fx.sl22 rfl rfl (by omega) (idx_map (f := i64T) hi)) rfl rfl rfl ?_
      refine SeqK.q (q_load (.a _) rfl Fx.ty3 rfl rfl rfl) rfl rfl rfl ?_
      refine SeqK.q (q_buildSlice _ rfl Fx.el22 rfl (by decide) rfl) rfl rfl rfl ?_
      refine SeqK.app1 rfl (hkt) rfl Fx.el22 rfl rfl (by have := len_i hzs; simp; omega) rfl rfl (fun k48 hk48 => ?_)
      refine sA ?_
      refine SeqK.nil ?_
      refine AW.reg ?_
      refine sM ?_
      refine sM ?_
      refine sM ?_
      refine SeqK.q (q_index _ rfl Fx.sl22 rfl rfl (by omega) (idx_map (f := i64T) hj)) rfl rfl rfl ?_
      refine SeqK.q (q_load (.a _) rfl Fx.ty3 rfl rfl rfl) rfl rfl rfl ?_
      refine SeqK.q (q_buildSlice _ rfl Fx.el22 rfl (by decide) rfl) rfl rfl rfl ?_
      refine SeqK.app1 rfl (by first | exact hk48 | exact hkt) rfl Fx.el22 rfl rfl (by have := len_i hzs; simp; omega) rfl rfl (fun k55 hk55 => ?_)
      refine sA ?_
      refine SeqK.nil ?_
      refine AW.reg ?_
      refine sM ?_
      refine SeqK.q (q_add _ rfl rfl rfl (w64 (by omega) (by omega))) rfl rfl rfl ?_
      refine sA ?_
      refine SeqK.nil ?_
      exact ⟨j + 1, _, Wk.keep 67 [(0, .c (iL z l)), (3, .c (iL .un d)), (4, iX .i64 ((i : Nat) : Int)), (5, .c (.a (.ts (k55) .ne 1 (zs ++ [i64T l[i]] ++ [i64T d[j]])))), (6, bX (true)), (7, iX .i64 (((j + 1) : Nat) : Int))] [] (upd H (k55) (some (.tip 3 1 (zs ++ [i64T l[i]] ++ [i64T d[j]]).length))) rfl ⟨rfl, rfl, rfl, rfl, rfl, rfl, trivial⟩ trivial (fun _ _ h => h) rfl, by omega, k55, zs ++ [i64T l[i]] ++ [i64T d[j]], nx ++ [l[i]] ++ [d[j]], true, ⟨by omega, hk55, put_x _ (put_x _ hzs), by simp; omega, (fun e => by cases e), fun _ => ⟨by rw [take_put hj, ins_gt h41, ins_lt hbf.2, hbf.1], ⟨d[j], by rw [take_put hj]; exact List.mem_append_right _ (List.mem_singleton.2 rfl), by omega⟩⟩⟩, rfl⟩
     ·
      refine AW.skip ?_
      refine AW.reg ?_
      refine sM ?_
      refine sM ?_
      refine sM ?_
      refine SeqK.q (q_index _ rfl Fx.sl22 rfl rfl (by omega) (idx_map (f := i64T) hj)) rfl rfl rfl ?_
      refine SeqK.q (q_load (.a _) rfl Fx.ty3 rfl rfl rfl) rfl rfl rfl ?_
      refine SeqK.q (q_buildSlice _ rfl Fx.el22 rfl (by decide) rfl) rfl rfl rfl ?_
      refine SeqK.app1 rfl (by first | exact hk48 | exact hkt) rfl Fx.el22 rfl rfl (by have := len_i hzs; simp; omega) rfl rfl (fun k55 hk55 => ?_)
      refine sA ?_
      refine SeqK.nil ?_
      refine AW.reg ?_
      refine sM ?_
      refine SeqK.q (q_add _ rfl rfl rfl (w64 (by omega) (by omega))) rfl rfl rfl ?_
      refine sA ?_
      refine SeqK.nil ?_
      exact ⟨j + 1, _, Wk.keep 67 [(0, .c (iL z l)), (3, .c (iL .un d)), (4, iX .i64 ((i : Nat) : Int)), (5, .c (.a (.ts (k55) .ne 1 (zs ++ [i64T d[j]])))), (6, bX (true)), (7, iX .i64 (((j + 1) : Nat) : Int))] [] (upd H (k55) (some (.tip 3 1 (zs ++ [i64T d[j]]).length))) rfl ⟨rfl, rfl, rfl, rfl, rfl, rfl, trivial⟩ trivial (fun _ _ h => h) rfl, by omega, k55, zs ++ [i64T d[j]], nx ++ [d[j]], true, ⟨by omega, hk55, put_x _ hzs, by simp; omega, (fun e => by cases e), fun _ => ⟨by rw [take_put hj, show d[j] = l[i] by omega, ins_eq hbf.2, hbf.1], ⟨d[j], by rw [take_put hj]; exact List.mem_append_right _ (List.mem_singleton.2 rfl), by omega⟩⟩⟩, rfl⟩
    ·
     refine AW.skip ?_
     refine AW.reg ?_
     refine sM ?_
     refine sM ?_
     refine sM ?_
     refine SeqK.q (q_index _ rfl Fx.sl22 rfl rfl (by omega) (idx_map (f := i64T) hj)) rfl rfl rfl ?_
     refine SeqK.q (q_load (.a _) rfl Fx.ty3 rfl rfl rfl) rfl rfl rfl ?_
     refine SeqK.q (q_buildSlice _ rfl Fx.el22 rfl (by decide) rfl) rfl rfl rfl ?_
     refine SeqK.app1 rfl (by first | exact hk48 | exact hkt) rfl Fx.el22 rfl rfl (by have := len_i hzs; simp; omega) rfl rfl (fun k55 hk55 => ?_)
     refine sA ?_
     refine SeqK.nil ?_
     refine AW.reg ?_
     refine sM ?_
     refine SeqK.q (q_add _ rfl rfl rfl (w64 (by omega) (by omega))) rfl rfl rfl ?_
     refine sA ?_
     refine SeqK.nil ?_
     exact ⟨j + 1, _, Wk.keep 67 [(0, .c (iL z l)), (3, .c (iL .un d)), (4, iX .i64 ((i : Nat) : Int)), (5, .c (.a (.ts (k55) .ne 1 (zs ++ [i64T d[j]])))), (6, bX (false)), (7, iX .i64 (((j + 1) : Nat) : Int))] [] (upd H (k55) (some (.tip 3 1 (zs ++ [i64T d[j]]).length))) rfl ⟨rfl, rfl, rfl, rfl, rfl, rfl, trivial⟩ trivial (fun _ _ h => h) rfl, by omega, k55, zs ++ [i64T d[j]], nx ++ [d[j]], false, ⟨by omega, hk55, put_x _ hzs, by simp; omega, (fun _ => ⟨by rw [take_put hj, hbf.1], fun y hy => by rw [take_put hj] at hy; rcases List.mem_append.1 hy with h | h; exact hbf.2 y h; rw [List.mem_singleton.1 h]; omega⟩), fun e => (by cases e)⟩, rfl⟩
   ·
    obtain rfl : b = true := by simpa using g22
    have hbt := hT rfl
    have hxd : l[i] < d[j] := by
     obtain ⟨y, hy, h⟩ := hbt.2
     obtain ⟨k, hk, e⟩ := List.mem_iff_getElem.1 hy
     rw [List.length_take] at hk
     rw [List.getElem_take] at e
     have := List.pairwise_iff_getElem.1 hsd k j (by omega) hj (by omega)
     omega
    refine LexK.off rfl rfl rfl rfl rfl rfl ?_
    refine LexK.off rfl rfl rfl rfl rfl rfl ?_
    refine LexK.off rfl rfl rfl rfl rfl rfl ?_
    refine LexK.off rfl rfl rfl rfl rfl rfl ?_
    refine LexK.off rfl rfl rfl rfl rfl rfl ?_
    refine LexK.off rfl rfl rfl rfl rfl rfl ?_
    refine LexK.off rfl rfl rfl rfl rfl rfl ?_
    refine LexK.off rfl rfl rfl rfl rfl rfl ?_
    refine LexK.off rfl rfl rfl rfl rfl rfl ?_
    refine LexK.q (q_pkF rfl rfl rfl) rfl rfl rfl ?_
    refine LexK.nil (by kernel_rfl) ?_
    refine AW.condF rfl ?_
    refine AW.skip ?_
    refine AW.reg ?_
    refine sM ?_
    refine sM ?_
    refine sM ?_
    refine SeqK.q (q_index _ rfl Fx.sl22 rfl rfl (by omega) (idx_map (f := i64T) hj)) rfl rfl rfl ?_
    refine SeqK.q (q_load (.a _) rfl Fx.ty3 rfl rfl rfl) rfl rfl rfl ?_
    refine SeqK.q (q_buildSlice _ rfl Fx.el22 rfl (by decide) rfl) rfl rfl rfl ?_
    refine SeqK.app1 rfl (by first | exact hk48 | exact hkt) rfl Fx.el22 rfl rfl (by have := len_i hzs; simp; omega) rfl rfl (fun k55 hk55 => ?_)
    refine sA ?_
    refine SeqK.nil ?_
    refine AW.reg ?_
    refine sM ?_
    refine SeqK.q (q_add _ rfl rfl rfl (w64 (by omega) (by omega))) rfl rfl rfl ?_
    refine sA ?_
    refine SeqK.nil ?_
    exact ⟨j + 1, _, Wk.keep 67 [(0, .c (iL z l)), (3, .c (iL .un d)), (4, iX .i64 ((i : Nat) : Int)), (5, .c (.a (.ts (k55) .ne 1 (zs ++ [i64T d[j]])))), (6, bX (true)), (7, iX .i64 (((j + 1) : Nat) : Int))] [] (upd H (k55) (some (.tip 3 1 (zs ++ [i64T d[j]]).length))) rfl ⟨rfl, rfl, rfl, rfl, rfl, rfl, trivial⟩ trivial (fun _ _ h => h) rfl, by omega, k55, zs ++ [i64T d[j]], nx ++ [d[j]], true, ⟨by omega, hk55, put_x _ hzs, by simp; omega, (fun e => by cases e), fun _ => ⟨by rw [take_put hj, ins_gt hxd, hbt.1], by obtain ⟨y, hy, h⟩ := hbt.2; exact ⟨y, by rw [take_put hj]; exact List.mem_append_left _ hy, h⟩⟩⟩, rfl⟩
  ·
   refine AW.exit ?_
   refine eth_e ?_
   refine eth_e ?_
   refine exit_here ?_
   refine AW.seq ?_
   refine AW.seq ?_
   obtain rfl : j = d.length := by rw [List.length_map] at h17; omega
   rw [List.take_length] at hF hT
   refine AW.reg ?_
   refine sM ?_
   refine SeqK.q (q_not rfl rfl) rfl rfl rfl ?_
   refine SeqK.nil ?_
   refine AW.cond _ rfl (fun h57 => ?_) (fun h57 => ?_)
   ·
    refine AW.reg ?_
    refine sM ?_
    refine sM ?_
    refine sM ?_
    refine SeqK.q (q_index _ rfl Fx.sl22 rfl rfl (by omega) (idx_map (f := i64T) hi)) rfl rfl rfl ?_
    refine SeqK.q (q_load (.a _) rfl Fx.ty3 rfl rfl rfl) rfl rfl rfl ?_
    refine SeqK.q (q_buildSlice _ rfl Fx.el22 rfl (by decide) rfl) rfl rfl rfl ?_
    refine SeqK.app1 rfl (hkt) rfl Fx.el22 rfl rfl (by have := len_i hzs; simp; omega) rfl rfl (fun k64 hk64 => ?_)
    refine sA ?_
    refine SeqK.nil ?_
    have hE : zs ++ [i64T l[i]] = (dd (l.take (i + 1))).map i64T := by rw [← ins_dd hi, ← hd, ins_lt (hF (by simpa using h57)).2, hzs, (hF (by simpa using h57)).1]; simp
    refine AW.reg ?_
    refine sM ?_
    refine sA ?_
    refine SeqK.nil ?_
    refine AW.xw 3 rfl (XW.ts.trans (XW.es hE)) ?_
    refine AW.reg ?_
    refine sM ?_
    refine SeqK.q (q_add _ rfl rfl rfl (w64 (by omega) (by omega))) rfl rfl rfl ?_
    refine sA ?_
    refine SeqK.nil ?_
    exact ⟨i + 1, _, Wk.keep 67 [(0, .c (iL z l)), (3, .c (iL .un (dd (l.take (i + 1))))), (4, iX .i64 (((i + 1) : Nat) : Int))] [] (H) rfl ⟨rfl, rfl, rfl, trivial⟩ trivial (fun j o h => upd_sub hk64 j o h) rfl, by omega, dd (l.take (i + 1)), ⟨hi, rfl⟩, rfl⟩
   ·
    refine AW.skip ?_
    have hE : zs = (dd (l.take (i + 1))).map i64T := by rw [← ins_dd hi, ← hd, hzs, (hT (by simpa using h57)).1]
    refine AW.reg ?_
    refine sM ?_
    refine sA ?_
    refine SeqK.nil ?_
    refine AW.xw 3 rfl (XW.ts.trans (XW.es hE)) ?_
    refine AW.reg ?_
    refine sM ?_
    refine SeqK.q (q_add _ rfl rfl rfl (w64 (by omega) (by omega))) rfl rfl rfl ?_
    refine sA ?_
    refine SeqK.nil ?_
    exact ⟨i + 1, _, Wk.keep 67 [(0, .c (iL z l)), (3, .c (iL .un (dd (l.take (i + 1))))), (4, iX .i64 (((i + 1) : Nat) : Int))] [] (H) rfl ⟨rfl, rfl, rfl, trivial⟩ trivial (fun j o h => upd_sub hkt j o h) rfl, by omega, dd (l.take (i + 1)), ⟨hi, rfl⟩, rfl⟩
 ·
  refine AW.exit ?_
  refine eth_e ?_
  refine eth_e ?_
  refine exit_here ?_
  refine AW.seq ?_
  obtain rfl : i = l.length := by rw [List.length_map] at h11; omega
  rw [List.take_length] at hd
  refine AW.reg ?_
  refine sM ?_
  refine sA ?_
  refine SeqK.nil ?_
  refine AW.ret ?_
  exact fin_x (x := .c _) (H) (.tmp rfl .nil) rfl (fun _ _ h => h) (⟨by rw [hd], rfl⟩)

set_option maxRecDepth 20000 in
theorem ordered_any (l : List (Int × Int)) (z z2 : Nz) (q : List Int) (n : Int) (hl : l.length ≤ 1000000) (hq : q.length ≤ 17592186044000) (hn : 0 ≤ n ∧ n ≤ 1000000) (hV : ∀ p ∈ l, VV p.1 ∧ VV p.2) : Pure Try.prog 36 [prsC z l, iL z2 q, iC n] (.c (prsC .un (l.map (rnP (ren q n))))) := by
 intro H
 refine Spec.enter Try.func36 rfl ?_
 refine AW.wk (Wk.keep 45 [(0, .c (prsC z l)), (1, .c (iL z2 q)), (2, .c (iC n))] [] (H) rfl ⟨rfl, rfl, rfl, trivial⟩ trivial (fun _ _ h => h) rfl) ?_
 refine sR ?_
 refine sA ?_
 refine SeqK.nil ?_
 refine sR ?_
 refine sA ?_
 refine SeqK.nil ?_
 refine AW.seq ?_
 refine sR ?_
 refine sA ?_
 refine SeqK.nil ?_
 refine AW.block ?_
 refine AW.tip 7 80 2 rfl (fun k0 hk0 => ?_)
 refine AW.loop (fun (i : Nat) s => ∃ (kt : Nat) (zs : List (List E.T)), (i ≤ l.length ∧ H kt = none ∧ zs = ((l.take i).map (rnP (ren q n))).map prT) ∧ s = ⟨45, sp [(0, .c (prsC z l)), (1, .c (iL z2 q)), (2, .c (iC n)), (7, .c (.a (.ts kt .ne 2 zs))), (8, iX .i64 ((i : Nat) : Int))], lv [], upd H kt (some (.tip 80 2 zs.length))⟩) (fun i => l.length - i) 0 ⟨_, Wk.keep 45 [(0, .c (prsC z l)), (1, .c (iL z2 q)), (2, .c (iC n)), (7, .c (.a (.ts (k0) .ne 2 ([])))), (8, iX .i64 ((((0 : Nat)) : Nat) : Int))] [] (upd H (k0) (some (.tip 80 2 ([]).length))) rfl ⟨rfl, rfl, rfl, rfl, rfl, trivial⟩ trivial (fun _ _ h => h) rfl, k0, [], ⟨Nat.zero_le _, hk0, rfl⟩, rfl⟩ (fun i s hs => ?_)
 obtain ⟨kt, zs, ⟨hi0, hkt, hzs⟩, rfl⟩ := hs
 refine AW.seq ?_
 refine sR ?_
 refine sM ?_
 refine sM ?_
 refine SeqK.q (q_len rfl Fx.un26 rfl) rfl rfl rfl ?_
 refine SeqK.q (q_lss rfl rfl rfl) rfl rfl rfl ?_
 refine SeqK.nil ?_
 refine AW.condD rfl (fun h14 => ?_) (fun h14 => ?_)
 ·
  have hi : i < l.length := by rw [List.length_map] at h14; omega
  refine AW.skip ?_
  refine AW.seq ?_
  refine AW.block ?_
  refine AW.seq ?_
  refine AW.draw Fx.mo ?_
  refine LexK.q (q_mvC rfl rfl) rfl rfl rfl ?_
  refine LexK.q (q_mvC rfl rfl) rfl rfl rfl ?_
  refine LexK.q (q_index _ rfl Fx.sl26 rfl rfl (by omega) (idx_map (f := prT) hi)) rfl rfl rfl ?_
  refine LexK.q (q_indexP _ rfl Fx.ar80 rfl rfl (by omega) (by omega) rfl) rfl rfl rfl ?_
  refine LexK.q (q_load (.a _) rfl Fx.ty3 rfl rfl rfl) rfl rfl rfl ?_
  refine LexK.q (q_mvC rfl rfl) rfl rfl rfl ?_
  refine LexK.q (q_mvC rfl rfl) rfl rfl rfl ?_
  refine LexK.q (q_call _ rfl Fx.fn37 rfl (move_any _ q z2 n hq hn (hV _ (List.getElem_mem hi)).1) rfl) rfl rfl rfl ?_
  refine LexK.q (q_mvC rfl rfl) rfl rfl rfl ?_
  refine LexK.q (q_mvC rfl rfl) rfl rfl rfl ?_
  refine LexK.q (q_index _ rfl Fx.sl26 rfl rfl (by omega) (idx_map (f := prT) hi)) rfl rfl rfl ?_
  refine LexK.q (q_indexP _ rfl Fx.ar80 rfl rfl (by omega) (by omega) rfl) rfl rfl rfl ?_
  refine LexK.q (q_load (.a _) rfl Fx.ty3 rfl rfl rfl) rfl rfl rfl ?_
  refine LexK.q (q_mvC rfl rfl) rfl rfl rfl ?_
  refine LexK.q (q_mvC rfl rfl) rfl rfl rfl ?_
  refine LexK.q (q_call _ rfl Fx.fn37 rfl (move_any _ q z2 n hq hn (hV _ (List.getElem_mem hi)).2) rfl) rfl rfl rfl ?_
  refine LexK.q (q_asC rfl rfl) rfl rfl rfl ?_
  refine LexK.q (q_asC rfl rfl) rfl rfl rfl ?_
  refine LexK.nil (by kernel_rfl) ?_
  refine AW.seq ?_
  refine sR ?_
  refine sM ?_
  refine sM ?_
  refine SeqK.q (q_gtr rfl rfl rfl) rfl rfl rfl ?_
  refine SeqK.nil ?_
  refine AW.condD rfl (fun h35 => ?_) (fun h35 => ?_)
  ·
   refine AW.reg ?_
   refine sM ?_
   refine sM ?_
   refine sA ?_
   refine sA ?_
   refine SeqK.nil ?_
   refine AW.reg ?_
   refine sM ?_
   refine sM ?_
   refine sM ?_
   refine SeqK.q (q_build2 (zs := [_, _]) (r := [_, _]) [(0, 1), (1, 1)] _ rfl Fx.ze80 rfl Fx.bp80 rfl rfl rfl rfl) rfl rfl rfl ?_
   refine SeqK.q (q_buildSlice _ rfl Fx.el26 rfl (by decide) rfl) rfl rfl rfl ?_
   refine SeqK.app1 rfl (hkt) rfl Fx.el26 rfl rfl (by simp [hzs]; omega) rfl rfl (fun k43 hk43 => ?_)
   refine sA ?_
   refine SeqK.nil ?_
   refine AW.reg ?_
   refine sM ?_
   refine SeqK.q (q_add _ rfl rfl rfl (w64 (by omega) (by omega))) rfl rfl rfl ?_
   refine sA ?_
   refine SeqK.nil ?_
   exact ⟨i + 1, _, Wk.keep 45 [(0, .c (prsC z l)), (1, .c (iL z2 q)), (2, .c (iC n)), (7, .c (.a (.ts (k43) .ne 2 (zs ++ [prT (ren q n l[i].2, ren q n l[i].1)])))), (8, iX .i64 (((i + 1) : Nat) : Int))] [] (upd H (k43) (some (.tip 80 2 (zs ++ [prT (ren q n l[i].2, ren q n l[i].1)]).length))) rfl ⟨rfl, rfl, rfl, rfl, rfl, trivial⟩ trivial (fun _ _ h => h) rfl, by omega, k43, zs ++ [prT (ren q n l[i].2, ren q n l[i].1)], ⟨hi, hk43, by rw [hzs, take_put hi, List.map_append, List.map_append, List.map_singleton, List.map_singleton, show rnP (ren q n) l[i] = (ren q n l[i].2, ren q n l[i].1) by simp only [rnP, Prod.mk.injEq]; omega]⟩, rfl⟩
  ·
   refine AW.skip ?_
   refine AW.reg ?_
   refine sM ?_
   refine sM ?_
   refine sM ?_
   refine SeqK.q (q_build2 (zs := [_, _]) (r := [_, _]) [(0, 1), (1, 1)] _ rfl Fx.ze80 rfl Fx.bp80 rfl rfl rfl rfl) rfl rfl rfl ?_
   refine SeqK.q (q_buildSlice _ rfl Fx.el26 rfl (by decide) rfl) rfl rfl rfl ?_
   refine SeqK.app1 rfl (hkt) rfl Fx.el26 rfl rfl (by simp [hzs]; omega) rfl rfl (fun k43 hk43 => ?_)
   refine sA ?_
   refine SeqK.nil ?_
   refine AW.reg ?_
   refine sM ?_
   refine SeqK.q (q_add _ rfl rfl rfl (w64 (by omega) (by omega))) rfl rfl rfl ?_
   refine sA ?_
   refine SeqK.nil ?_
   exact ⟨i + 1, _, Wk.keep 45 [(0, .c (prsC z l)), (1, .c (iL z2 q)), (2, .c (iC n)), (7, .c (.a (.ts (k43) .ne 2 (zs ++ [prT (ren q n l[i].1, ren q n l[i].2)])))), (8, iX .i64 (((i + 1) : Nat) : Int))] [] (upd H (k43) (some (.tip 80 2 (zs ++ [prT (ren q n l[i].1, ren q n l[i].2)]).length))) rfl ⟨rfl, rfl, rfl, rfl, rfl, trivial⟩ trivial (fun _ _ h => h) rfl, by omega, k43, zs ++ [prT (ren q n l[i].1, ren q n l[i].2)], ⟨hi, hk43, by rw [hzs, take_put hi, List.map_append, List.map_append, List.map_singleton, List.map_singleton, show rnP (ren q n) l[i] = (ren q n l[i].1, ren q n l[i].2) by simp only [rnP, Prod.mk.injEq]; omega]⟩, rfl⟩
 ·
  refine AW.exit ?_
  refine eth_e ?_
  refine eth_e ?_
  refine exit_here ?_
  refine AW.seq ?_
  obtain rfl : i = l.length := by rw [List.length_map] at h14; omega
  rw [List.take_length] at hzs
  refine AW.xw 7 rfl (XW.ts.trans (XW.es hzs)) ?_
  refine AW.reg ?_
  refine sM ?_
  refine sA ?_
  refine SeqK.nil ?_
  refine AW.ret ?_
  exact fin_x (x := .c _) (H) (.tmp rfl .nil) rfl ((fun j o h => upd_sub hkt j o h)) (⟨rfl, rfl⟩)

end Go.Proofs.Ytnmfjojhgfipcaa.W
namespace Go.Proofs.Ytnmfjojhgfipcaa.W
open Go.RowKit E
set_option linter.unusedVariables false
set_option linter.unusedSimpArgs false
set_option linter.unusedSectionVars false
theorem mv_at {gv : Int → Int} {F : Lf} {N D : List Int} {G : List Cf} (hN : N = F.cs.map fun k => gv k.v) (hnd : N.Nodup) (hD : D = dd N) (hG : G = cofs (F.cs.map (rnK gv))) {i : Nat} (hi : i < D.length) :
    ∃ p, ∃ hp : p < F.cs.length, ∃ hg : i < G.length, G[i] = ⟨D[i], F.cs[p].n⟩ ∧ ∀ j (hj : j < N.length), N[j] = D[i] ↔ j = p := by
  have hLv : (F.cs.map (rnK gv)).map (·.v) = N := by rw [hN, List.map_map]; rfl
  obtain ⟨p, hp, e⟩ := List.mem_iff_getElem.1 (((dd_spec N).2 D[i]).1 (by rw [← hD]; exact List.getElem_mem hi))
  have hpF : p < F.cs.length := by rw [hN, List.length_map] at hp; exact hp
  have hc : cval (F.cs.map (rnK gv)) D[i] = F.cs[p].n := by
    have h1 := cval_mem (l := F.cs.map (rnK gv)) (k := rnK gv F.cs[p]) (by rw [hLv]; exact hnd) (List.mem_map.2 ⟨_, List.getElem_mem hpF, rfl⟩)
    have h2 : (rnK gv F.cs[p]).v = D[i] := by rw [← e]; simp [hN]
    rw [h2] at h1; exact h1
  have hGD : G = D.map fun v => ⟨v, cval (F.cs.map (rnK gv)) v⟩ := by rw [hG, cofs, hLv, hD]
  refine ⟨p, hpF, by rw [hGD, List.length_map]; exact hi, ?_, fun j hj => ⟨fun h => ?_, fun h => by subst h; exact e⟩⟩
  · subst hGD
    rw [List.getElem_map, hc]
  · exact (List.getElem_inj (h₀ := hj) (h₁ := hp) hnd).1 (h.trans e.symm)

set_option maxHeartbeats 4000000 in
set_option maxRecDepth 20000 in
theorem moved_any (F : Lf) (q : List Int) (z2 : Nz) (n : Int) (hq : q.length ≤ 17592186044000) (hn : 0 ≤ n ∧ n ≤ 1000000) (hF : nmF VV (ren q n) F) : Pure Try.prog 39 [lfC F, iL z2 q, iC n] (.c (lfC (rnF (ren q n) F))) := by
 intro H
 refine Spec.enter Try.func39 rfl ?_
 refine AW.wk (Wk.keep 75 [(0, .c (lfC F)), (1, .c (iL z2 q)), (2, .c (iC n))] [] (H) rfl ⟨rfl, rfl, rfl, trivial⟩ trivial (fun _ _ h => h) rfl) ?_
 refine sR ?_
 refine SeqK.r (b_box (r := [_, _]) rfl rfl rfl rfl rfl rfl) rfl ?_
 refine SeqK.r (b_alloc (r := [_, _]) rfl rfl Fx.ze74 rfl rfl rfl rfl) rfl ?_
 refine SeqK.nil ?_
 refine AW.seq ?_
 have hFl := hF.len
 obtain ⟨N, hN⟩ : ∃ N, N = F.cs.map fun k => (ren q n) k.v := ⟨_, rfl⟩
 obtain ⟨D, hD⟩ : ∃ D, D = dd N := ⟨_, rfl⟩
 obtain ⟨G, hG⟩ : ∃ G, G = cofs (F.cs.map (rnK (ren q n))) := ⟨_, rfl⟩
 have hNl : N.length = F.cs.length := by rw [hN, List.length_map]
 have hDl : D.length ≤ 1000000 := by have := dd_len N; rw [← hD] at this; omega
 have hGl : G.length = D.length := by rw [hG, cofs, List.length_map, List.map_map, hD, hN]; rfl
 refine AW.reg ?_
 refine SeqK.q (q_fieldL _ rfl Fx.fl74_0 rfl rfl) rfl rfl rfl ?_
 refine SeqK.r (b_load (r := .a _) rfl Fx.ty2 rfl rfl rfl rfl rfl rfl) rfl ?_
 refine SeqK.q (q_build2 (zs := [_, _]) (r := [_, _]) [(0, 1), (1, 1)] _ rfl Fx.ze74 rfl Fx.bp74 rfl rfl rfl rfl) rfl rfl rfl ?_
 refine SeqK.r (b_alloc (r := [_, _]) rfl rfl Fx.ze74 rfl rfl rfl rfl) rfl ?_
 refine SeqK.r (b_store (r := [_, _]) rfl rfl Fx.ty74 rfl rfl rfl rfl rfl rfl) rfl ?_
 refine SeqK.nil ?_
 refine sR ?_
 refine sA ?_
 refine SeqK.nil ?_
 refine AW.seq ?_
 refine sR ?_
 refine sA ?_
 refine SeqK.nil ?_
 refine AW.block ?_
 refine AW.tip 8 3 1 rfl (fun k0 hk0 => ?_)
 refine AW.loop (fun (i : Nat) s => ∃ (ka : Nat) (za : List (List E.T)), (i ≤ F.cs.length ∧ H ka = none ∧ za = ((F.cs.take i).map fun k => (ren q n) k.v).map i64T) ∧ s = ⟨75, sp [(1, .c (iL z2 q)), (2, .c (iC n)), (3, .lp 3 0), (6, .lp 6 0), (7, .lp 7 0), (8, .c (.a (.ts ka .ne 1 za))), (9, iX .i64 ((i : Nat) : Int))], lv [(3, .box [.t (.v (.int .i64 F.c)), .t (.sl .un 2 (F.cs.map cfT))]), (6, .box [.t (.v (.int .i64 0)), .t (.v (.slice none 0 0))]), (7, .box [.t (.v (.int .i64 F.c)), .t (.v (.slice none 0 0))])], (upd H ka (some (.tip 3 1 za.length)))⟩) (fun i => F.cs.length - i) 0 ⟨_, Wk.keep 75 [(1, .c (iL z2 q)), (2, .c (iC n)), (3, .lp 3 0), (6, .lp 6 0), (7, .lp 7 0), (8, .c (.a (.ts (k0) .ne 1 ([])))), (9, iX .i64 ((((0 : Nat)) : Nat) : Int))] [(3, .box [.t (.v (.int .i64 F.c)), .t (.sl .un 2 (F.cs.map cfT))]), (6, .box [.t (.v (.int .i64 0)), .t (.v (.slice none 0 0))]), (7, .box [.t (.v (.int .i64 F.c)), .t (.v (.slice none 0 0))])] ((upd H (k0) (some (.tip 3 1 ([]).length)))) rfl ⟨rfl, rfl, rfl, rfl, rfl, rfl, rfl, trivial⟩ ⟨rfl, rfl, rfl, trivial⟩ (fun _ _ h => h) rfl, k0, [], ⟨Nat.zero_le _, hk0, rfl⟩, rfl⟩ (fun i s hs => ?_)
 obtain ⟨ka, za, ⟨hi0, hka, hza⟩, rfl⟩ := hs
 refine AW.seq ?_
 refine sR ?_
 refine sM ?_
 refine SeqK.q (q_fieldL _ rfl Fx.fl74_1 rfl rfl) rfl rfl rfl ?_
 refine SeqK.r (b_load (r := .a _) rfl Fx.ty72 rfl rfl rfl rfl rfl rfl) rfl ?_
 refine SeqK.q (q_len rfl Fx.un72 rfl) rfl rfl rfl ?_
 refine SeqK.q (q_lss rfl rfl rfl) rfl rfl rfl ?_
 refine SeqK.nil ?_
 refine AW.condD rfl (fun h20 => ?_) (fun h20 => ?_)
 ·
  have hi : i < F.cs.length := by rw [List.length_map] at h20; omega
  refine AW.skip ?_
  refine AW.seq ?_
  refine AW.block ?_
  refine AW.reg ?_
  refine sM ?_
  refine SeqK.q (q_fieldL _ rfl Fx.fl74_1 rfl rfl) rfl rfl rfl ?_
  refine SeqK.r (b_load (r := .a _) rfl Fx.ty72 rfl rfl rfl rfl rfl rfl) rfl ?_
  refine sM ?_
  refine SeqK.q (q_index _ rfl Fx.sl72 rfl rfl (by omega) (idx_map (f := cfT) hi)) rfl rfl rfl ?_
  refine SeqK.q (q_fieldP _ rfl Fx.fl106_0 rfl rfl) rfl rfl rfl ?_
  refine SeqK.q (q_load (.a _) rfl Fx.ty3 rfl rfl rfl) rfl rfl rfl ?_
  refine sM ?_
  refine sM ?_
  refine SeqK.q (q_call _ rfl Fx.fn37 rfl (move_any _ q z2 n hq hn (hF.v _ (List.getElem_mem hi))) rfl) rfl rfl rfl ?_
  refine SeqK.q (q_buildSlice _ rfl Fx.el22 rfl (by decide) rfl) rfl rfl rfl ?_
  refine SeqK.app1 rfl (hka) rfl Fx.el22 rfl rfl (by have := len_i hza; rw [List.length_map, List.length_take] at this; simp; omega) rfl rfl (fun k34 hk34 => ?_)
  refine sA ?_
  refine SeqK.nil ?_
  refine AW.reg ?_
  refine sM ?_
  refine SeqK.q (q_add _ rfl rfl rfl (w64 (by omega) (by omega))) rfl rfl rfl ?_
  refine sA ?_
  refine SeqK.nil ?_
  exact ⟨i + 1, _, Wk.keep 75 [(1, .c (iL z2 q)), (2, .c (iC n)), (3, .lp 3 0), (6, .lp 6 0), (7, .lp 7 0), (8, .c (.a (.ts (k34) .ne 1 (za ++ [i64T ((ren q n) F.cs[i].v)])))), (9, iX .i64 (((i + 1) : Nat) : Int))] [(3, .box [.t (.v (.int .i64 F.c)), .t (.sl .un 2 (F.cs.map cfT))]), (6, .box [.t (.v (.int .i64 0)), .t (.v (.slice none 0 0))]), (7, .box [.t (.v (.int .i64 F.c)), .t (.v (.slice none 0 0))])] ((upd H (k34) (some (.tip 3 1 (za ++ [i64T ((ren q n) F.cs[i].v)]).length)))) rfl ⟨rfl, rfl, rfl, rfl, rfl, rfl, rfl, trivial⟩ ⟨rfl, rfl, rfl, trivial⟩ (fun _ _ h => h) rfl, by omega, k34, za ++ [i64T ((ren q n) F.cs[i].v)], ⟨hi, hk34, by rw [hza, take_put hi, List.map_append, List.map_append]; rfl⟩, rfl⟩
 ·
  refine AW.exit ?_
  refine eth_e ?_
  refine eth_e ?_
  refine exit_here ?_
  refine AW.seq ?_
  obtain rfl : i = F.cs.length := by rw [List.length_map] at h20; omega
  rw [List.take_length, ← hN] at hza
  refine AW.xw 8 rfl (XW.ts.trans (XW.es hza)) ?_
  refine AW.reg ?_
  refine sM ?_
  refine SeqK.q (q_call _ rfl Fx.fn38 rfl (rsorted_any N .un (by rw [hN, List.length_map]; exact hF.len)) rfl) rfl rfl rfl ?_
  refine sA ?_
  refine SeqK.nil ?_
  rw [← hD]
  refine AW.seq ?_
  refine sR ?_
  refine sA ?_
  refine SeqK.nil ?_
  refine AW.block ?_
  refine AW.tipL 7 1 106 2 rfl rfl (fun k0 hk0 => ?_)
  refine AW.loop (fun (i : Nat) s => ∃ (kb : Nat) (zb : List (List E.T)), (i ≤ D.length ∧ (upd H ka (some (.tip 3 1 za.length))) kb = none ∧ zb = (G.take i).map cfT) ∧ s = ⟨75, sp [(3, .lp 3 0), (6, .lp 6 0), (7, .lp 7 0), (8, .c (iL .un N)), (10, .c (iL .un D)), (11, iX .i64 ((i : Nat) : Int))], lv [(3, .box [.t (.v (.int .i64 F.c)), .t (.sl .un 2 (F.cs.map cfT))]), (6, .box [.t (.v (.int .i64 0)), .t (.v (.slice none 0 0))]), (7, .box [.t (.v (.int .i64 F.c)), .ts kb .ne 2 zb])], upd (upd H ka (some (.tip 3 1 za.length))) kb (some (.tip 106 2 zb.length))⟩) (fun i => D.length - i) 0 ⟨_, Wk.keep 75 [(3, .lp 3 0), (6, .lp 6 0), (7, .lp 7 0), (8, .c (iL .un N)), (10, .c (iL .un D)), (11, iX .i64 ((((0 : Nat)) : Nat) : Int))] [(3, .box [.t (.v (.int .i64 F.c)), .t (.sl .un 2 (F.cs.map cfT))]), (6, .box [.t (.v (.int .i64 0)), .t (.v (.slice none 0 0))]), (7, .box [.t (.v (.int .i64 F.c)), .ts (k0) .ne 2 ([])])] (upd (upd H ka (some (.tip 3 1 za.length))) (k0) (some (.tip 106 2 ([]).length))) rfl ⟨rfl, rfl, rfl, rfl, rfl, rfl, trivial⟩ ⟨rfl, rfl, rfl, trivial⟩ (fun _ _ h => h) rfl, k0, [], ⟨Nat.zero_le _, hk0, rfl⟩, rfl⟩ (fun i s hs => ?_)
  obtain ⟨kb, zb, ⟨hi0, hkb, hzb⟩, rfl⟩ := hs
  refine AW.seq ?_
  refine sR ?_
  refine sM ?_
  refine sM ?_
  refine SeqK.q (q_len rfl Fx.un22 rfl) rfl rfl rfl ?_
  refine SeqK.q (q_lss rfl rfl rfl) rfl rfl rfl ?_
  refine SeqK.nil ?_
  refine AW.condD rfl (fun h40 => ?_) (fun h40 => ?_)
  ·
   have hi : i < D.length := by rw [List.length_map] at h40; omega
   obtain ⟨p, hp, hg, hGi, hun⟩ := mv_at hN (hN ▸ hF.nd) hD hG hi
   refine AW.skip ?_
   refine AW.seq ?_
   refine AW.block ?_
   refine sR ?_
   refine sA ?_
   refine SeqK.nil ?_
   refine AW.block ?_
   refine AW.loop (fun (j : Nat) s => ∃ (kc : Nat) (zc : List (List E.T)), (j ≤ N.length ∧ (upd H ka (some (.tip 3 1 za.length))) kc = none ∧ zc = zb ++ (if p < j then [cfT G[i]] else [])) ∧ s = ⟨75, sp [(3, .lp 3 0), (6, .lp 6 0), (7, .lp 7 0), (8, .c (iL .un N)), (10, .c (iL .un D)), (11, iX .i64 ((i : Nat) : Int)), (12, iX .i64 ((j : Nat) : Int))], lv [(3, .box [.t (.v (.int .i64 F.c)), .t (.sl .un 2 (F.cs.map cfT))]), (6, .box [.t (.v (.int .i64 0)), .t (.v (.slice none 0 0))]), (7, .box [.t (.v (.int .i64 F.c)), .ts kc .ne 2 zc])], upd (upd H ka (some (.tip 3 1 za.length))) kc (some (.tip 106 2 zc.length))⟩) (fun j => N.length - j) 0 ⟨_, Wk.keep 75 [(3, .lp 3 0), (6, .lp 6 0), (7, .lp 7 0), (8, .c (iL .un N)), (10, .c (iL .un D)), (11, iX .i64 ((i : Nat) : Int)), (12, iX .i64 ((((0 : Nat)) : Nat) : Int))] [(3, .box [.t (.v (.int .i64 F.c)), .t (.sl .un 2 (F.cs.map cfT))]), (6, .box [.t (.v (.int .i64 0)), .t (.v (.slice none 0 0))]), (7, .box [.t (.v (.int .i64 F.c)), .ts (kb) .ne 2 (zb)])] (upd (upd H ka (some (.tip 3 1 za.length))) (kb) (some (.tip 106 2 (zb).length))) rfl ⟨rfl, rfl, rfl, rfl, rfl, rfl, rfl, trivial⟩ ⟨rfl, rfl, rfl, trivial⟩ (fun _ _ h => h) rfl, kb, zb, ⟨Nat.zero_le _, hkb, by simp⟩, rfl⟩ (fun j s hs => ?_)
   obtain ⟨kc, zc, ⟨hj0, hkc, hzc⟩, rfl⟩ := hs
   refine AW.seq ?_
   refine sR ?_
   refine sM ?_
   refine sM ?_
   refine SeqK.q (q_len rfl Fx.un22 rfl) rfl rfl rfl ?_
   refine SeqK.q (q_lss rfl rfl rfl) rfl rfl rfl ?_
   refine SeqK.nil ?_
   refine AW.condD rfl (fun h46 => ?_) (fun h46 => ?_)
   ·
    have hj : j < N.length := by rw [List.length_map] at h46; omega
    have hjF : j < F.cs.length := by omega
    refine AW.skip ?_
    refine AW.seq ?_
    refine AW.block ?_
    refine AW.seq ?_
    refine AW.draw Fx.mo ?_
    refine LexK.q (q_mvC rfl rfl) rfl rfl rfl ?_
    refine LexK.q (q_mvC rfl rfl) rfl rfl rfl ?_
    refine LexK.q (q_index _ rfl Fx.sl22 rfl rfl (by omega) (idx_map (f := i64T) hj)) rfl rfl rfl ?_
    refine LexK.q (q_load (.a _) rfl Fx.ty3 rfl rfl rfl) rfl rfl rfl ?_
    refine LexK.q (q_mvC rfl rfl) rfl rfl rfl ?_
    refine LexK.q (q_mvC rfl rfl) rfl rfl rfl ?_
    refine LexK.q (q_index _ rfl Fx.sl22 rfl rfl (by omega) (idx_map (f := i64T) hi)) rfl rfl rfl ?_
    refine LexK.q (q_load (.a _) rfl Fx.ty3 rfl rfl rfl) rfl rfl rfl ?_
    refine LexK.q (q_eql rfl rfl rfl) rfl rfl rfl ?_
    refine LexK.nil (by kernel_rfl) ?_
    refine AW.condD rfl (fun h57 => ?_) (fun h57 => ?_)
    ·
     obtain rfl := (hun j hj).1 h57
     refine AW.drawO [0, 1, 2, 3, 4, 5, 6, 7, 8, 9, 10, 11, 12, 13, 14, 15, 16] Fx.mo (by kernel_rfl) ?_
     refine LexO.q rfl (by kernel_rfl) (q_fieldL _ rfl Fx.fl74_1 rfl rfl) rfl rfl rfl ?_
     refine LexO.r rfl (by kernel_rfl) (b_load (r := .a _) rfl Fx.ty72 rfl rfl rfl rfl rfl rfl) rfl ?_
     refine LexO.q rfl (by kernel_rfl) (q_mvC rfl rfl) rfl rfl rfl ?_
     refine LexO.q rfl (by kernel_rfl) (q_mvC rfl rfl) rfl rfl rfl ?_
     refine LexO.q rfl (by kernel_rfl) (q_index _ rfl Fx.sl22 rfl rfl (by omega) (idx_map (f := i64T) hi)) rfl rfl rfl ?_
     refine LexO.q rfl (by kernel_rfl) (q_load (.a _) rfl Fx.ty3 rfl rfl rfl) rfl rfl rfl ?_
     refine LexO.q rfl (by kernel_rfl) (q_fieldL _ rfl Fx.fl74_1 rfl rfl) rfl rfl rfl ?_
     refine LexO.r rfl (by kernel_rfl) (b_load (r := .a _) rfl Fx.ty72 rfl rfl rfl rfl rfl rfl) rfl ?_
     refine LexO.q rfl (by kernel_rfl) (q_mvC rfl rfl) rfl rfl rfl ?_
     refine LexO.q rfl (by kernel_rfl) (q_index _ rfl Fx.sl72 rfl rfl (by omega) (idx_map (f := cfT) hjF)) rfl rfl rfl ?_
     refine LexO.q rfl (by kernel_rfl) (q_fieldP _ rfl Fx.fl106_1 rfl rfl) rfl rfl rfl ?_
     refine LexO.q rfl (by kernel_rfl) (q_load (.a _) rfl Fx.ty2 rfl rfl rfl) rfl rfl rfl ?_
     refine LexO.q rfl (by kernel_rfl) (q_build2 (zs := [_, _]) (r := [_, _]) [(0, 1), (1, 1)] _ rfl Fx.ze106 rfl Fx.bp106 rfl rfl rfl rfl) rfl rfl rfl ?_
     refine LexO.q rfl (by kernel_rfl) (q_buildSlice _ rfl Fx.el72 rfl (by decide) rfl) rfl rfl rfl ?_
     refine LexO.app1 rfl (by kernel_rfl) (by kernel_rfl) (by kernel_rfl) rfl (hkc) rfl Fx.el72 rfl rfl (by simp [hzc, hzb]; omega) rfl rfl (fun k72 hk72 => ?_)
     refine LexO.q rfl (by kernel_rfl) (q_fieldL _ rfl Fx.fl74_1 rfl rfl) rfl rfl rfl ?_
     refine LexO.r rfl (by kernel_rfl) (b_store (r := [_, _]) rfl rfl Fx.ty72 rfl rfl rfl rfl rfl rfl) rfl ?_
     refine LexO.nil (by kernel_rfl) ?_
     refine AW.reg ?_
     refine sM ?_
     refine SeqK.q (q_add _ rfl rfl rfl (w64 (by omega) (by omega))) rfl rfl rfl ?_
     refine sA ?_
     refine SeqK.nil ?_
     exact ⟨j + 1, _, Wk.keep 75 [(3, .lp 3 0), (6, .lp 6 0), (7, .lp 7 0), (8, .c (iL .un N)), (10, .c (iL .un D)), (11, iX .i64 ((i : Nat) : Int)), (12, iX .i64 (((j + 1) : Nat) : Int))] [(3, .box [.t (.v (.int .i64 F.c)), .t (.sl .un 2 (F.cs.map cfT))]), (6, .box [.t (.v (.int .i64 0)), .t (.v (.slice none 0 0))]), (7, .box [.t (.v (.int .i64 F.c)), .ts (k72) .ne 2 (zc ++ [cfT ⟨D[i], F.cs[j].n⟩])])] (upd (upd H ka (some (.tip 3 1 za.length))) (k72) (some (.tip 106 2 (zc ++ [cfT ⟨D[i], F.cs[j].n⟩]).length))) rfl ⟨rfl, rfl, rfl, rfl, rfl, rfl, rfl, trivial⟩ ⟨rfl, rfl, rfl, trivial⟩ (fun _ _ h => h) rfl, by omega, k72, zc ++ [cfT ⟨D[i], F.cs[j].n⟩], ⟨hj, hk72, by rw [hzc, hGi]; simp⟩, rfl⟩
    ·
     have hjp : j ≠ p := fun e => h57 ((hun j hj).2 e)
     refine AW.skip ?_
     refine AW.reg ?_
     refine sM ?_
     refine SeqK.q (q_add _ rfl rfl rfl (w64 (by omega) (by omega))) rfl rfl rfl ?_
     refine sA ?_
     refine SeqK.nil ?_
     exact ⟨j + 1, _, Wk.keep 75 [(3, .lp 3 0), (6, .lp 6 0), (7, .lp 7 0), (8, .c (iL .un N)), (10, .c (iL .un D)), (11, iX .i64 ((i : Nat) : Int)), (12, iX .i64 (((j + 1) : Nat) : Int))] [(3, .box [.t (.v (.int .i64 F.c)), .t (.sl .un 2 (F.cs.map cfT))]), (6, .box [.t (.v (.int .i64 0)), .t (.v (.slice none 0 0))]), (7, .box [.t (.v (.int .i64 F.c)), .ts (kc) .ne 2 (zc)])] (upd (upd H ka (some (.tip 3 1 za.length))) (kc) (some (.tip 106 2 (zc).length))) rfl ⟨rfl, rfl, rfl, rfl, rfl, rfl, rfl, trivial⟩ ⟨rfl, rfl, rfl, trivial⟩ (fun _ _ h => h) rfl, by omega, kc, zc, ⟨hj, hkc, by rw [hzc]; rcases Nat.lt_or_ge p j with h | h; rw [if_pos h, if_pos (by omega)]; rw [if_neg (by omega), if_neg (by omega)]⟩, rfl⟩
   ·
    refine AW.exit ?_
    refine eth_e ?_
    refine eth_e ?_
    refine exit_here ?_
    have hzc2 : zc = (G.take (i + 1)).map cfT := by
     rw [hzc, if_pos (by rw [List.length_map] at h46; omega), hzb, take_put hg, List.map_append]; rfl
    refine AW.reg ?_
    refine sM ?_
    refine SeqK.q (q_add _ rfl rfl rfl (w64 (by omega) (by omega))) rfl rfl rfl ?_
    refine sA ?_
    refine SeqK.nil ?_
    exact ⟨i + 1, _, Wk.keep 75 [(3, .lp 3 0), (6, .lp 6 0), (7, .lp 7 0), (8, .c (iL .un N)), (10, .c (iL .un D)), (11, iX .i64 (((i + 1) : Nat) : Int))] [(3, .box [.t (.v (.int .i64 F.c)), .t (.sl .un 2 (F.cs.map cfT))]), (6, .box [.t (.v (.int .i64 0)), .t (.v (.slice none 0 0))]), (7, .box [.t (.v (.int .i64 F.c)), .ts (kc) .ne 2 (zc)])] (upd (upd H ka (some (.tip 3 1 za.length))) (kc) (some (.tip 106 2 (zc).length))) rfl ⟨rfl, rfl, rfl, rfl, rfl, rfl, trivial⟩ ⟨rfl, rfl, rfl, trivial⟩ (fun _ _ h => h) rfl, by omega, kc, zc, ⟨hi, hkc, hzc2⟩, rfl⟩
  ·
   refine AW.exit ?_
   refine eth_e ?_
   refine eth_e ?_
   refine exit_here ?_
   refine AW.seq ?_
   obtain rfl : i = D.length := by rw [List.length_map] at h40; omega
   rw [← hGl, List.take_length] at hzb
   refine AW.reg ?_
   refine SeqK.r (b_load (r := .g [_, _]) rfl Fx.ty74 rfl rfl rfl rfl rfl rfl) rfl ?_
   refine SeqK.xw 74 rfl (XW.g (.cons XW.reA (.cons (XW.ts.trans (XW.es hzb)) .nil))) ?_
   refine SeqK.r (b_store (r := [_, _]) rfl rfl Fx.ty74 rfl rfl rfl rfl rfl rfl) rfl ?_
   refine SeqK.nil ?_
   refine AW.ret ?_
   exact fin_x (x := .c _) (H) (.cellL rfl rfl Fx.ty74 rfl rfl .nil) rfl ((fun j o h => upd_sub hkb j o (upd_sub hka j o h))) (⟨by rw [hG]; rfl, rfl⟩)

set_option maxHeartbeats 8000000 in
set_option maxRecDepth 20000 in
theorem rrename_any (c : Cl) (q : List Int) (z2 : Nz) (n : Int) (hq : q.length ≤ 17592186044000) (hn : 0 ≤ n ∧ n ≤ 1000000) (hc : nmC VV (ren q n) c) : Pure Try.prog 17 [clC c, iL z2 q, iC n] (.c (clC (rnCl (ren q n) c))) := by
 intro H
 refine Spec.enter Try.func17 rfl ?_
 refine AW.wk (Wk.keep 160 [(0, .c (clC c)), (1, .c (iL z2 q)), (2, .c (iC n))] [] (H) rfl ⟨rfl, rfl, rfl, trivial⟩ trivial (fun _ _ h => h) rfl) ?_
 refine sR ?_
 refine SeqK.r (b_box (r := [_, _, _, _, _, _, _]) rfl rfl rfl rfl rfl rfl) rfl ?_
 refine SeqK.r (b_alloc (r := [_, _, _, _, _, _, _]) rfl rfl Fx.ze28 rfl rfl rfl rfl) rfl ?_
 refine SeqK.nil ?_
 refine AW.seq ?_
 have q1 := hc.nll
 have q2 := hc.nnl
 have q3 := hc.axl
 have q4 := hc.isl
 have q5 := hc.tsl
 refine AW.draw Fx.mo ?_
 refine LexK.q (q_fieldL _ rfl Fx.fl28_5 rfl rfl) rfl rfl rfl ?_
 refine LexK.r (b_load (r := .a _) rfl Fx.ty26 rfl rfl rfl rfl rfl rfl) rfl ?_
 refine LexK.q (q_mvC rfl rfl) rfl rfl rfl ?_
 refine LexK.q (q_mvC rfl rfl) rfl rfl rfl ?_
 refine LexK.q (q_call _ rfl Fx.fn36 rfl (ordered_any c.sm .un z2 q n hc.sml hq hn hc.sm) rfl) rfl rfl rfl ?_
 refine LexK.q (q_fieldL _ rfl Fx.fl28_6 rfl rfl) rfl rfl rfl ?_
 refine LexK.r (b_load (r := .a _) rfl Fx.ty26 rfl rfl rfl rfl rfl rfl) rfl ?_
 refine LexK.q (q_mvC rfl rfl) rfl rfl rfl ?_
 refine LexK.q (q_mvC rfl rfl) rfl rfl rfl ?_
 refine LexK.q (q_call _ rfl Fx.fn36 rfl (ordered_any c.df .un z2 q n hc.dfl hq hn hc.df) rfl) rfl rfl rfl ?_
 refine LexK.q (q_build2 (zs := [_, _, _, _, _, _, _]) (r := [_, _, _, _, _, _, _]) [(0, 1), (1, 1), (2, 1), (3, 1), (4, 1), (5, 1), (6, 1)] _ rfl Fx.ze28 rfl Fx.bp28 rfl rfl rfl rfl) rfl rfl rfl ?_
 refine LexK.r (b_alloc (r := [_, _, _, _, _, _, _]) rfl rfl Fx.ze28 rfl rfl rfl rfl) rfl ?_
 refine LexK.r (b_store (r := [_, _, _, _, _, _, _]) rfl rfl Fx.ty28 rfl rfl rfl rfl rfl rfl) rfl ?_
 refine LexK.nil (by kernel_rfl) ?_
 refine AW.seq ?_
 refine sR ?_
 refine sA ?_
 refine SeqK.nil ?_
 refine AW.block ?_
 refine AW.tipL 7 0 3 1 rfl rfl (fun k0 hk0 => ?_)
 refine AW.loop (fun (i : Nat) s => ∃ (ka : Nat) (za : List (List E.T)), (i ≤ c.nl.length ∧ H ka = none ∧ za = ((c.nl.take i).map (fun v => (ren q n) v)).map i64T) ∧ s = ⟨160, sp [(1, .c (iL z2 q)), (2, .c (iC n)), (3, .lp 3 0), (6, .lp 6 0), (7, .lp 7 0), (8, iX .i64 ((i : Nat) : Int))], lv [(3, .box [.t (.sl .un 1 (c.nl.map i64T)), .t (.sl .un 1 (c.nn.map i64T)), .t (.sl .un 4 (c.ax.map axT)), .t (.sl .un 3 (c.is.map ctT)), .t (.sl .un 4 (c.ts.map tsT)), .t (.sl .un 2 (c.sm.map prT)), .t (.sl .un 2 (c.df.map prT))]), (6, .box [.t (.v (.slice none 0 0)), .t (.v (.slice none 0 0)), .t (.v (.slice none 0 0)), .t (.v (.slice none 0 0)), .t (.v (.slice none 0 0)), .t (.v (.slice none 0 0)), .t (.v (.slice none 0 0))]), (7, .box [.ts ka .ne 1 za, .t (.v (.slice none 0 0)), .t (.v (.slice none 0 0)), .t (.v (.slice none 0 0)), .t (.v (.slice none 0 0)), .t (.sl .un 2 ((c.sm.map (rnP (ren q n))).map prT)), .t (.sl .un 2 ((c.df.map (rnP (ren q n))).map prT))])], (upd H ka (some (.tip 3 1 za.length)))⟩) (fun i => c.nl.length - i) 0 ⟨_, Wk.keep 160 [(1, .c (iL z2 q)), (2, .c (iC n)), (3, .lp 3 0), (6, .lp 6 0), (7, .lp 7 0), (8, iX .i64 ((((0 : Nat)) : Nat) : Int))] [(3, .box [.t (.sl .un 1 (c.nl.map i64T)), .t (.sl .un 1 (c.nn.map i64T)), .t (.sl .un 4 (c.ax.map axT)), .t (.sl .un 3 (c.is.map ctT)), .t (.sl .un 4 (c.ts.map tsT)), .t (.sl .un 2 (c.sm.map prT)), .t (.sl .un 2 (c.df.map prT))]), (6, .box [.t (.v (.slice none 0 0)), .t (.v (.slice none 0 0)), .t (.v (.slice none 0 0)), .t (.v (.slice none 0 0)), .t (.v (.slice none 0 0)), .t (.v (.slice none 0 0)), .t (.v (.slice none 0 0))]), (7, .box [.ts (k0) .ne 1 ([]), .t (.v (.slice none 0 0)), .t (.v (.slice none 0 0)), .t (.v (.slice none 0 0)), .t (.v (.slice none 0 0)), .t (.sl .un 2 ((c.sm.map (rnP (ren q n))).map prT)), .t (.sl .un 2 ((c.df.map (rnP (ren q n))).map prT))])] ((upd H (k0) (some (.tip 3 1 ([]).length)))) rfl ⟨rfl, rfl, rfl, rfl, rfl, rfl, trivial⟩ ⟨rfl, rfl, rfl, trivial⟩ (fun _ _ h => h) rfl, k0, [], ⟨Nat.zero_le _, hk0, rfl⟩, rfl⟩ (fun i s hs => ?_)
 obtain ⟨ka, za, ⟨hi0, hka, hza⟩, rfl⟩ := hs
 refine AW.seq ?_
 refine sR ?_
 refine sM ?_
 refine SeqK.q (q_fieldL _ rfl Fx.fl28_0 rfl rfl) rfl rfl rfl ?_
 refine SeqK.r (b_load (r := .a _) rfl Fx.ty22 rfl rfl rfl rfl rfl rfl) rfl ?_
 refine SeqK.q (q_len rfl Fx.un22 rfl) rfl rfl rfl ?_
 refine SeqK.q (q_lss rfl rfl rfl) rfl rfl rfl ?_
 refine SeqK.nil ?_
 refine AW.condD rfl (fun h30 => ?_) (fun h30 => ?_)
 ·
  have hi : i < c.nl.length := by rw [List.length_map] at h30; omega
  refine AW.skip ?_
  refine AW.seq ?_
  refine AW.block ?_
  refine AW.drawO [0, 1, 2, 3, 4, 5, 6, 7, 8, 9, 10, 11, 12, 13] Fx.mo (by kernel_rfl) ?_
  refine LexO.q rfl (by kernel_rfl) (q_fieldL _ rfl Fx.fl28_0 rfl rfl) rfl rfl rfl ?_
  refine LexO.r rfl (by kernel_rfl) (b_load (r := .a _) rfl Fx.ty22 rfl rfl rfl rfl rfl rfl) rfl ?_
  refine LexO.q rfl (by kernel_rfl) (q_fieldL _ rfl Fx.fl28_0 rfl rfl) rfl rfl rfl ?_
  refine LexO.r rfl (by kernel_rfl) (b_load (r := .a _) rfl Fx.ty22 rfl rfl rfl rfl rfl rfl) rfl ?_
  refine LexO.q rfl (by kernel_rfl) (q_mvC rfl rfl) rfl rfl rfl ?_
  refine LexO.q rfl (by kernel_rfl) (q_index _ rfl Fx.sl22 rfl rfl (by omega) (idx_map (f := i64T) hi)) rfl rfl rfl ?_
  refine LexO.q rfl (by kernel_rfl) (q_load (.a _) rfl Fx.ty3 rfl rfl rfl) rfl rfl rfl ?_
  refine LexO.q rfl (by kernel_rfl) (q_mvC rfl rfl) rfl rfl rfl ?_
  refine LexO.q rfl (by kernel_rfl) (q_mvC rfl rfl) rfl rfl rfl ?_
  refine LexO.q rfl (by kernel_rfl) (q_call _ rfl Fx.fn37 rfl (move_any _ q z2 n hq hn (hc.nl _ (List.getElem_mem hi))) rfl) rfl rfl rfl ?_
  refine LexO.q rfl (by kernel_rfl) (q_buildSlice _ rfl Fx.el22 rfl (by decide) rfl) rfl rfl rfl ?_
  refine LexO.app1 rfl (by kernel_rfl) (by kernel_rfl) (by kernel_rfl) rfl (hka) rfl Fx.el22 rfl rfl (by simp [hza]; omega) rfl rfl (fun k44 hk44 => ?_)
  refine LexO.q rfl (by kernel_rfl) (q_fieldL _ rfl Fx.fl28_0 rfl rfl) rfl rfl rfl ?_
  refine LexO.r rfl (by kernel_rfl) (b_store (r := [_, _, _, _, _, _, _]) rfl rfl Fx.ty22 rfl rfl rfl rfl rfl rfl) rfl ?_
  refine LexO.nil (by kernel_rfl) ?_
  refine AW.reg ?_
  refine sM ?_
  refine SeqK.q (q_add _ rfl rfl rfl (w64 (by omega) (by omega))) rfl rfl rfl ?_
  refine sA ?_
  refine SeqK.nil ?_
  exact ⟨i + 1, _, Wk.keep 160 [(1, .c (iL z2 q)), (2, .c (iC n)), (3, .lp 3 0), (6, .lp 6 0), (7, .lp 7 0), (8, iX .i64 (((i + 1) : Nat) : Int))] [(3, .box [.t (.sl .un 1 (c.nl.map i64T)), .t (.sl .un 1 (c.nn.map i64T)), .t (.sl .un 4 (c.ax.map axT)), .t (.sl .un 3 (c.is.map ctT)), .t (.sl .un 4 (c.ts.map tsT)), .t (.sl .un 2 (c.sm.map prT)), .t (.sl .un 2 (c.df.map prT))]), (6, .box [.t (.v (.slice none 0 0)), .t (.v (.slice none 0 0)), .t (.v (.slice none 0 0)), .t (.v (.slice none 0 0)), .t (.v (.slice none 0 0)), .t (.v (.slice none 0 0)), .t (.v (.slice none 0 0))]), (7, .box [.ts (k44) .ne 1 (za ++ [i64T ((ren q n) c.nl[i])]), .t (.v (.slice none 0 0)), .t (.v (.slice none 0 0)), .t (.v (.slice none 0 0)), .t (.v (.slice none 0 0)), .t (.sl .un 2 ((c.sm.map (rnP (ren q n))).map prT)), .t (.sl .un 2 ((c.df.map (rnP (ren q n))).map prT))])] ((upd H (k44) (some (.tip 3 1 (za ++ [i64T ((ren q n) c.nl[i])]).length)))) rfl ⟨rfl, rfl, rfl, rfl, rfl, rfl, trivial⟩ ⟨rfl, rfl, rfl, trivial⟩ (fun _ _ h => h) rfl, by omega, k44, za ++ [i64T ((ren q n) c.nl[i])], ⟨hi, hk44, by rw [hza, take_put hi, List.map_append, List.map_append]; simp ⟩, rfl⟩
 ·
  refine AW.exit ?_
  refine eth_e ?_
  refine eth_e ?_
  refine exit_here ?_
  refine AW.seq ?_
  refine AW.seq ?_
  obtain rfl : i = c.nl.length := by rw [List.length_map] at h30; omega
  rw [List.take_length] at hza
  refine AW.reg ?_
  refine sA ?_
  refine SeqK.nil ?_
  refine AW.block ?_
  refine AW.tipL 7 1 3 1 rfl rfl (fun k0 hk0 => ?_)
  refine AW.loop (fun (i : Nat) s => ∃ (kb : Nat) (zb : List (List E.T)), (i ≤ c.nn.length ∧ (upd H ka (some (.tip 3 1 za.length))) kb = none ∧ zb = ((c.nn.take i).map (fun v => (ren q n) v)).map i64T) ∧ s = ⟨160, sp [(1, .c (iL z2 q)), (2, .c (iC n)), (3, .lp 3 0), (6, .lp 6 0), (7, .lp 7 0), (9, iX .i64 ((i : Nat) : Int))], lv [(3, .box [.t (.sl .un 1 (c.nl.map i64T)), .t (.sl .un 1 (c.nn.map i64T)), .t (.sl .un 4 (c.ax.map axT)), .t (.sl .un 3 (c.is.map ctT)), .t (.sl .un 4 (c.ts.map tsT)), .t (.sl .un 2 (c.sm.map prT)), .t (.sl .un 2 (c.df.map prT))]), (6, .box [.t (.v (.slice none 0 0)), .t (.v (.slice none 0 0)), .t (.v (.slice none 0 0)), .t (.v (.slice none 0 0)), .t (.v (.slice none 0 0)), .t (.v (.slice none 0 0)), .t (.v (.slice none 0 0))]), (7, .box [.ts ka .ne 1 za, .ts kb .ne 1 zb, .t (.v (.slice none 0 0)), .t (.v (.slice none 0 0)), .t (.v (.slice none 0 0)), .t (.sl .un 2 ((c.sm.map (rnP (ren q n))).map prT)), .t (.sl .un 2 ((c.df.map (rnP (ren q n))).map prT))])], (upd (upd H ka (some (.tip 3 1 za.length))) kb (some (.tip 3 1 zb.length)))⟩) (fun i => c.nn.length - i) 0 ⟨_, Wk.keep 160 [(1, .c (iL z2 q)), (2, .c (iC n)), (3, .lp 3 0), (6, .lp 6 0), (7, .lp 7 0), (9, iX .i64 ((((0 : Nat)) : Nat) : Int))] [(3, .box [.t (.sl .un 1 (c.nl.map i64T)), .t (.sl .un 1 (c.nn.map i64T)), .t (.sl .un 4 (c.ax.map axT)), .t (.sl .un 3 (c.is.map ctT)), .t (.sl .un 4 (c.ts.map tsT)), .t (.sl .un 2 (c.sm.map prT)), .t (.sl .un 2 (c.df.map prT))]), (6, .box [.t (.v (.slice none 0 0)), .t (.v (.slice none 0 0)), .t (.v (.slice none 0 0)), .t (.v (.slice none 0 0)), .t (.v (.slice none 0 0)), .t (.v (.slice none 0 0)), .t (.v (.slice none 0 0))]), (7, .box [.ts ka .ne 1 za, .ts (k0) .ne 1 ([]), .t (.v (.slice none 0 0)), .t (.v (.slice none 0 0)), .t (.v (.slice none 0 0)), .t (.sl .un 2 ((c.sm.map (rnP (ren q n))).map prT)), .t (.sl .un 2 ((c.df.map (rnP (ren q n))).map prT))])] ((upd (upd H ka (some (.tip 3 1 za.length))) (k0) (some (.tip 3 1 ([]).length)))) rfl ⟨rfl, rfl, rfl, rfl, rfl, rfl, trivial⟩ ⟨rfl, rfl, rfl, trivial⟩ (fun _ _ h => h) rfl, k0, [], ⟨Nat.zero_le _, hk0, rfl⟩, rfl⟩ (fun i s hs => ?_)
  obtain ⟨kb, zb, ⟨hi0, hkb, hzb⟩, rfl⟩ := hs
  refine AW.seq ?_
  refine sR ?_
  refine sM ?_
  refine SeqK.q (q_fieldL _ rfl Fx.fl28_1 rfl rfl) rfl rfl rfl ?_
  refine SeqK.r (b_load (r := .a _) rfl Fx.ty22 rfl rfl rfl rfl rfl rfl) rfl ?_
  refine SeqK.q (q_len rfl Fx.un22 rfl) rfl rfl rfl ?_
  refine SeqK.q (q_lss rfl rfl rfl) rfl rfl rfl ?_
  refine SeqK.nil ?_
  refine AW.condD rfl (fun h50 => ?_) (fun h50 => ?_)
  ·
   have hi : i < c.nn.length := by rw [List.length_map] at h50; omega
   refine AW.skip ?_
   refine AW.seq ?_
   refine AW.block ?_
   refine AW.drawO [0, 1, 2, 3, 4, 5, 6, 7, 8, 9, 10, 11, 12, 13] Fx.mo (by kernel_rfl) ?_
   refine LexO.q rfl (by kernel_rfl) (q_fieldL _ rfl Fx.fl28_1 rfl rfl) rfl rfl rfl ?_
   refine LexO.r rfl (by kernel_rfl) (b_load (r := .a _) rfl Fx.ty22 rfl rfl rfl rfl rfl rfl) rfl ?_
   refine LexO.q rfl (by kernel_rfl) (q_fieldL _ rfl Fx.fl28_1 rfl rfl) rfl rfl rfl ?_
   refine LexO.r rfl (by kernel_rfl) (b_load (r := .a _) rfl Fx.ty22 rfl rfl rfl rfl rfl rfl) rfl ?_
   refine LexO.q rfl (by kernel_rfl) (q_mvC rfl rfl) rfl rfl rfl ?_
   refine LexO.q rfl (by kernel_rfl) (q_index _ rfl Fx.sl22 rfl rfl (by omega) (idx_map (f := i64T) hi)) rfl rfl rfl ?_
   refine LexO.q rfl (by kernel_rfl) (q_load (.a _) rfl Fx.ty3 rfl rfl rfl) rfl rfl rfl ?_
   refine LexO.q rfl (by kernel_rfl) (q_mvC rfl rfl) rfl rfl rfl ?_
   refine LexO.q rfl (by kernel_rfl) (q_mvC rfl rfl) rfl rfl rfl ?_
   refine LexO.q rfl (by kernel_rfl) (q_call _ rfl Fx.fn37 rfl (move_any _ q z2 n hq hn (hc.nn _ (List.getElem_mem hi))) rfl) rfl rfl rfl ?_
   refine LexO.q rfl (by kernel_rfl) (q_buildSlice _ rfl Fx.el22 rfl (by decide) rfl) rfl rfl rfl ?_
   refine LexO.app1 rfl (by kernel_rfl) (by kernel_rfl) (by kernel_rfl) rfl (hkb) rfl Fx.el22 rfl rfl (by simp [hzb]; omega) rfl rfl (fun k64 hk64 => ?_)
   refine LexO.q rfl (by kernel_rfl) (q_fieldL _ rfl Fx.fl28_1 rfl rfl) rfl rfl rfl ?_
   refine LexO.r rfl (by kernel_rfl) (b_store (r := [_, _, _, _, _, _, _]) rfl rfl Fx.ty22 rfl rfl rfl rfl rfl rfl) rfl ?_
   refine LexO.nil (by kernel_rfl) ?_
   refine AW.reg ?_
   refine sM ?_
   refine SeqK.q (q_add _ rfl rfl rfl (w64 (by omega) (by omega))) rfl rfl rfl ?_
   refine sA ?_
   refine SeqK.nil ?_
   exact ⟨i + 1, _, Wk.keep 160 [(1, .c (iL z2 q)), (2, .c (iC n)), (3, .lp 3 0), (6, .lp 6 0), (7, .lp 7 0), (9, iX .i64 (((i + 1) : Nat) : Int))] [(3, .box [.t (.sl .un 1 (c.nl.map i64T)), .t (.sl .un 1 (c.nn.map i64T)), .t (.sl .un 4 (c.ax.map axT)), .t (.sl .un 3 (c.is.map ctT)), .t (.sl .un 4 (c.ts.map tsT)), .t (.sl .un 2 (c.sm.map prT)), .t (.sl .un 2 (c.df.map prT))]), (6, .box [.t (.v (.slice none 0 0)), .t (.v (.slice none 0 0)), .t (.v (.slice none 0 0)), .t (.v (.slice none 0 0)), .t (.v (.slice none 0 0)), .t (.v (.slice none 0 0)), .t (.v (.slice none 0 0))]), (7, .box [.ts ka .ne 1 za, .ts (k64) .ne 1 (zb ++ [i64T ((ren q n) c.nn[i])]), .t (.v (.slice none 0 0)), .t (.v (.slice none 0 0)), .t (.v (.slice none 0 0)), .t (.sl .un 2 ((c.sm.map (rnP (ren q n))).map prT)), .t (.sl .un 2 ((c.df.map (rnP (ren q n))).map prT))])] ((upd (upd H ka (some (.tip 3 1 za.length))) (k64) (some (.tip 3 1 (zb ++ [i64T ((ren q n) c.nn[i])]).length)))) rfl ⟨rfl, rfl, rfl, rfl, rfl, rfl, trivial⟩ ⟨rfl, rfl, rfl, trivial⟩ (fun _ _ h => h) rfl, by omega, k64, zb ++ [i64T ((ren q n) c.nn[i])], ⟨hi, hk64, by rw [hzb, take_put hi, List.map_append, List.map_append]; simp ⟩, rfl⟩
  ·
   refine AW.exit ?_
   refine eth_e ?_
   refine eth_e ?_
   refine exit_here ?_
   refine AW.seq ?_
   obtain rfl : i = c.nn.length := by rw [List.length_map] at h50; omega
   rw [List.take_length] at hzb
   refine AW.xwL 7 rfl (.cons (XW.ts.trans (XW.es hza)) (.cons (XW.ts.trans (XW.es hzb)) XWs.re)) ?_
   refine AW.draw Fx.mo ?_
   refine LexK.q (q_fieldL _ rfl Fx.fl28_0 rfl rfl) rfl rfl rfl ?_
   refine LexK.r (b_load (r := .a _) rfl Fx.ty22 rfl rfl rfl rfl rfl rfl) rfl ?_
   refine LexK.q (q_call _ rfl Fx.fn38 rfl (rsorted_any _ .un (by rw [List.length_map]; omega)) rfl) rfl rfl rfl ?_
   refine LexK.q (q_fieldL _ rfl Fx.fl28_1 rfl rfl) rfl rfl rfl ?_
   refine LexK.r (b_load (r := .a _) rfl Fx.ty22 rfl rfl rfl rfl rfl rfl) rfl ?_
   refine LexK.q (q_call _ rfl Fx.fn38 rfl (rsorted_any _ .un (by rw [List.length_map]; omega)) rfl) rfl rfl rfl ?_
   refine LexK.q (q_fieldL _ rfl Fx.fl28_0 rfl rfl) rfl rfl rfl ?_
   refine LexK.r (b_store (r := [_, _, _, _, _, _, _]) rfl rfl Fx.ty22 rfl rfl rfl rfl rfl rfl) rfl ?_
   refine LexK.q (q_fieldL _ rfl Fx.fl28_1 rfl rfl) rfl rfl rfl ?_
   refine LexK.r (b_store (r := [_, _, _, _, _, _, _]) rfl rfl Fx.ty22 rfl rfl rfl rfl rfl rfl) rfl ?_
   refine LexK.nil (by kernel_rfl) ?_
   refine AW.seq ?_
   refine sR ?_
   refine sA ?_
   refine SeqK.nil ?_
   refine AW.block ?_
   refine AW.tipL 7 2 82 4 rfl rfl (fun k0 hk0 => ?_)
   refine AW.loop (fun (i : Nat) s => ∃ (kc : Nat) (zc : List (List E.T)), (i ≤ c.ax.length ∧ (upd (upd H ka (some (.tip 3 1 za.length))) kb (some (.tip 3 1 zb.length))) kc = none ∧ zc = ((c.ax.take i).map (rnA (ren q n))).map axT) ∧ s = ⟨160, sp [(1, .c (iL z2 q)), (2, .c (iC n)), (3, .lp 3 0), (6, .lp 6 0), (7, .lp 7 0), (10, iX .i64 ((i : Nat) : Int))], lv [(3, .box [.t (.sl .un 1 (c.nl.map i64T)), .t (.sl .un 1 (c.nn.map i64T)), .t (.sl .un 4 (c.ax.map axT)), .t (.sl .un 3 (c.is.map ctT)), .t (.sl .un 4 (c.ts.map tsT)), .t (.sl .un 2 (c.sm.map prT)), .t (.sl .un 2 (c.df.map prT))]), (6, .box [.t (.v (.slice none 0 0)), .t (.v (.slice none 0 0)), .t (.v (.slice none 0 0)), .t (.v (.slice none 0 0)), .t (.v (.slice none 0 0)), .t (.v (.slice none 0 0)), .t (.v (.slice none 0 0))]), (7, .box [.t (.sl .un 1 ((dd (c.nl.map (ren q n))).map i64T)), .t (.sl .un 1 ((dd (c.nn.map (ren q n))).map i64T)), .ts kc .ne 4 zc, .t (.v (.slice none 0 0)), .t (.v (.slice none 0 0)), .t (.sl .un 2 ((c.sm.map (rnP (ren q n))).map prT)), .t (.sl .un 2 ((c.df.map (rnP (ren q n))).map prT))])], (upd (upd (upd H ka (some (.tip 3 1 za.length))) kb (some (.tip 3 1 zb.length))) kc (some (.tip 82 4 zc.length)))⟩) (fun i => c.ax.length - i) 0 ⟨_, Wk.keep 160 [(1, .c (iL z2 q)), (2, .c (iC n)), (3, .lp 3 0), (6, .lp 6 0), (7, .lp 7 0), (10, iX .i64 ((((0 : Nat)) : Nat) : Int))] [(3, .box [.t (.sl .un 1 (c.nl.map i64T)), .t (.sl .un 1 (c.nn.map i64T)), .t (.sl .un 4 (c.ax.map axT)), .t (.sl .un 3 (c.is.map ctT)), .t (.sl .un 4 (c.ts.map tsT)), .t (.sl .un 2 (c.sm.map prT)), .t (.sl .un 2 (c.df.map prT))]), (6, .box [.t (.v (.slice none 0 0)), .t (.v (.slice none 0 0)), .t (.v (.slice none 0 0)), .t (.v (.slice none 0 0)), .t (.v (.slice none 0 0)), .t (.v (.slice none 0 0)), .t (.v (.slice none 0 0))]), (7, .box [.t (.sl .un 1 ((dd (c.nl.map (ren q n))).map i64T)), .t (.sl .un 1 ((dd (c.nn.map (ren q n))).map i64T)), .ts (k0) .ne 4 ([]), .t (.v (.slice none 0 0)), .t (.v (.slice none 0 0)), .t (.sl .un 2 ((c.sm.map (rnP (ren q n))).map prT)), .t (.sl .un 2 ((c.df.map (rnP (ren q n))).map prT))])] ((upd (upd (upd H ka (some (.tip 3 1 za.length))) kb (some (.tip 3 1 zb.length))) (k0) (some (.tip 82 4 ([]).length)))) rfl ⟨rfl, rfl, rfl, rfl, rfl, rfl, trivial⟩ ⟨rfl, rfl, rfl, trivial⟩ (fun _ _ h => h) rfl, k0, [], ⟨Nat.zero_le _, hk0, rfl⟩, rfl⟩ (fun i s hs => ?_)
   obtain ⟨kc, zc, ⟨hi0, hkc, hzc⟩, rfl⟩ := hs
   refine AW.seq ?_
   refine sR ?_
   refine sM ?_
   refine SeqK.q (q_fieldL _ rfl Fx.fl28_2 rfl rfl) rfl rfl rfl ?_
   refine SeqK.r (b_load (r := .a _) rfl Fx.ty23 rfl rfl rfl rfl rfl rfl) rfl ?_
   refine SeqK.q (q_len rfl Fx.un23 rfl) rfl rfl rfl ?_
   refine SeqK.q (q_lss rfl rfl rfl) rfl rfl rfl ?_
   refine SeqK.nil ?_
   refine AW.condD rfl (fun h78 => ?_) (fun h78 => ?_)
   ·
    have hi : i < c.ax.length := by rw [List.length_map] at h78; omega
    refine AW.skip ?_
    refine AW.seq ?_
    refine AW.block ?_
    refine sR ?_
    refine SeqK.q (q_fieldL _ rfl Fx.fl28_2 rfl rfl) rfl rfl rfl ?_
    refine SeqK.r (b_load (r := .a _) rfl Fx.ty23 rfl rfl rfl rfl rfl rfl) rfl ?_
    refine sM ?_
    refine SeqK.q (q_index _ rfl Fx.sl23 rfl rfl (by omega) (idx_map (f := axT) hi)) rfl rfl rfl ?_
    refine SeqK.q (q_load (.g [_, _, _, _]) rfl Fx.ty82 rfl rfl rfl) rfl rfl rfl ?_
    refine SeqK.r (b_alloc (r := [_, _, _, _]) rfl rfl Fx.ze82 rfl rfl rfl rfl) rfl ?_
    refine SeqK.r (b_store (r := [_, _, _, _]) rfl rfl Fx.ty82 rfl rfl rfl rfl rfl rfl) rfl ?_
    refine SeqK.nil ?_
    refine sR ?_
    refine SeqK.q (q_fieldL _ rfl Fx.fl82_0 rfl rfl) rfl rfl rfl ?_
    refine SeqK.r (b_load (r := .g [_, _]) rfl Fx.ty74 rfl rfl rfl rfl rfl rfl) rfl ?_
    refine sM ?_
    refine sM ?_
    refine SeqK.q (q_call _ rfl Fx.fn39 rfl (moved_any c.ax[i].f q z2 n hq hn (hc.ax _ (List.getElem_mem hi))) rfl) rfl rfl rfl ?_
    refine SeqK.q (q_fieldL _ rfl Fx.fl82_0 rfl rfl) rfl rfl rfl ?_
    refine SeqK.r (b_store (r := [_, _, _, _]) rfl rfl Fx.ty74 rfl rfl rfl rfl rfl rfl) rfl ?_
    refine SeqK.nil ?_
    refine AW.seq ?_
    refine sR ?_
    refine SeqK.q (q_fieldL _ rfl Fx.fl82_1 rfl rfl) rfl rfl rfl ?_
    refine SeqK.r (b_load (r := .a _) rfl Fx.ty2 rfl rfl rfl rfl rfl rfl) rfl ?_
    refine SeqK.q (q_eql rfl rfl rfl) rfl rfl rfl ?_
    refine SeqK.nil ?_
    refine AW.condD rfl (fun h94 => ?_) (fun h94 => ?_)
    ·
     refine AW.reg ?_
     refine SeqK.q (q_fieldL _ rfl Fx.fl82_2 rfl rfl) rfl rfl rfl ?_
     refine SeqK.r (b_load (r := .a _) rfl Fx.ty3 rfl rfl rfl rfl rfl rfl) rfl ?_
     refine sM ?_
     refine sM ?_
     refine SeqK.q (q_call _ rfl Fx.fn37 rfl (move_any _ q z2 n hq hn (hc.axt _ (List.getElem_mem hi) h94)) rfl) rfl rfl rfl ?_
     refine SeqK.q (q_fieldL _ rfl Fx.fl82_2 rfl rfl) rfl rfl rfl ?_
     refine SeqK.r (b_store (r := [_, _, _, _]) rfl rfl Fx.ty3 rfl rfl rfl rfl rfl rfl) rfl ?_
     refine SeqK.nil ?_
     refine AW.reg ?_
     refine SeqK.q (q_fieldL _ rfl Fx.fl28_2 rfl rfl) rfl rfl rfl ?_
     refine SeqK.r (b_load (r := .a _) rfl Fx.ty23 rfl rfl rfl rfl rfl rfl) rfl ?_
     refine SeqK.r (b_load (r := .g [_, _, _, _]) rfl Fx.ty82 rfl rfl rfl rfl rfl rfl) rfl ?_
     refine SeqK.q (q_buildSlice _ rfl Fx.el23 rfl (by decide) rfl) rfl rfl rfl ?_
     refine SeqK.app1 rfl (hkc) rfl Fx.el23 rfl rfl (by simp [hzc]; omega) rfl rfl (fun k105 hk105 => ?_)
     refine SeqK.q (q_fieldL _ rfl Fx.fl28_2 rfl rfl) rfl rfl rfl ?_
     refine SeqK.r (b_store (r := [_, _, _, _, _, _, _]) rfl rfl Fx.ty23 rfl rfl rfl rfl rfl rfl) rfl ?_
     refine SeqK.nil ?_
     refine AW.reg ?_
     refine sM ?_
     refine SeqK.q (q_add _ rfl rfl rfl (w64 (by omega) (by omega))) rfl rfl rfl ?_
     refine sA ?_
     refine SeqK.nil ?_
     exact ⟨i + 1, _, Wk.keep 160 [(1, .c (iL z2 q)), (2, .c (iC n)), (3, .lp 3 0), (6, .lp 6 0), (7, .lp 7 0), (10, iX .i64 (((i + 1) : Nat) : Int))] [(3, .box [.t (.sl .un 1 (c.nl.map i64T)), .t (.sl .un 1 (c.nn.map i64T)), .t (.sl .un 4 (c.ax.map axT)), .t (.sl .un 3 (c.is.map ctT)), .t (.sl .un 4 (c.ts.map tsT)), .t (.sl .un 2 (c.sm.map prT)), .t (.sl .un 2 (c.df.map prT))]), (6, .box [.t (.v (.slice none 0 0)), .t (.v (.slice none 0 0)), .t (.v (.slice none 0 0)), .t (.v (.slice none 0 0)), .t (.v (.slice none 0 0)), .t (.v (.slice none 0 0)), .t (.v (.slice none 0 0))]), (7, .box [.t (.sl .un 1 ((dd (c.nl.map (ren q n))).map i64T)), .t (.sl .un 1 ((dd (c.nn.map (ren q n))).map i64T)), .ts (k105) .ne 4 (zc ++ [axT (⟨rnF (ren q n) c.ax[i].f, c.ax[i].b, (ren q n) c.ax[i].t⟩)]), .t (.v (.slice none 0 0)), .t (.v (.slice none 0 0)), .t (.sl .un 2 ((c.sm.map (rnP (ren q n))).map prT)), .t (.sl .un 2 ((c.df.map (rnP (ren q n))).map prT))])] ((upd (upd (upd H ka (some (.tip 3 1 za.length))) kb (some (.tip 3 1 zb.length))) (k105) (some (.tip 82 4 (zc ++ [axT (⟨rnF (ren q n) c.ax[i].f, c.ax[i].b, (ren q n) c.ax[i].t⟩)]).length)))) rfl ⟨rfl, rfl, rfl, rfl, rfl, rfl, trivial⟩ ⟨rfl, rfl, rfl, trivial⟩ (fun _ _ h => h) rfl, by omega, k105, zc ++ [axT (⟨rnF (ren q n) c.ax[i].f, c.ax[i].b, (ren q n) c.ax[i].t⟩)], ⟨hi, hk105, by rw [hzc, take_put hi, List.map_append, List.map_append]; simp [rnA, h94]⟩, rfl⟩
    ·
     refine AW.skip ?_
     refine AW.reg ?_
     refine SeqK.q (q_fieldL _ rfl Fx.fl28_2 rfl rfl) rfl rfl rfl ?_
     refine SeqK.r (b_load (r := .a _) rfl Fx.ty23 rfl rfl rfl rfl rfl rfl) rfl ?_
     refine SeqK.r (b_load (r := .g [_, _, _, _]) rfl Fx.ty82 rfl rfl rfl rfl rfl rfl) rfl ?_
     refine SeqK.q (q_buildSlice _ rfl Fx.el23 rfl (by decide) rfl) rfl rfl rfl ?_
     refine SeqK.app1 rfl (hkc) rfl Fx.el23 rfl rfl (by simp [hzc]; omega) rfl rfl (fun k105 hk105 => ?_)
     refine SeqK.q (q_fieldL _ rfl Fx.fl28_2 rfl rfl) rfl rfl rfl ?_
     refine SeqK.r (b_store (r := [_, _, _, _, _, _, _]) rfl rfl Fx.ty23 rfl rfl rfl rfl rfl rfl) rfl ?_
     refine SeqK.nil ?_
     refine AW.reg ?_
     refine sM ?_
     refine SeqK.q (q_add _ rfl rfl rfl (w64 (by omega) (by omega))) rfl rfl rfl ?_
     refine sA ?_
     refine SeqK.nil ?_
     exact ⟨i + 1, _, Wk.keep 160 [(1, .c (iL z2 q)), (2, .c (iC n)), (3, .lp 3 0), (6, .lp 6 0), (7, .lp 7 0), (10, iX .i64 (((i + 1) : Nat) : Int))] [(3, .box [.t (.sl .un 1 (c.nl.map i64T)), .t (.sl .un 1 (c.nn.map i64T)), .t (.sl .un 4 (c.ax.map axT)), .t (.sl .un 3 (c.is.map ctT)), .t (.sl .un 4 (c.ts.map tsT)), .t (.sl .un 2 (c.sm.map prT)), .t (.sl .un 2 (c.df.map prT))]), (6, .box [.t (.v (.slice none 0 0)), .t (.v (.slice none 0 0)), .t (.v (.slice none 0 0)), .t (.v (.slice none 0 0)), .t (.v (.slice none 0 0)), .t (.v (.slice none 0 0)), .t (.v (.slice none 0 0))]), (7, .box [.t (.sl .un 1 ((dd (c.nl.map (ren q n))).map i64T)), .t (.sl .un 1 ((dd (c.nn.map (ren q n))).map i64T)), .ts (k105) .ne 4 (zc ++ [axT (⟨rnF (ren q n) c.ax[i].f, c.ax[i].b, c.ax[i].t⟩)]), .t (.v (.slice none 0 0)), .t (.v (.slice none 0 0)), .t (.sl .un 2 ((c.sm.map (rnP (ren q n))).map prT)), .t (.sl .un 2 ((c.df.map (rnP (ren q n))).map prT))])] ((upd (upd (upd H ka (some (.tip 3 1 za.length))) kb (some (.tip 3 1 zb.length))) (k105) (some (.tip 82 4 (zc ++ [axT (⟨rnF (ren q n) c.ax[i].f, c.ax[i].b, c.ax[i].t⟩)]).length)))) rfl ⟨rfl, rfl, rfl, rfl, rfl, rfl, trivial⟩ ⟨rfl, rfl, rfl, trivial⟩ (fun _ _ h => h) rfl, by omega, k105, zc ++ [axT (⟨rnF (ren q n) c.ax[i].f, c.ax[i].b, c.ax[i].t⟩)], ⟨hi, hk105, by rw [hzc, take_put hi, List.map_append, List.map_append]; simp [rnA, h94]⟩, rfl⟩
   ·
    refine AW.exit ?_
    refine eth_e ?_
    refine eth_e ?_
    refine exit_here ?_
    refine AW.seq ?_
    refine AW.seq ?_
    obtain rfl : i = c.ax.length := by rw [List.length_map] at h78; omega
    rw [List.take_length] at hzc
    refine AW.reg ?_
    refine sA ?_
    refine SeqK.nil ?_
    refine AW.block ?_
    refine AW.tipL 7 3 76 3 rfl rfl (fun k0 hk0 => ?_)
    refine AW.loop (fun (i : Nat) s => ∃ (kd : Nat) (zd : List (List E.T)), (i ≤ c.is.length ∧ (upd (upd (upd H ka (some (.tip 3 1 za.length))) kb (some (.tip 3 1 zb.length))) kc (some (.tip 82 4 zc.length))) kd = none ∧ zd = ((c.is.take i).map (rnI (ren q n))).map ctT) ∧ s = ⟨160, sp [(1, .c (iL z2 q)), (2, .c (iC n)), (3, .lp 3 0), (6, .lp 6 0), (7, .lp 7 0), (12, iX .i64 ((i : Nat) : Int))], lv [(3, .box [.t (.sl .un 1 (c.nl.map i64T)), .t (.sl .un 1 (c.nn.map i64T)), .t (.sl .un 4 (c.ax.map axT)), .t (.sl .un 3 (c.is.map ctT)), .t (.sl .un 4 (c.ts.map tsT)), .t (.sl .un 2 (c.sm.map prT)), .t (.sl .un 2 (c.df.map prT))]), (6, .box [.t (.v (.slice none 0 0)), .t (.v (.slice none 0 0)), .t (.v (.slice none 0 0)), .t (.v (.slice none 0 0)), .t (.v (.slice none 0 0)), .t (.v (.slice none 0 0)), .t (.v (.slice none 0 0))]), (7, .box [.t (.sl .un 1 ((dd (c.nl.map (ren q n))).map i64T)), .t (.sl .un 1 ((dd (c.nn.map (ren q n))).map i64T)), .ts kc .ne 4 zc, .ts kd .ne 3 zd, .t (.v (.slice none 0 0)), .t (.sl .un 2 ((c.sm.map (rnP (ren q n))).map prT)), .t (.sl .un 2 ((c.df.map (rnP (ren q n))).map prT))])], (upd (upd (upd (upd H ka (some (.tip 3 1 za.length))) kb (some (.tip 3 1 zb.length))) kc (some (.tip 82 4 zc.length))) kd (some (.tip 76 3 zd.length)))⟩) (fun i => c.is.length - i) 0 ⟨_, Wk.keep 160 [(1, .c (iL z2 q)), (2, .c (iC n)), (3, .lp 3 0), (6, .lp 6 0), (7, .lp 7 0), (12, iX .i64 ((((0 : Nat)) : Nat) : Int))] [(3, .box [.t (.sl .un 1 (c.nl.map i64T)), .t (.sl .un 1 (c.nn.map i64T)), .t (.sl .un 4 (c.ax.map axT)), .t (.sl .un 3 (c.is.map ctT)), .t (.sl .un 4 (c.ts.map tsT)), .t (.sl .un 2 (c.sm.map prT)), .t (.sl .un 2 (c.df.map prT))]), (6, .box [.t (.v (.slice none 0 0)), .t (.v (.slice none 0 0)), .t (.v (.slice none 0 0)), .t (.v (.slice none 0 0)), .t (.v (.slice none 0 0)), .t (.v (.slice none 0 0)), .t (.v (.slice none 0 0))]), (7, .box [.t (.sl .un 1 ((dd (c.nl.map (ren q n))).map i64T)), .t (.sl .un 1 ((dd (c.nn.map (ren q n))).map i64T)), .ts kc .ne 4 zc, .ts (k0) .ne 3 ([]), .t (.v (.slice none 0 0)), .t (.sl .un 2 ((c.sm.map (rnP (ren q n))).map prT)), .t (.sl .un 2 ((c.df.map (rnP (ren q n))).map prT))])] ((upd (upd (upd (upd H ka (some (.tip 3 1 za.length))) kb (some (.tip 3 1 zb.length))) kc (some (.tip 82 4 zc.length))) (k0) (some (.tip 76 3 ([]).length)))) rfl ⟨rfl, rfl, rfl, rfl, rfl, rfl, trivial⟩ ⟨rfl, rfl, rfl, trivial⟩ (fun _ _ h => h) rfl, k0, [], ⟨Nat.zero_le _, hk0, rfl⟩, rfl⟩ (fun i s hs => ?_)
    obtain ⟨kd, zd, ⟨hi0, hkd, hzd⟩, rfl⟩ := hs
    refine AW.seq ?_
    refine sR ?_
    refine sM ?_
    refine SeqK.q (q_fieldL _ rfl Fx.fl28_3 rfl rfl) rfl rfl rfl ?_
    refine SeqK.r (b_load (r := .a _) rfl Fx.ty24 rfl rfl rfl rfl rfl rfl) rfl ?_
    refine SeqK.q (q_len rfl Fx.un24 rfl) rfl rfl rfl ?_
    refine SeqK.q (q_lss rfl rfl rfl) rfl rfl rfl ?_
    refine SeqK.nil ?_
    refine AW.condD rfl (fun h111 => ?_) (fun h111 => ?_)
    ·
     have hi : i < c.is.length := by rw [List.length_map] at h111; omega
     refine AW.skip ?_
     refine AW.seq ?_
     refine AW.block ?_
     refine AW.drawO [0, 1, 2, 3, 4, 5, 6, 7, 8, 9, 10, 11, 12, 13, 14, 15, 16, 17, 18, 19, 20, 21] Fx.mo (by kernel_rfl) ?_
     refine LexO.q rfl (by kernel_rfl) (q_fieldL _ rfl Fx.fl28_3 rfl rfl) rfl rfl rfl ?_
     refine LexO.r rfl (by kernel_rfl) (b_load (r := .a _) rfl Fx.ty24 rfl rfl rfl rfl rfl rfl) rfl ?_
     refine LexO.q rfl (by kernel_rfl) (q_fieldL _ rfl Fx.fl28_3 rfl rfl) rfl rfl rfl ?_
     refine LexO.r rfl (by kernel_rfl) (b_load (r := .a _) rfl Fx.ty24 rfl rfl rfl rfl rfl rfl) rfl ?_
     refine LexO.q rfl (by kernel_rfl) (q_mvC rfl rfl) rfl rfl rfl ?_
     refine LexO.q rfl (by kernel_rfl) (q_index _ rfl Fx.sl24 rfl rfl (by omega) (idx_map (f := ctT) hi)) rfl rfl rfl ?_
     refine LexO.q rfl (by kernel_rfl) (q_fieldP _ rfl Fx.fl76_0 rfl rfl) rfl rfl rfl ?_
     refine LexO.q rfl (by kernel_rfl) (q_load (.g [_, _]) rfl Fx.ty74 rfl rfl rfl) rfl rfl rfl ?_
     refine LexO.q rfl (by kernel_rfl) (q_mvC rfl rfl) rfl rfl rfl ?_
     refine LexO.q rfl (by kernel_rfl) (q_mvC rfl rfl) rfl rfl rfl ?_
     refine LexO.q rfl (by kernel_rfl) (q_call _ rfl Fx.fn39 rfl (moved_any c.is[i].f q z2 n hq hn (hc.is _ (List.getElem_mem hi))) rfl) rfl rfl rfl ?_
     refine LexO.q rfl (by kernel_rfl) (q_fieldL _ rfl Fx.fl28_3 rfl rfl) rfl rfl rfl ?_
     refine LexO.r rfl (by kernel_rfl) (b_load (r := .a _) rfl Fx.ty24 rfl rfl rfl rfl rfl rfl) rfl ?_
     refine LexO.q rfl (by kernel_rfl) (q_mvC rfl rfl) rfl rfl rfl ?_
     refine LexO.q rfl (by kernel_rfl) (q_index _ rfl Fx.sl24 rfl rfl (by omega) (idx_map (f := ctT) hi)) rfl rfl rfl ?_
     refine LexO.q rfl (by kernel_rfl) (q_fieldP _ rfl Fx.fl76_1 rfl rfl) rfl rfl rfl ?_
     refine LexO.q rfl (by kernel_rfl) (q_load (.a _) rfl Fx.ty4 rfl rfl rfl) rfl rfl rfl ?_
     refine LexO.q rfl (by kernel_rfl) (q_build2 (zs := [_, _, _]) (r := [_, _, _]) [(0, 2), (2, 1)] _ rfl Fx.ze76 rfl Fx.bp76 rfl rfl rfl rfl) rfl rfl rfl ?_
     refine LexO.q rfl (by kernel_rfl) (q_buildSlice _ rfl Fx.el24 rfl (by decide) rfl) rfl rfl rfl ?_
     refine LexO.app1 rfl (by kernel_rfl) (by kernel_rfl) (by kernel_rfl) rfl (hkd) rfl Fx.el24 rfl rfl (by simp [hzd]; omega) rfl rfl (fun k133 hk133 => ?_)
     refine LexO.q rfl (by kernel_rfl) (q_fieldL _ rfl Fx.fl28_3 rfl rfl) rfl rfl rfl ?_
     refine LexO.r rfl (by kernel_rfl) (b_store (r := [_, _, _, _, _, _, _]) rfl rfl Fx.ty24 rfl rfl rfl rfl rfl rfl) rfl ?_
     refine LexO.nil (by kernel_rfl) ?_
     refine AW.reg ?_
     refine sM ?_
     refine SeqK.q (q_add _ rfl rfl rfl (w64 (by omega) (by omega))) rfl rfl rfl ?_
     refine sA ?_
     refine SeqK.nil ?_
     exact ⟨i + 1, _, Wk.keep 160 [(1, .c (iL z2 q)), (2, .c (iC n)), (3, .lp 3 0), (6, .lp 6 0), (7, .lp 7 0), (12, iX .i64 (((i + 1) : Nat) : Int))] [(3, .box [.t (.sl .un 1 (c.nl.map i64T)), .t (.sl .un 1 (c.nn.map i64T)), .t (.sl .un 4 (c.ax.map axT)), .t (.sl .un 3 (c.is.map ctT)), .t (.sl .un 4 (c.ts.map tsT)), .t (.sl .un 2 (c.sm.map prT)), .t (.sl .un 2 (c.df.map prT))]), (6, .box [.t (.v (.slice none 0 0)), .t (.v (.slice none 0 0)), .t (.v (.slice none 0 0)), .t (.v (.slice none 0 0)), .t (.v (.slice none 0 0)), .t (.v (.slice none 0 0)), .t (.v (.slice none 0 0))]), (7, .box [.t (.sl .un 1 ((dd (c.nl.map (ren q n))).map i64T)), .t (.sl .un 1 ((dd (c.nn.map (ren q n))).map i64T)), .ts kc .ne 4 zc, .ts (k133) .ne 3 (zd ++ [ctT (rnI (ren q n) c.is[i])]), .t (.v (.slice none 0 0)), .t (.sl .un 2 ((c.sm.map (rnP (ren q n))).map prT)), .t (.sl .un 2 ((c.df.map (rnP (ren q n))).map prT))])] ((upd (upd (upd (upd H ka (some (.tip 3 1 za.length))) kb (some (.tip 3 1 zb.length))) kc (some (.tip 82 4 zc.length))) (k133) (some (.tip 76 3 (zd ++ [ctT (rnI (ren q n) c.is[i])]).length)))) rfl ⟨rfl, rfl, rfl, rfl, rfl, rfl, trivial⟩ ⟨rfl, rfl, rfl, trivial⟩ (fun _ _ h => h) rfl, by omega, k133, zd ++ [ctT (rnI (ren q n) c.is[i])], ⟨hi, hk133, by rw [hzd, take_put hi, List.map_append, List.map_append]; simp ⟩, rfl⟩
    ·
     refine AW.exit ?_
     refine eth_e ?_
     refine eth_e ?_
     refine exit_here ?_
     refine AW.seq ?_
     refine AW.seq ?_
     obtain rfl : i = c.is.length := by rw [List.length_map] at h111; omega
     rw [List.take_length] at hzd
     refine AW.reg ?_
     refine sA ?_
     refine SeqK.nil ?_
     refine AW.block ?_
     refine AW.tipL 7 4 61 4 rfl rfl (fun k0 hk0 => ?_)
     refine AW.loop (fun (i : Nat) s => ∃ (ke : Nat) (ze : List (List E.T)), (i ≤ c.ts.length ∧ (upd (upd (upd (upd H ka (some (.tip 3 1 za.length))) kb (some (.tip 3 1 zb.length))) kc (some (.tip 82 4 zc.length))) kd (some (.tip 76 3 zd.length))) ke = none ∧ ze = ((c.ts.take i).map (rnT (ren q n))).map tsT) ∧ s = ⟨160, sp [(1, .c (iL z2 q)), (2, .c (iC n)), (3, .lp 3 0), (6, .lp 6 0), (7, .lp 7 0), (13, iX .i64 ((i : Nat) : Int))], lv [(3, .box [.t (.sl .un 1 (c.nl.map i64T)), .t (.sl .un 1 (c.nn.map i64T)), .t (.sl .un 4 (c.ax.map axT)), .t (.sl .un 3 (c.is.map ctT)), .t (.sl .un 4 (c.ts.map tsT)), .t (.sl .un 2 (c.sm.map prT)), .t (.sl .un 2 (c.df.map prT))]), (6, .box [.t (.v (.slice none 0 0)), .t (.v (.slice none 0 0)), .t (.v (.slice none 0 0)), .t (.v (.slice none 0 0)), .t (.v (.slice none 0 0)), .t (.v (.slice none 0 0)), .t (.v (.slice none 0 0))]), (7, .box [.t (.sl .un 1 ((dd (c.nl.map (ren q n))).map i64T)), .t (.sl .un 1 ((dd (c.nn.map (ren q n))).map i64T)), .ts kc .ne 4 zc, .ts kd .ne 3 zd, .ts ke .ne 4 ze, .t (.sl .un 2 ((c.sm.map (rnP (ren q n))).map prT)), .t (.sl .un 2 ((c.df.map (rnP (ren q n))).map prT))])], (upd (upd (upd (upd (upd H ka (some (.tip 3 1 za.length))) kb (some (.tip 3 1 zb.length))) kc (some (.tip 82 4 zc.length))) kd (some (.tip 76 3 zd.length))) ke (some (.tip 61 4 ze.length)))⟩) (fun i => c.ts.length - i) 0 ⟨_, Wk.keep 160 [(1, .c (iL z2 q)), (2, .c (iC n)), (3, .lp 3 0), (6, .lp 6 0), (7, .lp 7 0), (13, iX .i64 ((((0 : Nat)) : Nat) : Int))] [(3, .box [.t (.sl .un 1 (c.nl.map i64T)), .t (.sl .un 1 (c.nn.map i64T)), .t (.sl .un 4 (c.ax.map axT)), .t (.sl .un 3 (c.is.map ctT)), .t (.sl .un 4 (c.ts.map tsT)), .t (.sl .un 2 (c.sm.map prT)), .t (.sl .un 2 (c.df.map prT))]), (6, .box [.t (.v (.slice none 0 0)), .t (.v (.slice none 0 0)), .t (.v (.slice none 0 0)), .t (.v (.slice none 0 0)), .t (.v (.slice none 0 0)), .t (.v (.slice none 0 0)), .t (.v (.slice none 0 0))]), (7, .box [.t (.sl .un 1 ((dd (c.nl.map (ren q n))).map i64T)), .t (.sl .un 1 ((dd (c.nn.map (ren q n))).map i64T)), .ts kc .ne 4 zc, .ts kd .ne 3 zd, .ts (k0) .ne 4 ([]), .t (.sl .un 2 ((c.sm.map (rnP (ren q n))).map prT)), .t (.sl .un 2 ((c.df.map (rnP (ren q n))).map prT))])] ((upd (upd (upd (upd (upd H ka (some (.tip 3 1 za.length))) kb (some (.tip 3 1 zb.length))) kc (some (.tip 82 4 zc.length))) kd (some (.tip 76 3 zd.length))) (k0) (some (.tip 61 4 ([]).length)))) rfl ⟨rfl, rfl, rfl, rfl, rfl, rfl, trivial⟩ ⟨rfl, rfl, rfl, trivial⟩ (fun _ _ h => h) rfl, k0, [], ⟨Nat.zero_le _, hk0, rfl⟩, rfl⟩ (fun i s hs => ?_)
     obtain ⟨ke, ze, ⟨hi0, hke, hze⟩, rfl⟩ := hs
     refine AW.seq ?_
     refine sR ?_
     refine sM ?_
     refine SeqK.q (q_fieldL _ rfl Fx.fl28_4 rfl rfl) rfl rfl rfl ?_
     refine SeqK.r (b_load (r := .a _) rfl Fx.ty25 rfl rfl rfl rfl rfl rfl) rfl ?_
     refine SeqK.q (q_len rfl Fx.un25 rfl) rfl rfl rfl ?_
     refine SeqK.q (q_lss rfl rfl rfl) rfl rfl rfl ?_
     refine SeqK.nil ?_
     refine AW.condD rfl (fun h139 => ?_) (fun h139 => ?_)
     ·
      have hi : i < c.ts.length := by rw [List.length_map] at h139; omega
      refine AW.skip ?_
      refine AW.seq ?_
      refine AW.block ?_
      refine sR ?_
      refine SeqK.q (q_fieldL _ rfl Fx.fl28_4 rfl rfl) rfl rfl rfl ?_
      refine SeqK.r (b_load (r := .a _) rfl Fx.ty25 rfl rfl rfl rfl rfl rfl) rfl ?_
      refine sM ?_
      refine SeqK.q (q_index _ rfl Fx.sl25 rfl rfl (by omega) (idx_map (f := tsT) hi)) rfl rfl rfl ?_
      refine SeqK.q (q_load (.g [_, _, _, _]) rfl Fx.ty61 rfl rfl rfl) rfl rfl rfl ?_
      refine SeqK.r (b_alloc (r := [_, _, _, _]) rfl rfl Fx.ze61 rfl rfl rfl rfl) rfl ?_
      refine SeqK.r (b_store (r := [_, _, _, _]) rfl rfl Fx.ty61 rfl rfl rfl rfl rfl rfl) rfl ?_
      refine SeqK.nil ?_
      refine sR ?_
      refine SeqK.q (q_fieldL _ rfl Fx.fl61_0 rfl rfl) rfl rfl rfl ?_
      refine SeqK.r (b_load (r := .a _) rfl Fx.ty3 rfl rfl rfl rfl rfl rfl) rfl ?_
      refine sM ?_
      refine sM ?_
      refine SeqK.q (q_call _ rfl Fx.fn37 rfl (move_any _ q z2 n hq hn (hc.ts _ (List.getElem_mem hi))) rfl) rfl rfl rfl ?_
      refine SeqK.q (q_fieldL _ rfl Fx.fl61_0 rfl rfl) rfl rfl rfl ?_
      refine SeqK.r (b_store (r := [_, _, _, _]) rfl rfl Fx.ty3 rfl rfl rfl rfl rfl rfl) rfl ?_
      refine SeqK.nil ?_
      refine AW.reg ?_
      refine SeqK.q (q_fieldL _ rfl Fx.fl28_4 rfl rfl) rfl rfl rfl ?_
      refine SeqK.r (b_load (r := .a _) rfl Fx.ty25 rfl rfl rfl rfl rfl rfl) rfl ?_
      refine SeqK.r (b_load (r := .g [_, _, _, _]) rfl Fx.ty61 rfl rfl rfl rfl rfl rfl) rfl ?_
      refine SeqK.q (q_buildSlice _ rfl Fx.el25 rfl (by decide) rfl) rfl rfl rfl ?_
      refine SeqK.app1 rfl (hke) rfl Fx.el25 rfl rfl (by simp [hze]; omega) rfl rfl (fun k157 hk157 => ?_)
      refine SeqK.q (q_fieldL _ rfl Fx.fl28_4 rfl rfl) rfl rfl rfl ?_
      refine SeqK.r (b_store (r := [_, _, _, _, _, _, _]) rfl rfl Fx.ty25 rfl rfl rfl rfl rfl rfl) rfl ?_
      refine SeqK.nil ?_
      refine AW.reg ?_
      refine sM ?_
      refine SeqK.q (q_add _ rfl rfl rfl (w64 (by omega) (by omega))) rfl rfl rfl ?_
      refine sA ?_
      refine SeqK.nil ?_
      exact ⟨i + 1, _, Wk.keep 160 [(1, .c (iL z2 q)), (2, .c (iC n)), (3, .lp 3 0), (6, .lp 6 0), (7, .lp 7 0), (13, iX .i64 (((i + 1) : Nat) : Int))] [(3, .box [.t (.sl .un 1 (c.nl.map i64T)), .t (.sl .un 1 (c.nn.map i64T)), .t (.sl .un 4 (c.ax.map axT)), .t (.sl .un 3 (c.is.map ctT)), .t (.sl .un 4 (c.ts.map tsT)), .t (.sl .un 2 (c.sm.map prT)), .t (.sl .un 2 (c.df.map prT))]), (6, .box [.t (.v (.slice none 0 0)), .t (.v (.slice none 0 0)), .t (.v (.slice none 0 0)), .t (.v (.slice none 0 0)), .t (.v (.slice none 0 0)), .t (.v (.slice none 0 0)), .t (.v (.slice none 0 0))]), (7, .box [.t (.sl .un 1 ((dd (c.nl.map (ren q n))).map i64T)), .t (.sl .un 1 ((dd (c.nn.map (ren q n))).map i64T)), .ts kc .ne 4 zc, .ts kd .ne 3 zd, .ts (k157) .ne 4 (ze ++ [tsT (rnT (ren q n) c.ts[i])]), .t (.sl .un 2 ((c.sm.map (rnP (ren q n))).map prT)), .t (.sl .un 2 ((c.df.map (rnP (ren q n))).map prT))])] ((upd (upd (upd (upd (upd H ka (some (.tip 3 1 za.length))) kb (some (.tip 3 1 zb.length))) kc (some (.tip 82 4 zc.length))) kd (some (.tip 76 3 zd.length))) (k157) (some (.tip 61 4 (ze ++ [tsT (rnT (ren q n) c.ts[i])]).length)))) rfl ⟨rfl, rfl, rfl, rfl, rfl, rfl, trivial⟩ ⟨rfl, rfl, rfl, trivial⟩ (fun _ _ h => h) rfl, by omega, k157, ze ++ [tsT (rnT (ren q n) c.ts[i])], ⟨hi, hk157, by rw [hze, take_put hi, List.map_append, List.map_append]; simp ⟩, rfl⟩
     ·
      refine AW.exit ?_
      refine eth_e ?_
      refine eth_e ?_
      refine exit_here ?_
      refine AW.seq ?_
      obtain rfl : i = c.ts.length := by rw [List.length_map] at h139; omega
      rw [List.take_length] at hze
      refine AW.reg ?_
      refine SeqK.r (b_load (r := .g [_, _, _, _, _, _, _]) rfl Fx.ty28 rfl rfl rfl rfl rfl rfl) rfl ?_
      refine SeqK.xw 159 rfl (XW.g (.cons XW.reA (.cons XW.reA (.cons (XW.ts.trans (XW.es hzc)) (.cons (XW.ts.trans (XW.es hzd)) (.cons (XW.ts.trans (XW.es hze)) (.cons XW.reA (.cons XW.reA .nil)))))))) ?_
      refine SeqK.r (b_store (r := [_, _, _, _, _, _, _]) rfl rfl Fx.ty28 rfl rfl rfl rfl rfl rfl) rfl ?_
      refine SeqK.nil ?_
      refine AW.ret ?_
      exact fin_x (x := .c _) (H) (.cellL rfl rfl Fx.ty28 rfl rfl .nil) rfl ((fun j o h => upd_sub hke j o (upd_sub hkd j o (upd_sub hkc j o (upd_sub hkb j o (upd_sub hka j o h)))))) (⟨rfl, rfl⟩)

end Go.Proofs.Ytnmfjojhgfipcaa.W
