/- Parts of the proof, one after the other: W23, W24, W25. No condition. -/
import Derived.Test.YtihlgigaejhilaaM17
import Derived.Shelf.Spec.SlicesGrow
set_option linter.unusedSectionVars false
set_option linter.unusedSimpArgs false
set_option linter.unusedVariables false
namespace Go.Proofs.Ytihlgigaejhilaa.W
open Go.RowKit E

theorem XW.toNil {sz : Nat} : XW (.c (.a (.t (.sl .ne sz [])))) (tv (.slice none 0 0)) := ⟨rfl, fun c v h => by
  have h : RepA c.μ c.β (.t (.sl .ne sz [])) v := h
  cases h with | t h =>
  cases h with
  | nil => exact tv_rep rfl
  | emp h2 => exact (h2 rfl).elim
  | sl u ne => exact absurd rfl ne⟩
def layI_ren : Go.Shelf.Ren := ⟨fun | 4 => 78 | n => n, fun | 22 => 22 | 25 => 3 | n => n, fun | n => n⟩
theorem layI : Go.Proofs.Lays8.n4 Try.prog layI_ren := {
  mixed := by kernel_rfl
  f4 := ⟨"slices.Grow[[]int,int]", by decide, Try.func78.trans (congrArg some (by kernel_rfl))⟩
  t0 := Try.underlying0
  a0 := Try.isAgg0
  z0 := Try.sizeOf0
  v0 := Try.zeroValue0
  t3 := Try.underlying3
  a3 := Try.isAgg3
  z3 := Try.sizeOf3
  v3 := Try.zeroValue3
  t4 := Try.underlying4
  a4 := Try.isAgg4
  z4 := Try.sizeOf4
  v4 := Try.zeroValue4
  t9 := Try.underlying9
  a9 := Try.isAgg9
  z9 := Try.sizeOf9
  v9 := Try.zeroValue9
  t20 := Try.underlying20
  a20 := Try.isAgg20
  z20 := Try.sizeOf20
  v20 := Try.zeroValue20
  t22 := Try.underlying22
  a22 := Try.isAgg22
  z22 := Try.sizeOf22
  v22 := Try.zeroValue22 }
theorem growI_any (H : Heap) (N : Nat) (h0 : 0 < N) (hb : N * 8 ≤ 140737488355328) : E.Spec Try.prog 78 [.a (.t (.v (.slice none 0 0))), iC (N : Int)] H fun x H' => ∃ k, H k = none ∧ x = .c (.a (.gs k 1)) ∧ H' = upd H k (some (.new 3 1)) := by
  obtain ⟨i, z, g1, g2, g3, g4, g5, g6, g7⟩ := elB_get Fx.el22
  refine E.Spec.fresh [.slice none 0 0, .int .i64 (N : Int)] (y := .new 3 1) (x := fun k => .c (.a (.gs k 1))) (fun _ => rfl) (fun w => ?_) H
  refine (Any8.slices_Grow_grow layI i z g2 g6 (by omega) none 0 0 N [] w (Nat.le_refl _) (by omega) (by rw [g5]; omega) (by omega) (by simp) (fun _ => rfl) (fun a h => by cases h)).mono ?_
  rintro e w' ⟨rfl, rfl⟩
  refine ⟨_, w.heap.size, grownCap w (0 + N) 0 (layI_ren.t 25), rfl, rfl, rfl, rfl, ?_, fun b' hb' => ?_, Nat.le_refl _, fun c hu => ?_, fun c k hk => ?_⟩
  · show w.drew.heap.size ≤ _
    show w.heap.size ≤ (w.heap.push _).size
    rw [Array.size_push]; omega
  · exact Below.heap_alloc w.drew _ b' hb'
  · refine ⟨_, heap_new w.drew _, ?_, grownCap_le_maxLen w _ _ _ (by unfold maxLen; omega), hu⟩
    have h9 := grownCap_ge w (0 + N) 0 (layI_ren.t 25)
    rw [Array.size_append, Array.size_append, size_zeroCells, size_zeroCells, g7]
    show 0 + (0 + N - 0) * 1 + (grownCap w (0 + N) 0 (layI_ren.t 25) - (0 + N)) * 1 = grownCap w (0 + N) 0 (layI_ren.t 25) * 1
    omega
  · exact .gs hk
theorem pIT : ∀ p : List Int, (p.map i64T).flatten.length = p.length * 1
  | [] => rfl
  | a :: r => by
    have := pIT r
    simp only [List.map_cons, List.flatten_cons, List.length_append, this, List.length_cons, List.length_nil]; omega
theorem growI_0 : Pure Try.prog 78 [.a (.t (.v (.slice none 0 0))), iC 0] (.c (.a (.t (.v (.slice none 0 0))))) :=
  Pure.of_calls [.slice none 0 0, .int .i64 0] (fun w => Any8.slices_Grow_room layI none 0 0 0 w (by omega) (by omega) (by omega) (by omega)) fun c => .t (.v rfl)

set_option maxHeartbeats 4000000 in
set_option maxRecDepth 20000 in
theorem catI_00 (H : Heap) : E.Spec Try.prog 59 [.a (.t (.sl .nn 1 [[.sl .un 1 (([] : List Int).map i64T)], [.sl .un 1 (([] : List Int).map i64T)]]))] H fun x H' => ∃ k, H k = none ∧ x = .c (.a (.os k 0 ([] : List Int).length 1)) ∧ H' = upd H k (some (.row 3 1 ((([] : List Int).map i64T).flatten.map .t))) := by
 refine Spec.enter Try.func59 rfl ?_
 refine AW.wk (Wk.keep 36 [(0, .c (.a (.t (.sl .nn 1 [[.sl .un 1 (([] : List Int).map i64T)], [.sl .un 1 (([] : List Int).map i64T)]]))))] [] (H) rfl ⟨rfl, trivial⟩ trivial (fun _ _ h => h) rfl) ?_
 refine sR ?_
 refine sA ?_
 refine SeqK.nil ?_
 refine sR ?_
 refine sA ?_
 refine SeqK.nil ?_
 refine AW.seq ?_
 refine sR ?_
 refine sM ?_
 refine SeqK.q (q_len rfl Fx.un68 rfl) rfl rfl rfl ?_
 refine sM ?_
 refine SeqK.nil ?_
 refine AW.block ?_
 refine AW.unroll ?_
 refine sR ?_
 refine SeqK.q (q_lss rfl rfl rfl) rfl rfl rfl ?_
 refine SeqK.nil ?_
 refine AW.seq ?_
 refine AW.condT rfl ?_
 refine AW.skip ?_
 refine AW.seq ?_
 refine AW.block ?_
 refine sR ?_
 refine SeqK.q (q_index _ rfl Fx.sl68 rfl rfl (by omega) (rfl)) rfl rfl rfl ?_
 refine SeqK.q (q_load (.a _) rfl Fx.ty22 rfl rfl rfl) rfl rfl rfl ?_
 refine sA ?_
 refine SeqK.nil ?_
 refine sR ?_
 refine sM ?_
 refine sM ?_
 refine SeqK.q (q_len rfl Fx.un22 rfl) rfl rfl rfl ?_
 refine SeqK.q (q_add _ rfl rfl rfl ((rfl : IntKind.i64.wrap _ = 0))) rfl rfl rfl ?_
 refine sA ?_
 refine SeqK.nil ?_
 refine sR ?_
 refine sM ?_
 refine SeqK.q (q_lss rfl rfl rfl) rfl rfl rfl ?_
 refine SeqK.nil ?_
 refine AW.condD rfl (fun h20 => ?_) (fun h20 => ?_)
 ·
  exfalso; simp at h20
 refine AW.skip ?_
 refine AW.reg ?_
 refine SeqK.q (q_add _ rfl rfl rfl (w64 (by omega) (by omega))) rfl rfl rfl ?_
 refine sM ?_
 refine SeqK.nil ?_
 first | with_reducible refine LoopW.again ?_ | with_reducible refine eth_n (LoopW.again ?_) | with_reducible refine eb_n (eth_n (LoopW.again ?_)) | with_reducible refine eth_n (eb_n (eth_n (LoopW.again ?_)))
 refine sR ?_
 refine SeqK.q (q_lss rfl rfl rfl) rfl rfl rfl ?_
 refine SeqK.nil ?_
 refine AW.seq ?_
 refine AW.condT rfl ?_
 refine AW.skip ?_
 refine AW.seq ?_
 refine AW.block ?_
 refine sR ?_
 refine SeqK.q (q_index _ rfl Fx.sl68 rfl rfl (by omega) (rfl)) rfl rfl rfl ?_
 refine SeqK.q (q_load (.a _) rfl Fx.ty22 rfl rfl rfl) rfl rfl rfl ?_
 refine sA ?_
 refine SeqK.nil ?_
 refine sR ?_
 refine sM ?_
 refine sM ?_
 refine SeqK.q (q_len rfl Fx.un22 rfl) rfl rfl rfl ?_
 refine SeqK.q (q_add _ rfl rfl rfl ((rfl : IntKind.i64.wrap _ = 0))) rfl rfl rfl ?_
 refine sA ?_
 refine SeqK.nil ?_
 refine sR ?_
 refine sM ?_
 refine SeqK.q (q_lss rfl rfl rfl) rfl rfl rfl ?_
 refine SeqK.nil ?_
 refine AW.condD rfl (fun h20 => ?_) (fun h20 => ?_)
 ·
  exfalso; simp at h20
 refine AW.skip ?_
 refine AW.reg ?_
 refine SeqK.q (q_add _ rfl rfl rfl (w64 (by omega) (by omega))) rfl rfl rfl ?_
 refine sM ?_
 refine SeqK.nil ?_
 first | with_reducible refine LoopW.again ?_ | with_reducible refine eth_n (LoopW.again ?_) | with_reducible refine eb_n (eth_n (LoopW.again ?_)) | with_reducible refine eth_n (eb_n (eth_n (LoopW.again ?_)))
 refine sR ?_
 refine SeqK.q (q_lss rfl rfl rfl) rfl rfl rfl ?_
 refine SeqK.nil ?_
 refine AW.seq ?_
 refine AW.condF rfl ?_
 refine AW.exit ?_
 refine eth_e ?_
 refine eth_e ?_
 refine exit_here ?_
 refine sR ?_
 refine sM ?_
 refine SeqK.q (q_call _ rfl Fx.fn78 rfl (growI_0) rfl) rfl rfl rfl ?_
 refine sA ?_
 refine SeqK.nil ?_
 refine AW.seq ?_
 refine sR ?_
 refine sM ?_
 refine SeqK.q (q_len rfl Fx.un68 rfl) rfl rfl rfl ?_
 refine sM ?_
 refine SeqK.nil ?_
 refine AW.block ?_
 refine AW.unroll ?_
 refine sR ?_
 refine SeqK.q (q_lss rfl rfl rfl) rfl rfl rfl ?_
 refine SeqK.nil ?_
 refine AW.seq ?_
 refine AW.condT rfl ?_
 refine AW.skip ?_
 refine AW.seq ?_
 refine AW.block ?_
 refine sR ?_
 refine SeqK.q (q_index _ rfl Fx.sl68 rfl rfl (by omega) (rfl)) rfl rfl rfl ?_
 refine SeqK.q (q_load (.a _) rfl Fx.ty22 rfl rfl rfl) rfl rfl rfl ?_
 refine sA ?_
 refine SeqK.nil ?_
 refine AW.reg ?_
 refine sM ?_
 refine sM ?_
 refine SeqK.q (q_appNil rfl Fx.el22 rfl rfl (by simp)) rfl rfl rfl ?_
 refine SeqK.xw 33 rfl XW.toNil ?_
 refine sA ?_
 refine SeqK.nil ?_
 refine AW.reg ?_
 refine SeqK.q (q_add _ rfl rfl rfl (w64 (by omega) (by omega))) rfl rfl rfl ?_
 refine sM ?_
 refine SeqK.nil ?_
 first | with_reducible refine LoopW.again ?_ | with_reducible refine eth_n (LoopW.again ?_) | with_reducible refine eb_n (eth_n (LoopW.again ?_)) | with_reducible refine eth_n (eb_n (eth_n (LoopW.again ?_)))
 refine sR ?_
 refine SeqK.q (q_lss rfl rfl rfl) rfl rfl rfl ?_
 refine SeqK.nil ?_
 refine AW.seq ?_
 refine AW.condT rfl ?_
 refine AW.skip ?_
 refine AW.seq ?_
 refine AW.block ?_
 refine sR ?_
 refine SeqK.q (q_index _ rfl Fx.sl68 rfl rfl (by omega) (rfl)) rfl rfl rfl ?_
 refine SeqK.q (q_load (.a _) rfl Fx.ty22 rfl rfl rfl) rfl rfl rfl ?_
 refine sA ?_
 refine SeqK.nil ?_
 refine AW.reg ?_
 refine sM ?_
 refine sM ?_
 refine SeqK.q (q_appNil rfl Fx.el22 rfl rfl (by simp)) rfl rfl rfl ?_
 refine SeqK.xw 33 rfl XW.toNil ?_
 refine sA ?_
 refine SeqK.nil ?_
 refine AW.reg ?_
 refine SeqK.q (q_add _ rfl rfl rfl (w64 (by omega) (by omega))) rfl rfl rfl ?_
 refine sM ?_
 refine SeqK.nil ?_
 first | with_reducible refine LoopW.again ?_ | with_reducible refine eth_n (LoopW.again ?_) | with_reducible refine eb_n (eth_n (LoopW.again ?_)) | with_reducible refine eth_n (eb_n (eth_n (LoopW.again ?_)))
 refine sR ?_
 refine SeqK.q (q_lss rfl rfl rfl) rfl rfl rfl ?_
 refine SeqK.nil ?_
 refine AW.seq ?_
 refine AW.condF rfl ?_
 refine AW.exit ?_
 refine eth_e ?_
 refine eth_e ?_
 refine exit_here ?_
 refine sR ?_
 refine sM ?_
 refine sA ?_
 refine SeqK.nil ?_
 refine AW.row 2 3 1 rfl (fun k0 hk0 => ?_)
 refine AW.ret ?_
 exact fin_x (x := .c _) (_) (.tmp rfl .nil) rfl (fun _ _ h => h) (⟨k0, hk0, rfl, rfl⟩)

set_option maxHeartbeats 4000000 in
set_option maxRecDepth 20000 in
theorem catI_a (H : Heap) (a b : List Int) (hl : a.length + b.length ≤ 1000000) (ha : a ≠ []) : E.Spec Try.prog 59 [.a (.t (.sl .nn 1 [[.sl .un 1 (a.map i64T)], [.sl .un 1 (b.map i64T)]]))] H fun x H' => ∃ k, H k = none ∧ x = .c (.a (.os k 0 (a ++ b).length 1)) ∧ H' = upd H k (some (.row 3 1 (((a ++ b).map i64T).flatten.map .t))) := by
 have ha0 := List.length_pos_iff.2 ha
 refine Spec.enter Try.func59 rfl ?_
 refine AW.wk (Wk.keep 36 [(0, .c (.a (.t (.sl .nn 1 [[.sl .un 1 (a.map i64T)], [.sl .un 1 (b.map i64T)]]))))] [] (H) rfl ⟨rfl, trivial⟩ trivial (fun _ _ h => h) rfl) ?_
 refine sR ?_
 refine sA ?_
 refine SeqK.nil ?_
 refine sR ?_
 refine sA ?_
 refine SeqK.nil ?_
 refine AW.seq ?_
 refine sR ?_
 refine sM ?_
 refine SeqK.q (q_len rfl Fx.un68 rfl) rfl rfl rfl ?_
 refine sM ?_
 refine SeqK.nil ?_
 refine AW.block ?_
 refine AW.unroll ?_
 refine sR ?_
 refine SeqK.q (q_lss rfl rfl rfl) rfl rfl rfl ?_
 refine SeqK.nil ?_
 refine AW.seq ?_
 refine AW.condT rfl ?_
 refine AW.skip ?_
 refine AW.seq ?_
 refine AW.block ?_
 refine sR ?_
 refine SeqK.q (q_index _ rfl Fx.sl68 rfl rfl (by omega) (rfl)) rfl rfl rfl ?_
 refine SeqK.q (q_load (.a _) rfl Fx.ty22 rfl rfl rfl) rfl rfl rfl ?_
 refine sA ?_
 refine SeqK.nil ?_
 refine sR ?_
 refine sM ?_
 refine sM ?_
 refine SeqK.q (q_len rfl Fx.un22 rfl) rfl rfl rfl ?_
 refine SeqK.q (q_add _ rfl rfl rfl ((by rw [List.length_map, w64 (by omega) (by omega)]; omega : IntKind.i64.wrap _ = ((a.length : Nat) : Int)))) rfl rfl rfl ?_
 refine sA ?_
 refine SeqK.nil ?_
 refine sR ?_
 refine sM ?_
 refine SeqK.q (q_lss rfl rfl rfl) rfl rfl rfl ?_
 refine SeqK.nil ?_
 refine AW.condD rfl (fun h20 => ?_) (fun h20 => ?_)
 ·
  exfalso; omega
 refine AW.skip ?_
 refine AW.reg ?_
 refine SeqK.q (q_add _ rfl rfl rfl (w64 (by omega) (by omega))) rfl rfl rfl ?_
 refine sM ?_
 refine SeqK.nil ?_
 first | with_reducible refine LoopW.again ?_ | with_reducible refine eth_n (LoopW.again ?_) | with_reducible refine eb_n (eth_n (LoopW.again ?_)) | with_reducible refine eth_n (eb_n (eth_n (LoopW.again ?_)))
 refine sR ?_
 refine SeqK.q (q_lss rfl rfl rfl) rfl rfl rfl ?_
 refine SeqK.nil ?_
 refine AW.seq ?_
 refine AW.condT rfl ?_
 refine AW.skip ?_
 refine AW.seq ?_
 refine AW.block ?_
 refine sR ?_
 refine SeqK.q (q_index _ rfl Fx.sl68 rfl rfl (by omega) (rfl)) rfl rfl rfl ?_
 refine SeqK.q (q_load (.a _) rfl Fx.ty22 rfl rfl rfl) rfl rfl rfl ?_
 refine sA ?_
 refine SeqK.nil ?_
 refine sR ?_
 refine sM ?_
 refine sM ?_
 refine SeqK.q (q_len rfl Fx.un22 rfl) rfl rfl rfl ?_
 refine SeqK.q (q_add _ rfl rfl rfl ((by rw [List.length_map, w64 (by omega) (by omega)]; omega : IntKind.i64.wrap _ = ((a.length + b.length : Nat) : Int)))) rfl rfl rfl ?_
 refine sA ?_
 refine SeqK.nil ?_
 refine sR ?_
 refine sM ?_
 refine SeqK.q (q_lss rfl rfl rfl) rfl rfl rfl ?_
 refine SeqK.nil ?_
 refine AW.condD rfl (fun h20 => ?_) (fun h20 => ?_)
 ·
  exfalso; omega
 refine AW.skip ?_
 refine AW.reg ?_
 refine SeqK.q (q_add _ rfl rfl rfl (w64 (by omega) (by omega))) rfl rfl rfl ?_
 refine sM ?_
 refine SeqK.nil ?_
 first | with_reducible refine LoopW.again ?_ | with_reducible refine eth_n (LoopW.again ?_) | with_reducible refine eb_n (eth_n (LoopW.again ?_)) | with_reducible refine eth_n (eb_n (eth_n (LoopW.again ?_)))
 refine sR ?_
 refine SeqK.q (q_lss rfl rfl rfl) rfl rfl rfl ?_
 refine SeqK.nil ?_
 refine AW.seq ?_
 refine AW.condF rfl ?_
 refine AW.exit ?_
 refine eth_e ?_
 refine eth_e ?_
 refine exit_here ?_
 refine sR ?_
 refine sM ?_
 refine SeqK.callE rfl rfl rfl rfl Fx.fn78 rfl (growI_any _ _ (by omega) (by omega)) (fun _ _ ⟨k, _, h, _⟩ => by rw [h]; rfl) (fun x24 H24 q24 => ?_)
 obtain ⟨kg, hkg, rfl, rfl⟩ := q24
 refine sA ?_
 refine SeqK.nil ?_
 refine AW.seq ?_
 refine sR ?_
 refine sM ?_
 refine SeqK.q (q_len rfl Fx.un68 rfl) rfl rfl rfl ?_
 refine sM ?_
 refine SeqK.nil ?_
 refine AW.block ?_
 refine AW.unroll ?_
 refine sR ?_
 refine SeqK.q (q_lss rfl rfl rfl) rfl rfl rfl ?_
 refine SeqK.nil ?_
 refine AW.seq ?_
 refine AW.condT rfl ?_
 refine AW.skip ?_
 refine AW.seq ?_
 refine AW.block ?_
 refine sR ?_
 refine SeqK.q (q_index _ rfl Fx.sl68 rfl rfl (by omega) (rfl)) rfl rfl rfl ?_
 refine SeqK.q (q_load (.a _) rfl Fx.ty22 rfl rfl rfl) rfl rfl rfl ?_
 refine sA ?_
 refine SeqK.nil ?_
 refine AW.reg ?_
 refine sM ?_
 refine sM ?_
 refine SeqK.any (e_appGS (k := kg) rfl rfl Fx.el22 rfl (upd_same _ _ _) rfl (by rw [List.length_map]; omega) rfl rfl (fun he => absurd he (by simpa using ha)) (fun _ k1 hk1 => ?_))
 obtain ⟨_, hk1⟩ := upd_lt hk1
 rw [upd_back hkg]
 refine sA ?_
 refine SeqK.nil ?_
 refine AW.reg ?_
 refine SeqK.q (q_add _ rfl rfl rfl (w64 (by omega) (by omega))) rfl rfl rfl ?_
 refine sM ?_
 refine SeqK.nil ?_
 first | with_reducible refine LoopW.again ?_ | with_reducible refine eth_n (LoopW.again ?_) | with_reducible refine eb_n (eth_n (LoopW.again ?_)) | with_reducible refine eth_n (eb_n (eth_n (LoopW.again ?_)))
 refine sR ?_
 refine SeqK.q (q_lss rfl rfl rfl) rfl rfl rfl ?_
 refine SeqK.nil ?_
 refine AW.seq ?_
 refine AW.condT rfl ?_
 refine AW.skip ?_
 refine AW.seq ?_
 refine AW.block ?_
 refine sR ?_
 refine SeqK.q (q_index _ rfl Fx.sl68 rfl rfl (by omega) (rfl)) rfl rfl rfl ?_
 refine SeqK.q (q_load (.a _) rfl Fx.ty22 rfl rfl rfl) rfl rfl rfl ?_
 refine sA ?_
 refine SeqK.nil ?_
 refine AW.reg ?_
 refine sM ?_
 refine sM ?_
 refine SeqK.appR1 rfl hk1 rfl Fx.el22 rfl (by rw [List.length_map, pIT, List.length_map]) rfl (by rw [List.length_map, List.length_map]; omega) rfl rfl (fun k2 hk2 => ?_)
 refine sA ?_
 refine SeqK.nil ?_
 refine AW.reg ?_
 refine SeqK.q (q_add _ rfl rfl rfl (w64 (by omega) (by omega))) rfl rfl rfl ?_
 refine sM ?_
 refine SeqK.nil ?_
 first | with_reducible refine LoopW.again ?_ | with_reducible refine eth_n (LoopW.again ?_) | with_reducible refine eb_n (eth_n (LoopW.again ?_)) | with_reducible refine eth_n (eb_n (eth_n (LoopW.again ?_)))
 refine sR ?_
 refine SeqK.q (q_lss rfl rfl rfl) rfl rfl rfl ?_
 refine SeqK.nil ?_
 refine AW.seq ?_
 refine AW.condF rfl ?_
 refine AW.exit ?_
 refine eth_e ?_
 refine eth_e ?_
 refine exit_here ?_
 refine sR ?_
 refine sM ?_
 refine sA ?_
 refine SeqK.nil ?_
 refine AW.ret ?_
 exact fin_x (x := .c _) (_) (.tmp rfl .nil) rfl (fun _ _ h => h) (⟨k2, hk2, by rw [show (a ++ b).length = (a.map i64T).length + (b.map i64T).length by simp], by rw [show ((a ++ b).map i64T).flatten.map A.t = (a.map i64T).flatten.map A.t ++ (b.map i64T).flatten.map A.t by simp]⟩)

set_option maxHeartbeats 4000000 in
set_option maxRecDepth 20000 in
theorem catI_b (H : Heap) (b : List Int) (hl : b.length ≤ 1000000) (hb : b ≠ []) : E.Spec Try.prog 59 [.a (.t (.sl .nn 1 [[.sl .un 1 (([] : List Int).map i64T)], [.sl .un 1 (b.map i64T)]]))] H fun x H' => ∃ k, H k = none ∧ x = .c (.a (.os k 0 b.length 1)) ∧ H' = upd H k (some (.row 3 1 ((b.map i64T).flatten.map .t))) := by
 have hb0 := List.length_pos_iff.2 hb
 refine Spec.enter Try.func59 rfl ?_
 refine AW.wk (Wk.keep 36 [(0, .c (.a (.t (.sl .nn 1 [[.sl .un 1 (([] : List Int).map i64T)], [.sl .un 1 (b.map i64T)]]))))] [] (H) rfl ⟨rfl, trivial⟩ trivial (fun _ _ h => h) rfl) ?_
 refine sR ?_
 refine sA ?_
 refine SeqK.nil ?_
 refine sR ?_
 refine sA ?_
 refine SeqK.nil ?_
 refine AW.seq ?_
 refine sR ?_
 refine sM ?_
 refine SeqK.q (q_len rfl Fx.un68 rfl) rfl rfl rfl ?_
 refine sM ?_
 refine SeqK.nil ?_
 refine AW.block ?_
 refine AW.unroll ?_
 refine sR ?_
 refine SeqK.q (q_lss rfl rfl rfl) rfl rfl rfl ?_
 refine SeqK.nil ?_
 refine AW.seq ?_
 refine AW.condT rfl ?_
 refine AW.skip ?_
 refine AW.seq ?_
 refine AW.block ?_
 refine sR ?_
 refine SeqK.q (q_index _ rfl Fx.sl68 rfl rfl (by omega) (rfl)) rfl rfl rfl ?_
 refine SeqK.q (q_load (.a _) rfl Fx.ty22 rfl rfl rfl) rfl rfl rfl ?_
 refine sA ?_
 refine SeqK.nil ?_
 refine sR ?_
 refine sM ?_
 refine sM ?_
 refine SeqK.q (q_len rfl Fx.un22 rfl) rfl rfl rfl ?_
 refine SeqK.q (q_add _ rfl rfl rfl ((by rw [w64 (by simp) (by simp)]; simp : IntKind.i64.wrap _ = 0))) rfl rfl rfl ?_
 refine sA ?_
 refine SeqK.nil ?_
 refine sR ?_
 refine sM ?_
 refine SeqK.q (q_lss rfl rfl rfl) rfl rfl rfl ?_
 refine SeqK.nil ?_
 refine AW.condD rfl (fun h20 => ?_) (fun h20 => ?_)
 ·
  simp at h20
 refine AW.skip ?_
 refine AW.reg ?_
 refine SeqK.q (q_add _ rfl rfl rfl (w64 (by omega) (by omega))) rfl rfl rfl ?_
 refine sM ?_
 refine SeqK.nil ?_
 first | with_reducible refine LoopW.again ?_ | with_reducible refine eth_n (LoopW.again ?_) | with_reducible refine eb_n (eth_n (LoopW.again ?_)) | with_reducible refine eth_n (eb_n (eth_n (LoopW.again ?_)))
 refine sR ?_
 refine SeqK.q (q_lss rfl rfl rfl) rfl rfl rfl ?_
 refine SeqK.nil ?_
 refine AW.seq ?_
 refine AW.condT rfl ?_
 refine AW.skip ?_
 refine AW.seq ?_
 refine AW.block ?_
 refine sR ?_
 refine SeqK.q (q_index _ rfl Fx.sl68 rfl rfl (by omega) (rfl)) rfl rfl rfl ?_
 refine SeqK.q (q_load (.a _) rfl Fx.ty22 rfl rfl rfl) rfl rfl rfl ?_
 refine sA ?_
 refine SeqK.nil ?_
 refine sR ?_
 refine sM ?_
 refine sM ?_
 refine SeqK.q (q_len rfl Fx.un22 rfl) rfl rfl rfl ?_
 refine SeqK.q (q_add _ rfl rfl rfl ((by rw [List.length_map, w64 (by omega) (by omega)]; omega : IntKind.i64.wrap _ = ((b.length : Nat) : Int)))) rfl rfl rfl ?_
 refine sA ?_
 refine SeqK.nil ?_
 refine sR ?_
 refine sM ?_
 refine SeqK.q (q_lss rfl rfl rfl) rfl rfl rfl ?_
 refine SeqK.nil ?_
 refine AW.condD rfl (fun h20 => ?_) (fun h20 => ?_)
 ·
  exfalso; omega
 refine AW.skip ?_
 refine AW.reg ?_
 refine SeqK.q (q_add _ rfl rfl rfl (w64 (by omega) (by omega))) rfl rfl rfl ?_
 refine sM ?_
 refine SeqK.nil ?_
 first | with_reducible refine LoopW.again ?_ | with_reducible refine eth_n (LoopW.again ?_) | with_reducible refine eb_n (eth_n (LoopW.again ?_)) | with_reducible refine eth_n (eb_n (eth_n (LoopW.again ?_)))
 refine sR ?_
 refine SeqK.q (q_lss rfl rfl rfl) rfl rfl rfl ?_
 refine SeqK.nil ?_
 refine AW.seq ?_
 refine AW.condF rfl ?_
 refine AW.exit ?_
 refine eth_e ?_
 refine eth_e ?_
 refine exit_here ?_
 refine sR ?_
 refine sM ?_
 refine SeqK.callE rfl rfl rfl rfl Fx.fn78 rfl (growI_any _ _ (by omega) (by omega)) (fun _ _ ⟨k, _, h, _⟩ => by rw [h]; rfl) (fun x24 H24 q24 => ?_)
 obtain ⟨kg, hkg, rfl, rfl⟩ := q24
 refine sA ?_
 refine SeqK.nil ?_
 refine AW.seq ?_
 refine sR ?_
 refine sM ?_
 refine SeqK.q (q_len rfl Fx.un68 rfl) rfl rfl rfl ?_
 refine sM ?_
 refine SeqK.nil ?_
 refine AW.block ?_
 refine AW.unroll ?_
 refine sR ?_
 refine SeqK.q (q_lss rfl rfl rfl) rfl rfl rfl ?_
 refine SeqK.nil ?_
 refine AW.seq ?_
 refine AW.condT rfl ?_
 refine AW.skip ?_
 refine AW.seq ?_
 refine AW.block ?_
 refine sR ?_
 refine SeqK.q (q_index _ rfl Fx.sl68 rfl rfl (by omega) (rfl)) rfl rfl rfl ?_
 refine SeqK.q (q_load (.a _) rfl Fx.ty22 rfl rfl rfl) rfl rfl rfl ?_
 refine sA ?_
 refine SeqK.nil ?_
 refine AW.reg ?_
 refine sM ?_
 refine sM ?_
 refine SeqK.any (e_appGS (k := kg) rfl rfl Fx.el22 rfl (upd_same _ _ _) rfl (by simp) rfl rfl (fun _ k1 hk1 => ?_) (fun he => absurd rfl he))
 obtain ⟨_, hk1⟩ := upd_lt hk1
 rw [upd_back hkg]
 refine sA ?_
 refine SeqK.nil ?_
 refine AW.reg ?_
 refine SeqK.q (q_add _ rfl rfl rfl (w64 (by omega) (by omega))) rfl rfl rfl ?_
 refine sM ?_
 refine SeqK.nil ?_
 first | with_reducible refine LoopW.again ?_ | with_reducible refine eth_n (LoopW.again ?_) | with_reducible refine eb_n (eth_n (LoopW.again ?_)) | with_reducible refine eth_n (eb_n (eth_n (LoopW.again ?_)))
 refine sR ?_
 refine SeqK.q (q_lss rfl rfl rfl) rfl rfl rfl ?_
 refine SeqK.nil ?_
 refine AW.seq ?_
 refine AW.condT rfl ?_
 refine AW.skip ?_
 refine AW.seq ?_
 refine AW.block ?_
 refine sR ?_
 refine SeqK.q (q_index _ rfl Fx.sl68 rfl rfl (by omega) (rfl)) rfl rfl rfl ?_
 refine SeqK.q (q_load (.a _) rfl Fx.ty22 rfl rfl rfl) rfl rfl rfl ?_
 refine sA ?_
 refine SeqK.nil ?_
 refine AW.reg ?_
 refine sM ?_
 refine sM ?_
 refine SeqK.any (e_appGS (k := k1) rfl rfl Fx.el22 rfl (upd_same _ _ _) rfl (by rw [List.length_map]; omega) rfl rfl (fun he => absurd he (by simpa using hb)) (fun _ k2 hk2 => ?_))
 obtain ⟨_, hk2⟩ := upd_lt hk2
 rw [upd_back hk1]
 refine sA ?_
 refine SeqK.nil ?_
 refine AW.reg ?_
 refine SeqK.q (q_add _ rfl rfl rfl (w64 (by omega) (by omega))) rfl rfl rfl ?_
 refine sM ?_
 refine SeqK.nil ?_
 first | with_reducible refine LoopW.again ?_ | with_reducible refine eth_n (LoopW.again ?_) | with_reducible refine eb_n (eth_n (LoopW.again ?_)) | with_reducible refine eth_n (eb_n (eth_n (LoopW.again ?_)))
 refine sR ?_
 refine SeqK.q (q_lss rfl rfl rfl) rfl rfl rfl ?_
 refine SeqK.nil ?_
 refine AW.seq ?_
 refine AW.condF rfl ?_
 refine AW.exit ?_
 refine eth_e ?_
 refine eth_e ?_
 refine exit_here ?_
 refine sR ?_
 refine sM ?_
 refine sA ?_
 refine SeqK.nil ?_
 refine AW.ret ?_
 exact fin_x (x := .c _) (_) (.tmp rfl .nil) rfl (fun _ _ h => h) (⟨k2, hk2, by rw [show b.length = (b.map i64T).length by simp], rfl⟩)

theorem catI_row (H : Heap) (a b : List Int) (hl : a.length + b.length ≤ 1000000) : E.Spec Try.prog 59 [.a (.t (.sl .nn 1 [[.sl .un 1 (a.map i64T)], [.sl .un 1 (b.map i64T)]]))] H fun x H' => ∃ k, H k = none ∧ x = .c (.a (.os k 0 (a ++ b).length 1)) ∧ H' = upd H k (some (.row 3 1 (((a ++ b).map i64T).flatten.map .t))) := by
  by_cases ha : a = []
  · subst ha
    by_cases hb : b = []
    · subst hb; exact catI_00 H
    · exact catI_b H b (by simpa using hl) hb
  · exact catI_a H a b hl ha
theorem catI_any (a b : List Int) (hl : a.length + b.length ≤ 1000000) : Pure Try.prog 59 [.a (.t (.sl .nn 1 [[.sl .un 1 (a.map i64T)], [.sl .un 1 (b.map i64T)]]))] (.c (.a (.t (.sl .un 1 ((a ++ b).map i64T))))) := by
  intro H
  refine E.Spec.freeze (catI_row H a b hl) fun x H' h => ?_
  obtain ⟨k, hk, rfl, rfl⟩ := h
  refine ⟨k, 1, 3, (a ++ b).map i64T, upd_same _ _ _, fun z hz => by obtain ⟨q, _, rfl⟩ := List.mem_map.1 hz; rfl, by decide, ?_, upd_back hk⟩
  simp [fzX, fzC, fzA]

end Go.Proofs.Ytihlgigaejhilaa.W
namespace Go.Proofs.Ytihlgigaejhilaa.W
open Go.RowKit E
/-! parts of a plan that are well-formed -/
abbrev lfK (p : Pl) : Prop := p.k = 1 ∨ p.k = 2 ∨ p.k = 3
abbrev npP (p : Pl) : Prop := (p.k = 4 ∨ p.k = 5) ∧ p.src = 0 ∧ p.cols.length = 0 ∧ p.keys.length = 0
def shB (d0 : List Tb) (b : Bd) (p : Pl) (l : List Int) : Bool :=
  if lfK p then decide (lfP d0 b l p)
  else if npP p then
    if p.k = 4 then
      if h : p.args.length = 1 then decide (p.flt.op ≠ 0) && (shB d0 b p.args[0] l && ovB d0 b.tabs (l ++ srM p.args[0]) p.flt) else false
    else if h : p.args.length = 2 then decide (p.flt = ex0) && (shB d0 b p.args[0] l && shB d0 b p.args[1] (l ++ srM p.args[0])) else false
  else false
termination_by SizeOf.sizeOf p
decreasing_by all_goals exact pargs_lt (List.getElem_mem _)
theorem shB_leaf {d0 : List Tb} {b : Bd} {p : Pl} {l : List Int} (h : lfK p) : shB d0 b p l = decide (lfP d0 b l p) := by rw [shB, if_pos h]
theorem shB_no {d0 : List Tb} {b : Bd} {p : Pl} {l : List Int} (h : ¬ lfK p) (h2 : ¬ npP p) : shB d0 b p l = false := by rw [shB, if_neg h, if_neg h2]
theorem shB_4 {d0 : List Tb} {b : Bd} {p : Pl} {l : List Int} (h2 : npP p) (h4 : p.k = 4) (h5 : p.args.length = 1) : shB d0 b p l = (decide (p.flt.op ≠ 0) && (shB d0 b p.args[0] l && ovB d0 b.tabs (l ++ srM p.args[0]) p.flt)) := by rw [shB, if_neg (by omega), if_pos h2, if_pos h4, dif_pos h5]
theorem shB_4n {d0 : List Tb} {b : Bd} {p : Pl} {l : List Int} (h2 : npP p) (h4 : p.k = 4) (h5 : ¬ p.args.length = 1) : shB d0 b p l = false := by rw [shB, if_neg (by omega), if_pos h2, if_pos h4, dif_neg h5]
theorem shB_5 {d0 : List Tb} {b : Bd} {p : Pl} {l : List Int} (h2 : npP p) (h4 : ¬ p.k = 4) (h5 : p.args.length = 2) : shB d0 b p l = (decide (p.flt = ex0) && (shB d0 b p.args[0] l && shB d0 b p.args[1] (l ++ srM p.args[0]))) := by rw [shB, if_neg (by omega), if_pos h2, if_neg h4, dif_pos h5]
theorem shB_5n {d0 : List Tb} {b : Bd} {p : Pl} {l : List Int} (h2 : npP p) (h4 : ¬ p.k = 4) (h5 : ¬ p.args.length = 2) : shB d0 b p l = false := by rw [shB, if_neg (by omega), if_pos h2, if_neg h4, dif_neg h5]
theorem sr_one {p : Pl} (h : ¬ lfK p) (h1 : p.args.length = 1) : srM p = srM p.args[0] := by
  rw [srM_in h]
  obtain ⟨a, e⟩ : ∃ a, p.args = [a] := by
    match hx : p.args, h1 with
    | [a], _ => exact ⟨a, rfl⟩
  simp [e]
theorem sr_two {p : Pl} (h : ¬ lfK p) (h1 : p.args.length = 2) : srM p = srM p.args[0] ++ srM p.args[1] := by
  rw [srM_in h]
  obtain ⟨a, c, e⟩ : ∃ a c, p.args = [a, c] := by
    match hx : p.args, h1 with
    | [a, c], _ => exact ⟨a, c, rfl⟩
  simp [e]
theorem shB_in {d0 : List Tb} {b : Bd} (p : Pl) : ∀ l, shB d0 b p l = true → inP b (srM p) := by
  induction p using Pl.rec' with
  | h p ih =>
    intro l h
    by_cases hl : lfK p
    · rw [shB_leaf hl] at h
      intro v hv
      rw [srM_leaf hl, List.mem_singleton] at hv
      rw [hv]; exact (of_decide_eq_true h).1.1
    · by_cases hn : npP p
      · by_cases h4 : p.k = 4
        · by_cases h5 : p.args.length = 1
          · rw [shB_4 hn h4 h5, Bool.and_eq_true, Bool.and_eq_true] at h
            rw [sr_one hl h5]; exact ih _ (List.getElem_mem _) _ h.2.1
          · rw [shB_4n hn h4 h5] at h; cases h
        · by_cases h5 : p.args.length = 2
          · rw [shB_5 hn h4 h5, Bool.and_eq_true, Bool.and_eq_true] at h
            rw [sr_two hl h5]
            intro v hv
            rcases List.mem_append.1 hv with h9 | h9
            · exact ih _ (List.getElem_mem _) _ h.2.1 v h9
            · exact ih _ (List.getElem_mem _) _ h.2.2 v h9
          · rw [shB_5n hn h4 h5] at h; cases h
      · rw [shB_no hl hn] at h; cases h
theorem inP_app {b : Bd} {l m : List Int} (h : inP b l) (k : inP b m) : inP b (l ++ m) := fun v hv => (List.mem_append.1 hv).elim (h v) (k v)
abbrev SH (d0 : List Tb) (b : Bd) (kx : Nat) (p : Pl) : Prop := ∀ l : List Int, inP b l → l.length + (srM p).length ≤ 1000000 → ∀ H : Heap, H kx = some (.box (stA d0 b)) → E.Spec Try.prog 32 [.a (.bp kx 0), plC p, iL .un l] H fun x H' => x = .c (bC (shB d0 b p l)) ∧ H' = H

set_option maxHeartbeats 8000000 in
set_option maxRecDepth 20000 in
theorem shape_of (H : Heap) (kx : Nat) (d0 : List Tb) (b : Bd) (hx : H kx = some (.box (stA d0 b))) (hb : okB d0 b) (l : List Int) (hin : inP b l) (p : Pl) (hs : l.length + (srM p).length ≤ 1000000) (ho : okP p) (ih : ∀ a ∈ p.args, SH d0 b kx a) : E.Spec Try.prog 32 [.a (.bp kx 0), plC p, iL .un l] H fun x H' => x = .c (bC (shB d0 b p l)) ∧ H' = H := by
 refine Spec.enter Try.func32 rfl ?_
 refine AW.wk (Wk.keep 105 [(0, .c (.a (.bp kx 0))), (1, .c (plC p)), (2, .c (iL .un l))] [] (H) rfl ⟨rfl, rfl, rfl, trivial⟩ trivial (fun _ _ h => h) rfl) ?_
 refine sR ?_
 refine SeqK.r (b_box (r := [_, _, _, _, _, _, _, _, _, _, _, _, _]) rfl rfl rfl rfl rfl rfl) rfl ?_
 refine sA ?_
 refine SeqK.nil ?_
 refine AW.seq ?_
 refine AW.seq ?_
 obtain ⟨⟨k1, k2, k3, kf, kk⟩, k5⟩ := okP_iff.1 ho
 refine AW.reg ?_
 refine SeqK.q (q_fieldL _ rfl Fx.fl30_0 rfl rfl) rfl rfl rfl ?_
 refine SeqK.r (b_load (r := .a _) rfl Fx.ty3 rfl rfl rfl rfl rfl rfl) rfl ?_
 refine SeqK.nil ?_
 refine AW.block ?_
 refine AW.seq ?_
 refine sR ?_
 refine SeqK.q (q_eql rfl rfl rfl) rfl rfl rfl ?_
 refine sA ?_
 refine SeqK.nil ?_
 refine AW.condD rfl (fun h9 => ?_) (fun h9 => ?_)
 ·
  refine AW.skip ?_
  refine AW.condD rfl (fun h9 => ?_) (fun h9 => ?_)
  ·
   refine sR ?_
   refine sM ?_
   refine SeqK.r (b_load (r := .g [_, _, _, _, _, _, _, _, _, _, _, _, _]) rfl Fx.ty30 rfl rfl rfl rfl rfl rfl) rfl ?_
   refine sM ?_
   refine SeqK.r (g_call rfl Fx.fn57 rfl (leaf_any H kx d0 b hx hb l (by omega) hin p ho) rfl rfl rfl) rfl ?_
   refine sA ?_
   refine SeqK.nil ?_
   refine AW.ret ?_
   exact fin_x (x := .c _) (H) (.tmp rfl .nil) rfl (fun _ _ h => h) (⟨bCe (shB_leaf (by omega)).symm, rfl⟩)
  refine AW.seq ?_
  refine sR ?_
  refine SeqK.q (q_eql rfl rfl rfl) rfl rfl rfl ?_
  refine sA ?_
  refine SeqK.nil ?_
  refine AW.condD rfl (fun h17 => ?_) (fun h17 => ?_)
  ·
   refine AW.skip ?_
   refine AW.condD rfl (fun h17 => ?_) (fun h17 => ?_)
   ·
    refine sR ?_
    refine SeqK.q (q_fieldL _ rfl Fx.fl30_1 rfl rfl) rfl rfl rfl ?_
    refine SeqK.r (b_load (r := .a _) rfl Fx.ty3 rfl rfl rfl rfl rfl rfl) rfl ?_
    refine SeqK.q (q_neq rfl rfl rfl) rfl rfl rfl ?_
    refine SeqK.qD (q_mvC rfl rfl) rfl rfl rfl (fun g23 => ?_) (fun g23 => ?_)
    ·
     iterate 4 refine SeqK.off rfl rfl rfl rfl rfl rfl ?_
     refine SeqK.q (q_pkT rfl rfl rfl) rfl rfl rfl ?_
     refine sM ?_
     iterate 4 refine SeqK.off rfl rfl rfl rfl rfl rfl ?_
     refine SeqK.q (q_pkT rfl rfl rfl) rfl rfl rfl ?_
     refine SeqK.nil ?_
     refine AW.condT rfl ?_
     refine AW.seq ?_
     have hno : shB d0 b p l = false := shB_no (by omega) (by first | omega | (simp only [List.length_map] at *; omega))
     refine AW.reg ?_
     refine sA ?_
     refine SeqK.nil ?_
     refine AW.ret ?_
     exact fin_x (x := .c _) (H) (.tmp rfl .nil) rfl (fun _ _ h => h) (⟨bCe hno.symm, rfl⟩)
    refine SeqK.on (q_fieldL _ rfl Fx.fl30_2 rfl rfl) rfl rfl rfl rfl rfl ?_
    refine SeqK.rOn (b_load (r := .a _) rfl Fx.ty22 rfl rfl rfl rfl rfl rfl) rfl rfl rfl ?_
    refine SeqK.on (q_len rfl Fx.un22 rfl) rfl rfl rfl rfl rfl ?_
    refine SeqK.on (q_gtr rfl rfl rfl) rfl rfl rfl rfl rfl ?_
    refine SeqK.q (q_pkF rfl rfl rfl) rfl rfl rfl ?_
    refine SeqK.qD (q_mvC rfl rfl) rfl rfl rfl (fun g29 => ?_) (fun g29 => ?_)
    ·
     iterate 4 refine SeqK.off rfl rfl rfl rfl rfl rfl ?_
     refine SeqK.q (q_pkT rfl rfl rfl) rfl rfl rfl ?_
     refine SeqK.nil ?_
     refine AW.condT rfl ?_
     refine AW.seq ?_
     have hno : shB d0 b p l = false := shB_no (by omega) (by first | omega | (simp only [List.length_map] at *; omega))
     refine AW.reg ?_
     refine sA ?_
     refine SeqK.nil ?_
     refine AW.ret ?_
     exact fin_x (x := .c _) (H) (.tmp rfl .nil) rfl (fun _ _ h => h) (⟨bCe hno.symm, rfl⟩)
    refine SeqK.on (q_fieldL _ rfl Fx.fl30_3 rfl rfl) rfl rfl rfl rfl rfl ?_
    refine SeqK.rOn (b_load (r := .a _) rfl Fx.ty23 rfl rfl rfl rfl rfl rfl) rfl rfl rfl ?_
    refine SeqK.on (q_len rfl Fx.un23 rfl) rfl rfl rfl rfl rfl ?_
    refine SeqK.on (q_gtr rfl rfl rfl) rfl rfl rfl rfl rfl ?_
    refine SeqK.q (q_pkF rfl rfl rfl) rfl rfl rfl ?_
    refine SeqK.nil ?_
    refine AW.condD rfl (fun h34 => ?_) (fun h34 => ?_)
    ·
     refine AW.seq ?_
     have hno : shB d0 b p l = false := shB_no (by omega) (by first | omega | (simp only [List.length_map] at *; omega))
     refine AW.reg ?_
     refine sA ?_
     refine SeqK.nil ?_
     refine AW.ret ?_
     exact fin_x (x := .c _) (H) (.tmp rfl .nil) rfl (fun _ _ h => h) (⟨bCe hno.symm, rfl⟩)
    refine AW.skip ?_
    refine AW.seq ?_
    refine AW.seq ?_
    have hl : ¬ lfK p := by omega
    have hn : npP p := by simp only [List.length_map] at *; omega
    refine AW.reg ?_
    refine SeqK.q (q_fieldL _ rfl Fx.fl30_0 rfl rfl) rfl rfl rfl ?_
    refine SeqK.r (b_load (r := .a _) rfl Fx.ty3 rfl rfl rfl rfl rfl rfl) rfl ?_
    refine SeqK.q (q_eql rfl rfl rfl) rfl rfl rfl ?_
    refine SeqK.nil ?_
    refine AW.condD rfl (fun h37 => ?_) (fun h37 => ?_)
    ·
     refine AW.seq ?_
     refine AW.draw Fx.mo ?_
     refine LexK.q (q_fieldL _ rfl Fx.fl30_5 rfl rfl) rfl rfl rfl ?_
     refine LexK.r (b_load (r := .a _) rfl Fx.ty28 rfl rfl rfl rfl rfl rfl) rfl ?_
     refine LexK.q (q_len rfl Fx.un28 rfl) rfl rfl rfl ?_
     refine LexK.q (q_eql rfl rfl rfl) rfl rfl rfl ?_
     refine LexK.qD (q_mvC rfl rfl) rfl rfl rfl (fun g42 => ?_) (fun g42 => ?_)
     ·
      have hq : p.args.length = 1 := by have h9 := g42; rw [List.length_map] at h9; omega
      refine LexK.on (q_fieldL _ rfl Fx.fl30_4 rfl rfl) rfl rfl rfl rfl rfl ?_
      refine LexK.on (q_fieldL _ rfl Fx.fl27_0 rfl rfl) rfl rfl rfl rfl rfl ?_
      refine LexK.rOn (b_load (r := .a _) rfl Fx.ty3 rfl rfl rfl rfl rfl rfl) rfl rfl rfl ?_
      refine LexK.on (q_neq rfl rfl rfl) rfl rfl rfl rfl rfl ?_
      refine LexK.q (q_pkT rfl rfl rfl) rfl rfl rfl ?_
      refine LexK.qD (q_mvC rfl rfl) rfl rfl rfl (fun g48 => ?_) (fun g48 => ?_)
      ·
       refine LexK.on (q_mvC rfl rfl) rfl rfl rfl rfl rfl ?_
       refine LexK.on (q_fieldL _ rfl Fx.fl30_5 rfl rfl) rfl rfl rfl rfl rfl ?_
       refine LexK.rOn (b_load (r := .a _) rfl Fx.ty28 rfl rfl rfl rfl rfl rfl) rfl rfl rfl ?_
       refine LexK.on (q_index _ rfl Fx.sl28 rfl rfl (by omega) (idx_pl (show 0 < p.args.length by omega))) rfl rfl rfl rfl rfl ?_
       refine LexK.on (q_load (.g [_, _, _, _, _, _, _, _, _, _, _, _, _]) rfl Fx.ty30 rfl rfl rfl) rfl rfl rfl rfl rfl ?_
       refine LexK.on (q_mvC rfl rfl) rfl rfl rfl rfl rfl ?_
       refine LexK.rOn (g_call rfl Fx.fn32 rfl (ih (p.args[0]'(show 0 < p.args.length by omega)) (List.getElem_mem _) l hin (by have h9 := flat_le (f := srM) (show 0 < p.args.length by omega); rw [← srM_in hl] at h9; omega) H hx) rfl rfl rfl) rfl rfl rfl ?_
       refine LexK.q (q_pkT rfl rfl rfl) rfl rfl rfl ?_
       refine LexK.qB (q_mvC rfl rfl) rfl rfl rfl (fun g57 => ?_) (fun g57 => ?_)
       ·
        refine LexK.on (q_mvC rfl rfl) rfl rfl rfl rfl rfl ?_
        refine LexK.on (q_fieldL _ rfl Fx.fl30_4 rfl rfl) rfl rfl rfl rfl rfl ?_
        refine LexK.rOn (b_load (r := .g [_, _, _, _, _, _, _, _]) rfl Fx.ty27 rfl rfl rfl rfl rfl rfl) rfl rfl rfl ?_
        refine LexK.on (q_mvC rfl rfl) rfl rfl rfl rfl rfl ?_
        refine LexK.on (q_fieldL _ rfl Fx.fl30_5 rfl rfl) rfl rfl rfl rfl rfl ?_
        refine LexK.rOn (b_load (r := .a _) rfl Fx.ty28 rfl rfl rfl rfl rfl rfl) rfl rfl rfl ?_
        refine LexK.on (q_index _ rfl Fx.sl28 rfl rfl (by omega) (idx_pl (show 0 < p.args.length by omega))) rfl rfl rfl rfl rfl ?_
        refine LexK.on (q_load (.g [_, _, _, _, _, _, _, _, _, _, _, _, _]) rfl Fx.ty30 rfl rfl rfl) rfl rfl rfl rfl rfl ?_
        refine LexK.on (q_call _ rfl Fx.fn8 rfl (srcs_any (p.args[0]'(show 0 < p.args.length by omega)) (k5 _ (List.getElem_mem _)) (by have h9 := flat_le (f := srM) (show 0 < p.args.length by omega); rw [← srM_in hl] at h9; omega)) rfl) rfl rfl rfl rfl rfl ?_
        refine LexK.on (q_buildSlice _ rfl Fx.el68 rfl (by decide) rfl) rfl rfl rfl rfl rfl ?_
        refine LexK.on (q_call _ rfl Fx.fn59 rfl (catI_any l (srM (p.args[0]'(show 0 < p.args.length by omega))) (by have h9 := flat_le (f := srM) (show 0 < p.args.length by omega); rw [← srM_in hl] at h9; omega)) rfl) rfl rfl rfl rfl rfl ?_
        refine LexK.rOn (g_call rfl Fx.fn58 rfl (over_any kx d0 b (l ++ srM (p.args[0]'(show 0 < p.args.length by omega))) hb (by rw [List.length_append]; exact Nat.le_trans (by have h9 := flat_le (f := srM) (show 0 < p.args.length by omega); rw [← srM_in hl] at h9; omega) (by omega : 1000000 ≤ _)) (inP_app hin (shB_in (p.args[0]'(show 0 < p.args.length by omega)) l (by assumption))) p.flt kf H hx) rfl rfl rfl) rfl rfl rfl ?_
        refine LexK.q (q_pkT rfl rfl rfl) rfl rfl rfl ?_
        refine LexK.q (q_asC rfl rfl) rfl rfl rfl ?_
        refine LexK.nil (by kernel_rfl) ?_
        refine AW.ret ?_
        exact fin_x (x := .c _) (H) (.tmp rfl .nil) rfl (fun _ _ h => h) (⟨bCe (by first | (rw [shB_4 hn h37 (by omega)]; first | (rw [decide_eq_true g48, g57]; rfl) | (rw [g57]; simp; done) | (rw [decide_eq_false g48]; rfl)) | (rw [shB_4n hn h37 (by omega)])), rfl⟩)
       iterate 12 refine LexK.off rfl rfl rfl rfl rfl rfl ?_
       refine LexK.q (q_pkF rfl rfl rfl) rfl rfl rfl ?_
       refine LexK.q (q_asC rfl rfl) rfl rfl rfl ?_
       refine LexK.nil (by kernel_rfl) ?_
       refine AW.ret ?_
       exact fin_x (x := .c _) (H) (.tmp rfl .nil) rfl (fun _ _ h => h) (⟨bCe (by first | (rw [shB_4 hn h37 (by omega)]; first | (rw [decide_eq_true g48, g57]; rfl) | (rw [g57]; simp; done) | (rw [decide_eq_false g48]; rfl)) | (rw [shB_4n hn h37 (by omega)])), rfl⟩)
      iterate 7 refine LexK.off rfl rfl rfl rfl rfl rfl ?_
      refine LexK.q (q_pkF rfl rfl rfl) rfl rfl rfl ?_
      refine LexK.q (q_mvC rfl rfl) rfl rfl rfl ?_
      iterate 12 refine LexK.off rfl rfl rfl rfl rfl rfl ?_
      refine LexK.q (q_pkF rfl rfl rfl) rfl rfl rfl ?_
      refine LexK.q (q_asC rfl rfl) rfl rfl rfl ?_
      refine LexK.nil (by kernel_rfl) ?_
      refine AW.ret ?_
      exact fin_x (x := .c _) (H) (.tmp rfl .nil) rfl (fun _ _ h => h) (⟨bCe (by first | (rw [shB_4 hn h37 (by omega)]; first | (rw [decide_eq_true g48, g57]; rfl) | (rw [g57]; simp; done) | (rw [decide_eq_false g48]; rfl)) | (rw [shB_4n hn h37 (by omega)])), rfl⟩)
     have hq : ¬ p.args.length = 1 := by have h9 := g42; rw [List.length_map] at h9; omega
     iterate 4 refine LexK.off rfl rfl rfl rfl rfl rfl ?_
     refine LexK.q (q_pkF rfl rfl rfl) rfl rfl rfl ?_
     refine LexK.q (q_mvC rfl rfl) rfl rfl rfl ?_
     iterate 7 refine LexK.off rfl rfl rfl rfl rfl rfl ?_
     refine LexK.q (q_pkF rfl rfl rfl) rfl rfl rfl ?_
     refine LexK.q (q_mvC rfl rfl) rfl rfl rfl ?_
     iterate 12 refine LexK.off rfl rfl rfl rfl rfl rfl ?_
     refine LexK.q (q_pkF rfl rfl rfl) rfl rfl rfl ?_
     refine LexK.q (q_asC rfl rfl) rfl rfl rfl ?_
     refine LexK.nil (by kernel_rfl) ?_
     refine AW.ret ?_
     exact fin_x (x := .c _) (H) (.tmp rfl .nil) rfl (fun _ _ h => h) (⟨bCe (by first | (rw [shB_4 hn h37 (by omega)]; first | (rw [decide_eq_true g48, g57]; rfl) | (rw [g57]; simp; done) | (rw [decide_eq_false g48]; rfl)) | (rw [shB_4n hn h37 (by omega)])), rfl⟩)
    refine AW.skip ?_
    refine AW.seq ?_
    refine AW.draw Fx.mo ?_
    refine LexK.q (q_fieldL _ rfl Fx.fl30_5 rfl rfl) rfl rfl rfl ?_
    refine LexK.r (b_load (r := .a _) rfl Fx.ty28 rfl rfl rfl rfl rfl rfl) rfl ?_
    refine LexK.q (q_len rfl Fx.un28 rfl) rfl rfl rfl ?_
    refine LexK.q (q_eql rfl rfl rfl) rfl rfl rfl ?_
    refine LexK.qD (q_mvC rfl rfl) rfl rfl rfl (fun g75 => ?_) (fun g75 => ?_)
    ·
     have hq : p.args.length = 2 := by have h9 := g75; rw [List.length_map] at h9; omega
     refine LexK.on (q_fieldL _ rfl Fx.fl30_4 rfl rfl) rfl rfl rfl rfl rfl ?_
     refine LexK.rOn (b_load (r := .g [_, _, _, _, _, _, _, _]) rfl Fx.ty27 rfl rfl rfl rfl rfl rfl) rfl rfl rfl ?_
     refine LexK.on (q_call _ rfl Fx.fn60 rfl (absent_any p.flt kf) rfl) rfl rfl rfl rfl rfl ?_
     refine LexK.q (q_pkT rfl rfl rfl) rfl rfl rfl ?_
     refine LexK.qB (q_mvC rfl rfl) rfl rfl rfl (fun g80 => ?_) (fun g80 => ?_)
     ·
      refine LexK.on (q_mvC rfl rfl) rfl rfl rfl rfl rfl ?_
      refine LexK.on (q_fieldL _ rfl Fx.fl30_5 rfl rfl) rfl rfl rfl rfl rfl ?_
      refine LexK.rOn (b_load (r := .a _) rfl Fx.ty28 rfl rfl rfl rfl rfl rfl) rfl rfl rfl ?_
      refine LexK.on (q_index _ rfl Fx.sl28 rfl rfl (by omega) (idx_pl (show 0 < p.args.length by omega))) rfl rfl rfl rfl rfl ?_
      refine LexK.on (q_load (.g [_, _, _, _, _, _, _, _, _, _, _, _, _]) rfl Fx.ty30 rfl rfl rfl) rfl rfl rfl rfl rfl ?_
      refine LexK.on (q_mvC rfl rfl) rfl rfl rfl rfl rfl ?_
      refine LexK.rOn (g_call rfl Fx.fn32 rfl (ih (p.args[0]'(show 0 < p.args.length by omega)) (List.getElem_mem _) l hin (by have h9 := flat_le (f := srM) (show 0 < p.args.length by omega); rw [← srM_in hl] at h9; omega) H hx) rfl rfl rfl) rfl rfl rfl ?_
      refine LexK.q (q_pkT rfl rfl rfl) rfl rfl rfl ?_
      refine LexK.qB (q_mvC rfl rfl) rfl rfl rfl (fun g89 => ?_) (fun g89 => ?_)
      ·
       refine LexK.on (q_mvC rfl rfl) rfl rfl rfl rfl rfl ?_
       refine LexK.on (q_fieldL _ rfl Fx.fl30_5 rfl rfl) rfl rfl rfl rfl rfl ?_
       refine LexK.rOn (b_load (r := .a _) rfl Fx.ty28 rfl rfl rfl rfl rfl rfl) rfl rfl rfl ?_
       refine LexK.on (q_index _ rfl Fx.sl28 rfl rfl (by omega) (idx_pl (show 1 < p.args.length by omega))) rfl rfl rfl rfl rfl ?_
       refine LexK.on (q_load (.g [_, _, _, _, _, _, _, _, _, _, _, _, _]) rfl Fx.ty30 rfl rfl rfl) rfl rfl rfl rfl rfl ?_
       refine LexK.on (q_mvC rfl rfl) rfl rfl rfl rfl rfl ?_
       refine LexK.on (q_fieldL _ rfl Fx.fl30_5 rfl rfl) rfl rfl rfl rfl rfl ?_
       refine LexK.rOn (b_load (r := .a _) rfl Fx.ty28 rfl rfl rfl rfl rfl rfl) rfl rfl rfl ?_
       refine LexK.on (q_index _ rfl Fx.sl28 rfl rfl (by omega) (idx_pl (show 0 < p.args.length by omega))) rfl rfl rfl rfl rfl ?_
       refine LexK.on (q_load (.g [_, _, _, _, _, _, _, _, _, _, _, _, _]) rfl Fx.ty30 rfl rfl rfl) rfl rfl rfl rfl rfl ?_
       refine LexK.on (q_call _ rfl Fx.fn8 rfl (srcs_any (p.args[0]'(show 0 < p.args.length by omega)) (k5 _ (List.getElem_mem _)) (by have h9 := flat_le (f := srM) (show 0 < p.args.length by omega); rw [← srM_in hl] at h9; omega)) rfl) rfl rfl rfl rfl rfl ?_
       refine LexK.on (q_buildSlice _ rfl Fx.el68 rfl (by decide) rfl) rfl rfl rfl rfl rfl ?_
       refine LexK.on (q_call _ rfl Fx.fn59 rfl (catI_any l (srM (p.args[0]'(show 0 < p.args.length by omega))) (by have h9 := flat_le (f := srM) (show 0 < p.args.length by omega); rw [← srM_in hl] at h9; omega)) rfl) rfl rfl rfl rfl rfl ?_
       refine LexK.rOn (g_call rfl Fx.fn32 rfl (ih (p.args[1]'(show 1 < p.args.length by omega)) (List.getElem_mem _) (l ++ srM (p.args[0]'(show 0 < p.args.length by omega))) (inP_app hin (shB_in (p.args[0]'(show 0 < p.args.length by omega)) l (by assumption))) (by have h9 := congrArg List.length (sr_two hl (show p.args.length = 2 by omega)); rw [List.length_append] at h9 ⊢; omega) H hx) rfl rfl rfl) rfl rfl rfl ?_
       refine LexK.q (q_pkT rfl rfl rfl) rfl rfl rfl ?_
       refine LexK.q (q_asC rfl rfl) rfl rfl rfl ?_
       refine LexK.nil (by kernel_rfl) ?_
       refine AW.ret ?_
       exact fin_x (x := .c _) (H) (.tmp rfl .nil) rfl (fun _ _ h => h) (⟨bCe (by first | (rw [shB_5 hn h37 (by omega)]; first | (rw [g80, g89]; rfl) | (rw [g89]; simp; done) | (rw [g80]; rfl)) | (rw [shB_5n hn h37 (by omega)])), rfl⟩)
      iterate 14 refine LexK.off rfl rfl rfl rfl rfl rfl ?_
      refine LexK.q (q_pkF rfl rfl rfl) rfl rfl rfl ?_
      refine LexK.q (q_asC rfl rfl) rfl rfl rfl ?_
      refine LexK.nil (by kernel_rfl) ?_
      refine AW.ret ?_
      exact fin_x (x := .c _) (H) (.tmp rfl .nil) rfl (fun _ _ h => h) (⟨bCe (by first | (rw [shB_5 hn h37 (by omega)]; first | (rw [g80, g89]; rfl) | (rw [g89]; simp; done) | (rw [g80]; rfl)) | (rw [shB_5n hn h37 (by omega)])), rfl⟩)
     iterate 7 refine LexK.off rfl rfl rfl rfl rfl rfl ?_
     refine LexK.q (q_pkF rfl rfl rfl) rfl rfl rfl ?_
     refine LexK.q (q_mvC rfl rfl) rfl rfl rfl ?_
     iterate 14 refine LexK.off rfl rfl rfl rfl rfl rfl ?_
     refine LexK.q (q_pkF rfl rfl rfl) rfl rfl rfl ?_
     refine LexK.q (q_asC rfl rfl) rfl rfl rfl ?_
     refine LexK.nil (by kernel_rfl) ?_
     refine AW.ret ?_
     exact fin_x (x := .c _) (H) (.tmp rfl .nil) rfl (fun _ _ h => h) (⟨bCe (by first | (rw [shB_5 hn h37 (by omega)]; first | (rw [g80, g89]; rfl) | (rw [g89]; simp; done) | (rw [g80]; rfl)) | (rw [shB_5n hn h37 (by omega)])), rfl⟩)
    have hq : ¬ p.args.length = 2 := by have h9 := g75; rw [List.length_map] at h9; omega
    iterate 3 refine LexK.off rfl rfl rfl rfl rfl rfl ?_
    refine LexK.q (q_pkF rfl rfl rfl) rfl rfl rfl ?_
    refine LexK.q (q_mvC rfl rfl) rfl rfl rfl ?_
    iterate 7 refine LexK.off rfl rfl rfl rfl rfl rfl ?_
    refine LexK.q (q_pkF rfl rfl rfl) rfl rfl rfl ?_
    refine LexK.q (q_mvC rfl rfl) rfl rfl rfl ?_
    iterate 14 refine LexK.off rfl rfl rfl rfl rfl rfl ?_
    refine LexK.q (q_pkF rfl rfl rfl) rfl rfl rfl ?_
    refine LexK.q (q_asC rfl rfl) rfl rfl rfl ?_
    refine LexK.nil (by kernel_rfl) ?_
    refine AW.ret ?_
    exact fin_x (x := .c _) (H) (.tmp rfl .nil) rfl (fun _ _ h => h) (⟨bCe (by first | (rw [shB_5 hn h37 (by omega)]; first | (rw [g80, g89]; rfl) | (rw [g89]; simp; done) | (rw [g80]; rfl)) | (rw [shB_5n hn h37 (by omega)])), rfl⟩)
   refine AW.seq ?_
   have hno : shB d0 b p l = false := shB_no (by omega) (by omega)
   refine AW.reg ?_
   refine sA ?_
   refine SeqK.nil ?_
   refine AW.ret ?_
   exact fin_x (x := .c _) (H) (.tmp rfl .nil) rfl (fun _ _ h => h) (⟨bCe hno.symm, rfl⟩)
  refine AW.reg ?_
  refine SeqK.q (q_eql rfl rfl rfl) rfl rfl rfl ?_
  refine sA ?_
  refine SeqK.nil ?_
  refine AW.condD rfl (fun h17 => ?_) (fun h17 => ?_)
  ·
   refine sR ?_
   refine SeqK.q (q_fieldL _ rfl Fx.fl30_1 rfl rfl) rfl rfl rfl ?_
   refine SeqK.r (b_load (r := .a _) rfl Fx.ty3 rfl rfl rfl rfl rfl rfl) rfl ?_
   refine SeqK.q (q_neq rfl rfl rfl) rfl rfl rfl ?_
   refine SeqK.qD (q_mvC rfl rfl) rfl rfl rfl (fun g23 => ?_) (fun g23 => ?_)
   ·
    iterate 4 refine SeqK.off rfl rfl rfl rfl rfl rfl ?_
    refine SeqK.q (q_pkT rfl rfl rfl) rfl rfl rfl ?_
    refine sM ?_
    iterate 4 refine SeqK.off rfl rfl rfl rfl rfl rfl ?_
    refine SeqK.q (q_pkT rfl rfl rfl) rfl rfl rfl ?_
    refine SeqK.nil ?_
    refine AW.condT rfl ?_
    refine AW.seq ?_
    have hno : shB d0 b p l = false := shB_no (by omega) (by first | omega | (simp only [List.length_map] at *; omega))
    refine AW.reg ?_
    refine sA ?_
    refine SeqK.nil ?_
    refine AW.ret ?_
    exact fin_x (x := .c _) (H) (.tmp rfl .nil) rfl (fun _ _ h => h) (⟨bCe hno.symm, rfl⟩)
   refine SeqK.on (q_fieldL _ rfl Fx.fl30_2 rfl rfl) rfl rfl rfl rfl rfl ?_
   refine SeqK.rOn (b_load (r := .a _) rfl Fx.ty22 rfl rfl rfl rfl rfl rfl) rfl rfl rfl ?_
   refine SeqK.on (q_len rfl Fx.un22 rfl) rfl rfl rfl rfl rfl ?_
   refine SeqK.on (q_gtr rfl rfl rfl) rfl rfl rfl rfl rfl ?_
   refine SeqK.q (q_pkF rfl rfl rfl) rfl rfl rfl ?_
   refine SeqK.qD (q_mvC rfl rfl) rfl rfl rfl (fun g29 => ?_) (fun g29 => ?_)
   ·
    iterate 4 refine SeqK.off rfl rfl rfl rfl rfl rfl ?_
    refine SeqK.q (q_pkT rfl rfl rfl) rfl rfl rfl ?_
    refine SeqK.nil ?_
    refine AW.condT rfl ?_
    refine AW.seq ?_
    have hno : shB d0 b p l = false := shB_no (by omega) (by first | omega | (simp only [List.length_map] at *; omega))
    refine AW.reg ?_
    refine sA ?_
    refine SeqK.nil ?_
    refine AW.ret ?_
    exact fin_x (x := .c _) (H) (.tmp rfl .nil) rfl (fun _ _ h => h) (⟨bCe hno.symm, rfl⟩)
   refine SeqK.on (q_fieldL _ rfl Fx.fl30_3 rfl rfl) rfl rfl rfl rfl rfl ?_
   refine SeqK.rOn (b_load (r := .a _) rfl Fx.ty23 rfl rfl rfl rfl rfl rfl) rfl rfl rfl ?_
   refine SeqK.on (q_len rfl Fx.un23 rfl) rfl rfl rfl rfl rfl ?_
   refine SeqK.on (q_gtr rfl rfl rfl) rfl rfl rfl rfl rfl ?_
   refine SeqK.q (q_pkF rfl rfl rfl) rfl rfl rfl ?_
   refine SeqK.nil ?_
   refine AW.condD rfl (fun h34 => ?_) (fun h34 => ?_)
   ·
    refine AW.seq ?_
    have hno : shB d0 b p l = false := shB_no (by omega) (by first | omega | (simp only [List.length_map] at *; omega))
    refine AW.reg ?_
    refine sA ?_
    refine SeqK.nil ?_
    refine AW.ret ?_
    exact fin_x (x := .c _) (H) (.tmp rfl .nil) rfl (fun _ _ h => h) (⟨bCe hno.symm, rfl⟩)
   refine AW.skip ?_
   refine AW.seq ?_
   refine AW.seq ?_
   have hl : ¬ lfK p := by omega
   have hn : npP p := by simp only [List.length_map] at *; omega
   refine AW.reg ?_
   refine SeqK.q (q_fieldL _ rfl Fx.fl30_0 rfl rfl) rfl rfl rfl ?_
   refine SeqK.r (b_load (r := .a _) rfl Fx.ty3 rfl rfl rfl rfl rfl rfl) rfl ?_
   refine SeqK.q (q_eql rfl rfl rfl) rfl rfl rfl ?_
   refine SeqK.nil ?_
   refine AW.condD rfl (fun h37 => ?_) (fun h37 => ?_)
   ·
    refine AW.seq ?_
    refine AW.draw Fx.mo ?_
    refine LexK.q (q_fieldL _ rfl Fx.fl30_5 rfl rfl) rfl rfl rfl ?_
    refine LexK.r (b_load (r := .a _) rfl Fx.ty28 rfl rfl rfl rfl rfl rfl) rfl ?_
    refine LexK.q (q_len rfl Fx.un28 rfl) rfl rfl rfl ?_
    refine LexK.q (q_eql rfl rfl rfl) rfl rfl rfl ?_
    refine LexK.qD (q_mvC rfl rfl) rfl rfl rfl (fun g42 => ?_) (fun g42 => ?_)
    ·
     have hq : p.args.length = 1 := by have h9 := g42; rw [List.length_map] at h9; omega
     refine LexK.on (q_fieldL _ rfl Fx.fl30_4 rfl rfl) rfl rfl rfl rfl rfl ?_
     refine LexK.on (q_fieldL _ rfl Fx.fl27_0 rfl rfl) rfl rfl rfl rfl rfl ?_
     refine LexK.rOn (b_load (r := .a _) rfl Fx.ty3 rfl rfl rfl rfl rfl rfl) rfl rfl rfl ?_
     refine LexK.on (q_neq rfl rfl rfl) rfl rfl rfl rfl rfl ?_
     refine LexK.q (q_pkT rfl rfl rfl) rfl rfl rfl ?_
     refine LexK.qD (q_mvC rfl rfl) rfl rfl rfl (fun g48 => ?_) (fun g48 => ?_)
     ·
      refine LexK.on (q_mvC rfl rfl) rfl rfl rfl rfl rfl ?_
      refine LexK.on (q_fieldL _ rfl Fx.fl30_5 rfl rfl) rfl rfl rfl rfl rfl ?_
      refine LexK.rOn (b_load (r := .a _) rfl Fx.ty28 rfl rfl rfl rfl rfl rfl) rfl rfl rfl ?_
      refine LexK.on (q_index _ rfl Fx.sl28 rfl rfl (by omega) (idx_pl (show 0 < p.args.length by omega))) rfl rfl rfl rfl rfl ?_
      refine LexK.on (q_load (.g [_, _, _, _, _, _, _, _, _, _, _, _, _]) rfl Fx.ty30 rfl rfl rfl) rfl rfl rfl rfl rfl ?_
      refine LexK.on (q_mvC rfl rfl) rfl rfl rfl rfl rfl ?_
      refine LexK.rOn (g_call rfl Fx.fn32 rfl (ih (p.args[0]'(show 0 < p.args.length by omega)) (List.getElem_mem _) l hin (by have h9 := flat_le (f := srM) (show 0 < p.args.length by omega); rw [← srM_in hl] at h9; omega) H hx) rfl rfl rfl) rfl rfl rfl ?_
      refine LexK.q (q_pkT rfl rfl rfl) rfl rfl rfl ?_
      refine LexK.qB (q_mvC rfl rfl) rfl rfl rfl (fun g57 => ?_) (fun g57 => ?_)
      ·
       refine LexK.on (q_mvC rfl rfl) rfl rfl rfl rfl rfl ?_
       refine LexK.on (q_fieldL _ rfl Fx.fl30_4 rfl rfl) rfl rfl rfl rfl rfl ?_
       refine LexK.rOn (b_load (r := .g [_, _, _, _, _, _, _, _]) rfl Fx.ty27 rfl rfl rfl rfl rfl rfl) rfl rfl rfl ?_
       refine LexK.on (q_mvC rfl rfl) rfl rfl rfl rfl rfl ?_
       refine LexK.on (q_fieldL _ rfl Fx.fl30_5 rfl rfl) rfl rfl rfl rfl rfl ?_
       refine LexK.rOn (b_load (r := .a _) rfl Fx.ty28 rfl rfl rfl rfl rfl rfl) rfl rfl rfl ?_
       refine LexK.on (q_index _ rfl Fx.sl28 rfl rfl (by omega) (idx_pl (show 0 < p.args.length by omega))) rfl rfl rfl rfl rfl ?_
       refine LexK.on (q_load (.g [_, _, _, _, _, _, _, _, _, _, _, _, _]) rfl Fx.ty30 rfl rfl rfl) rfl rfl rfl rfl rfl ?_
       refine LexK.on (q_call _ rfl Fx.fn8 rfl (srcs_any (p.args[0]'(show 0 < p.args.length by omega)) (k5 _ (List.getElem_mem _)) (by have h9 := flat_le (f := srM) (show 0 < p.args.length by omega); rw [← srM_in hl] at h9; omega)) rfl) rfl rfl rfl rfl rfl ?_
       refine LexK.on (q_buildSlice _ rfl Fx.el68 rfl (by decide) rfl) rfl rfl rfl rfl rfl ?_
       refine LexK.on (q_call _ rfl Fx.fn59 rfl (catI_any l (srM (p.args[0]'(show 0 < p.args.length by omega))) (by have h9 := flat_le (f := srM) (show 0 < p.args.length by omega); rw [← srM_in hl] at h9; omega)) rfl) rfl rfl rfl rfl rfl ?_
       refine LexK.rOn (g_call rfl Fx.fn58 rfl (over_any kx d0 b (l ++ srM (p.args[0]'(show 0 < p.args.length by omega))) hb (by rw [List.length_append]; exact Nat.le_trans (by have h9 := flat_le (f := srM) (show 0 < p.args.length by omega); rw [← srM_in hl] at h9; omega) (by omega : 1000000 ≤ _)) (inP_app hin (shB_in (p.args[0]'(show 0 < p.args.length by omega)) l (by assumption))) p.flt kf H hx) rfl rfl rfl) rfl rfl rfl ?_
       refine LexK.q (q_pkT rfl rfl rfl) rfl rfl rfl ?_
       refine LexK.q (q_asC rfl rfl) rfl rfl rfl ?_
       refine LexK.nil (by kernel_rfl) ?_
       refine AW.ret ?_
       exact fin_x (x := .c _) (H) (.tmp rfl .nil) rfl (fun _ _ h => h) (⟨bCe (by first | (rw [shB_4 hn h37 (by omega)]; first | (rw [decide_eq_true g48, g57]; rfl) | (rw [g57]; simp; done) | (rw [decide_eq_false g48]; rfl)) | (rw [shB_4n hn h37 (by omega)])), rfl⟩)
      iterate 12 refine LexK.off rfl rfl rfl rfl rfl rfl ?_
      refine LexK.q (q_pkF rfl rfl rfl) rfl rfl rfl ?_
      refine LexK.q (q_asC rfl rfl) rfl rfl rfl ?_
      refine LexK.nil (by kernel_rfl) ?_
      refine AW.ret ?_
      exact fin_x (x := .c _) (H) (.tmp rfl .nil) rfl (fun _ _ h => h) (⟨bCe (by first | (rw [shB_4 hn h37 (by omega)]; first | (rw [decide_eq_true g48, g57]; rfl) | (rw [g57]; simp; done) | (rw [decide_eq_false g48]; rfl)) | (rw [shB_4n hn h37 (by omega)])), rfl⟩)
     iterate 7 refine LexK.off rfl rfl rfl rfl rfl rfl ?_
     refine LexK.q (q_pkF rfl rfl rfl) rfl rfl rfl ?_
     refine LexK.q (q_mvC rfl rfl) rfl rfl rfl ?_
     iterate 12 refine LexK.off rfl rfl rfl rfl rfl rfl ?_
     refine LexK.q (q_pkF rfl rfl rfl) rfl rfl rfl ?_
     refine LexK.q (q_asC rfl rfl) rfl rfl rfl ?_
     refine LexK.nil (by kernel_rfl) ?_
     refine AW.ret ?_
     exact fin_x (x := .c _) (H) (.tmp rfl .nil) rfl (fun _ _ h => h) (⟨bCe (by first | (rw [shB_4 hn h37 (by omega)]; first | (rw [decide_eq_true g48, g57]; rfl) | (rw [g57]; simp; done) | (rw [decide_eq_false g48]; rfl)) | (rw [shB_4n hn h37 (by omega)])), rfl⟩)
    have hq : ¬ p.args.length = 1 := by have h9 := g42; rw [List.length_map] at h9; omega
    iterate 4 refine LexK.off rfl rfl rfl rfl rfl rfl ?_
    refine LexK.q (q_pkF rfl rfl rfl) rfl rfl rfl ?_
    refine LexK.q (q_mvC rfl rfl) rfl rfl rfl ?_
    iterate 7 refine LexK.off rfl rfl rfl rfl rfl rfl ?_
    refine LexK.q (q_pkF rfl rfl rfl) rfl rfl rfl ?_
    refine LexK.q (q_mvC rfl rfl) rfl rfl rfl ?_
    iterate 12 refine LexK.off rfl rfl rfl rfl rfl rfl ?_
    refine LexK.q (q_pkF rfl rfl rfl) rfl rfl rfl ?_
    refine LexK.q (q_asC rfl rfl) rfl rfl rfl ?_
    refine LexK.nil (by kernel_rfl) ?_
    refine AW.ret ?_
    exact fin_x (x := .c _) (H) (.tmp rfl .nil) rfl (fun _ _ h => h) (⟨bCe (by first | (rw [shB_4 hn h37 (by omega)]; first | (rw [decide_eq_true g48, g57]; rfl) | (rw [g57]; simp; done) | (rw [decide_eq_false g48]; rfl)) | (rw [shB_4n hn h37 (by omega)])), rfl⟩)
   refine AW.skip ?_
   refine AW.seq ?_
   refine AW.draw Fx.mo ?_
   refine LexK.q (q_fieldL _ rfl Fx.fl30_5 rfl rfl) rfl rfl rfl ?_
   refine LexK.r (b_load (r := .a _) rfl Fx.ty28 rfl rfl rfl rfl rfl rfl) rfl ?_
   refine LexK.q (q_len rfl Fx.un28 rfl) rfl rfl rfl ?_
   refine LexK.q (q_eql rfl rfl rfl) rfl rfl rfl ?_
   refine LexK.qD (q_mvC rfl rfl) rfl rfl rfl (fun g75 => ?_) (fun g75 => ?_)
   ·
    have hq : p.args.length = 2 := by have h9 := g75; rw [List.length_map] at h9; omega
    refine LexK.on (q_fieldL _ rfl Fx.fl30_4 rfl rfl) rfl rfl rfl rfl rfl ?_
    refine LexK.rOn (b_load (r := .g [_, _, _, _, _, _, _, _]) rfl Fx.ty27 rfl rfl rfl rfl rfl rfl) rfl rfl rfl ?_
    refine LexK.on (q_call _ rfl Fx.fn60 rfl (absent_any p.flt kf) rfl) rfl rfl rfl rfl rfl ?_
    refine LexK.q (q_pkT rfl rfl rfl) rfl rfl rfl ?_
    refine LexK.qB (q_mvC rfl rfl) rfl rfl rfl (fun g80 => ?_) (fun g80 => ?_)
    ·
     refine LexK.on (q_mvC rfl rfl) rfl rfl rfl rfl rfl ?_
     refine LexK.on (q_fieldL _ rfl Fx.fl30_5 rfl rfl) rfl rfl rfl rfl rfl ?_
     refine LexK.rOn (b_load (r := .a _) rfl Fx.ty28 rfl rfl rfl rfl rfl rfl) rfl rfl rfl ?_
     refine LexK.on (q_index _ rfl Fx.sl28 rfl rfl (by omega) (idx_pl (show 0 < p.args.length by omega))) rfl rfl rfl rfl rfl ?_
     refine LexK.on (q_load (.g [_, _, _, _, _, _, _, _, _, _, _, _, _]) rfl Fx.ty30 rfl rfl rfl) rfl rfl rfl rfl rfl ?_
     refine LexK.on (q_mvC rfl rfl) rfl rfl rfl rfl rfl ?_
     refine LexK.rOn (g_call rfl Fx.fn32 rfl (ih (p.args[0]'(show 0 < p.args.length by omega)) (List.getElem_mem _) l hin (by have h9 := flat_le (f := srM) (show 0 < p.args.length by omega); rw [← srM_in hl] at h9; omega) H hx) rfl rfl rfl) rfl rfl rfl ?_
     refine LexK.q (q_pkT rfl rfl rfl) rfl rfl rfl ?_
     refine LexK.qB (q_mvC rfl rfl) rfl rfl rfl (fun g89 => ?_) (fun g89 => ?_)
     ·
      refine LexK.on (q_mvC rfl rfl) rfl rfl rfl rfl rfl ?_
      refine LexK.on (q_fieldL _ rfl Fx.fl30_5 rfl rfl) rfl rfl rfl rfl rfl ?_
      refine LexK.rOn (b_load (r := .a _) rfl Fx.ty28 rfl rfl rfl rfl rfl rfl) rfl rfl rfl ?_
      refine LexK.on (q_index _ rfl Fx.sl28 rfl rfl (by omega) (idx_pl (show 1 < p.args.length by omega))) rfl rfl rfl rfl rfl ?_
      refine LexK.on (q_load (.g [_, _, _, _, _, _, _, _, _, _, _, _, _]) rfl Fx.ty30 rfl rfl rfl) rfl rfl rfl rfl rfl ?_
      refine LexK.on (q_mvC rfl rfl) rfl rfl rfl rfl rfl ?_
      refine LexK.on (q_fieldL _ rfl Fx.fl30_5 rfl rfl) rfl rfl rfl rfl rfl ?_
      refine LexK.rOn (b_load (r := .a _) rfl Fx.ty28 rfl rfl rfl rfl rfl rfl) rfl rfl rfl ?_
      refine LexK.on (q_index _ rfl Fx.sl28 rfl rfl (by omega) (idx_pl (show 0 < p.args.length by omega))) rfl rfl rfl rfl rfl ?_
      refine LexK.on (q_load (.g [_, _, _, _, _, _, _, _, _, _, _, _, _]) rfl Fx.ty30 rfl rfl rfl) rfl rfl rfl rfl rfl ?_
      refine LexK.on (q_call _ rfl Fx.fn8 rfl (srcs_any (p.args[0]'(show 0 < p.args.length by omega)) (k5 _ (List.getElem_mem _)) (by have h9 := flat_le (f := srM) (show 0 < p.args.length by omega); rw [← srM_in hl] at h9; omega)) rfl) rfl rfl rfl rfl rfl ?_
      refine LexK.on (q_buildSlice _ rfl Fx.el68 rfl (by decide) rfl) rfl rfl rfl rfl rfl ?_
      refine LexK.on (q_call _ rfl Fx.fn59 rfl (catI_any l (srM (p.args[0]'(show 0 < p.args.length by omega))) (by have h9 := flat_le (f := srM) (show 0 < p.args.length by omega); rw [← srM_in hl] at h9; omega)) rfl) rfl rfl rfl rfl rfl ?_
      refine LexK.rOn (g_call rfl Fx.fn32 rfl (ih (p.args[1]'(show 1 < p.args.length by omega)) (List.getElem_mem _) (l ++ srM (p.args[0]'(show 0 < p.args.length by omega))) (inP_app hin (shB_in (p.args[0]'(show 0 < p.args.length by omega)) l (by assumption))) (by have h9 := congrArg List.length (sr_two hl (show p.args.length = 2 by omega)); rw [List.length_append] at h9 ⊢; omega) H hx) rfl rfl rfl) rfl rfl rfl ?_
      refine LexK.q (q_pkT rfl rfl rfl) rfl rfl rfl ?_
      refine LexK.q (q_asC rfl rfl) rfl rfl rfl ?_
      refine LexK.nil (by kernel_rfl) ?_
      refine AW.ret ?_
      exact fin_x (x := .c _) (H) (.tmp rfl .nil) rfl (fun _ _ h => h) (⟨bCe (by first | (rw [shB_5 hn h37 (by omega)]; first | (rw [g80, g89]; rfl) | (rw [g89]; simp; done) | (rw [g80]; rfl)) | (rw [shB_5n hn h37 (by omega)])), rfl⟩)
     iterate 14 refine LexK.off rfl rfl rfl rfl rfl rfl ?_
     refine LexK.q (q_pkF rfl rfl rfl) rfl rfl rfl ?_
     refine LexK.q (q_asC rfl rfl) rfl rfl rfl ?_
     refine LexK.nil (by kernel_rfl) ?_
     refine AW.ret ?_
     exact fin_x (x := .c _) (H) (.tmp rfl .nil) rfl (fun _ _ h => h) (⟨bCe (by first | (rw [shB_5 hn h37 (by omega)]; first | (rw [g80, g89]; rfl) | (rw [g89]; simp; done) | (rw [g80]; rfl)) | (rw [shB_5n hn h37 (by omega)])), rfl⟩)
    iterate 7 refine LexK.off rfl rfl rfl rfl rfl rfl ?_
    refine LexK.q (q_pkF rfl rfl rfl) rfl rfl rfl ?_
    refine LexK.q (q_mvC rfl rfl) rfl rfl rfl ?_
    iterate 14 refine LexK.off rfl rfl rfl rfl rfl rfl ?_
    refine LexK.q (q_pkF rfl rfl rfl) rfl rfl rfl ?_
    refine LexK.q (q_asC rfl rfl) rfl rfl rfl ?_
    refine LexK.nil (by kernel_rfl) ?_
    refine AW.ret ?_
    exact fin_x (x := .c _) (H) (.tmp rfl .nil) rfl (fun _ _ h => h) (⟨bCe (by first | (rw [shB_5 hn h37 (by omega)]; first | (rw [g80, g89]; rfl) | (rw [g89]; simp; done) | (rw [g80]; rfl)) | (rw [shB_5n hn h37 (by omega)])), rfl⟩)
   have hq : ¬ p.args.length = 2 := by have h9 := g75; rw [List.length_map] at h9; omega
   iterate 3 refine LexK.off rfl rfl rfl rfl rfl rfl ?_
   refine LexK.q (q_pkF rfl rfl rfl) rfl rfl rfl ?_
   refine LexK.q (q_mvC rfl rfl) rfl rfl rfl ?_
   iterate 7 refine LexK.off rfl rfl rfl rfl rfl rfl ?_
   refine LexK.q (q_pkF rfl rfl rfl) rfl rfl rfl ?_
   refine LexK.q (q_mvC rfl rfl) rfl rfl rfl ?_
   iterate 14 refine LexK.off rfl rfl rfl rfl rfl rfl ?_
   refine LexK.q (q_pkF rfl rfl rfl) rfl rfl rfl ?_
   refine LexK.q (q_asC rfl rfl) rfl rfl rfl ?_
   refine LexK.nil (by kernel_rfl) ?_
   refine AW.ret ?_
   exact fin_x (x := .c _) (H) (.tmp rfl .nil) rfl (fun _ _ h => h) (⟨bCe (by first | (rw [shB_5 hn h37 (by omega)]; first | (rw [g80, g89]; rfl) | (rw [g89]; simp; done) | (rw [g80]; rfl)) | (rw [shB_5n hn h37 (by omega)])), rfl⟩)
  refine AW.seq ?_
  have hno : shB d0 b p l = false := shB_no (by omega) (by omega)
  refine AW.reg ?_
  refine sA ?_
  refine SeqK.nil ?_
  refine AW.ret ?_
  exact fin_x (x := .c _) (H) (.tmp rfl .nil) rfl (fun _ _ h => h) (⟨bCe hno.symm, rfl⟩)
 refine sR ?_
 refine SeqK.q (q_eql rfl rfl rfl) rfl rfl rfl ?_
 refine sA ?_
 refine SeqK.nil ?_
 refine AW.condD rfl (fun h9 => ?_) (fun h9 => ?_)
 ·
  refine AW.skip ?_
  refine AW.condD rfl (fun h9 => ?_) (fun h9 => ?_)
  ·
   refine sR ?_
   refine sM ?_
   refine SeqK.r (b_load (r := .g [_, _, _, _, _, _, _, _, _, _, _, _, _]) rfl Fx.ty30 rfl rfl rfl rfl rfl rfl) rfl ?_
   refine sM ?_
   refine SeqK.r (g_call rfl Fx.fn57 rfl (leaf_any H kx d0 b hx hb l (by omega) hin p ho) rfl rfl rfl) rfl ?_
   refine sA ?_
   refine SeqK.nil ?_
   refine AW.ret ?_
   exact fin_x (x := .c _) (H) (.tmp rfl .nil) rfl (fun _ _ h => h) (⟨bCe (shB_leaf (by omega)).symm, rfl⟩)
  refine AW.seq ?_
  refine sR ?_
  refine SeqK.q (q_eql rfl rfl rfl) rfl rfl rfl ?_
  refine sA ?_
  refine SeqK.nil ?_
  refine AW.condD rfl (fun h17 => ?_) (fun h17 => ?_)
  ·
   refine AW.skip ?_
   refine AW.condD rfl (fun h17 => ?_) (fun h17 => ?_)
   ·
    refine sR ?_
    refine SeqK.q (q_fieldL _ rfl Fx.fl30_1 rfl rfl) rfl rfl rfl ?_
    refine SeqK.r (b_load (r := .a _) rfl Fx.ty3 rfl rfl rfl rfl rfl rfl) rfl ?_
    refine SeqK.q (q_neq rfl rfl rfl) rfl rfl rfl ?_
    refine SeqK.qD (q_mvC rfl rfl) rfl rfl rfl (fun g23 => ?_) (fun g23 => ?_)
    ·
     iterate 4 refine SeqK.off rfl rfl rfl rfl rfl rfl ?_
     refine SeqK.q (q_pkT rfl rfl rfl) rfl rfl rfl ?_
     refine sM ?_
     iterate 4 refine SeqK.off rfl rfl rfl rfl rfl rfl ?_
     refine SeqK.q (q_pkT rfl rfl rfl) rfl rfl rfl ?_
     refine SeqK.nil ?_
     refine AW.condT rfl ?_
     refine AW.seq ?_
     have hno : shB d0 b p l = false := shB_no (by omega) (by first | omega | (simp only [List.length_map] at *; omega))
     refine AW.reg ?_
     refine sA ?_
     refine SeqK.nil ?_
     refine AW.ret ?_
     exact fin_x (x := .c _) (H) (.tmp rfl .nil) rfl (fun _ _ h => h) (⟨bCe hno.symm, rfl⟩)
    refine SeqK.on (q_fieldL _ rfl Fx.fl30_2 rfl rfl) rfl rfl rfl rfl rfl ?_
    refine SeqK.rOn (b_load (r := .a _) rfl Fx.ty22 rfl rfl rfl rfl rfl rfl) rfl rfl rfl ?_
    refine SeqK.on (q_len rfl Fx.un22 rfl) rfl rfl rfl rfl rfl ?_
    refine SeqK.on (q_gtr rfl rfl rfl) rfl rfl rfl rfl rfl ?_
    refine SeqK.q (q_pkF rfl rfl rfl) rfl rfl rfl ?_
    refine SeqK.qD (q_mvC rfl rfl) rfl rfl rfl (fun g29 => ?_) (fun g29 => ?_)
    ·
     iterate 4 refine SeqK.off rfl rfl rfl rfl rfl rfl ?_
     refine SeqK.q (q_pkT rfl rfl rfl) rfl rfl rfl ?_
     refine SeqK.nil ?_
     refine AW.condT rfl ?_
     refine AW.seq ?_
     have hno : shB d0 b p l = false := shB_no (by omega) (by first | omega | (simp only [List.length_map] at *; omega))
     refine AW.reg ?_
     refine sA ?_
     refine SeqK.nil ?_
     refine AW.ret ?_
     exact fin_x (x := .c _) (H) (.tmp rfl .nil) rfl (fun _ _ h => h) (⟨bCe hno.symm, rfl⟩)
    refine SeqK.on (q_fieldL _ rfl Fx.fl30_3 rfl rfl) rfl rfl rfl rfl rfl ?_
    refine SeqK.rOn (b_load (r := .a _) rfl Fx.ty23 rfl rfl rfl rfl rfl rfl) rfl rfl rfl ?_
    refine SeqK.on (q_len rfl Fx.un23 rfl) rfl rfl rfl rfl rfl ?_
    refine SeqK.on (q_gtr rfl rfl rfl) rfl rfl rfl rfl rfl ?_
    refine SeqK.q (q_pkF rfl rfl rfl) rfl rfl rfl ?_
    refine SeqK.nil ?_
    refine AW.condD rfl (fun h34 => ?_) (fun h34 => ?_)
    ·
     refine AW.seq ?_
     have hno : shB d0 b p l = false := shB_no (by omega) (by first | omega | (simp only [List.length_map] at *; omega))
     refine AW.reg ?_
     refine sA ?_
     refine SeqK.nil ?_
     refine AW.ret ?_
     exact fin_x (x := .c _) (H) (.tmp rfl .nil) rfl (fun _ _ h => h) (⟨bCe hno.symm, rfl⟩)
    refine AW.skip ?_
    refine AW.seq ?_
    refine AW.seq ?_
    have hl : ¬ lfK p := by omega
    have hn : npP p := by simp only [List.length_map] at *; omega
    refine AW.reg ?_
    refine SeqK.q (q_fieldL _ rfl Fx.fl30_0 rfl rfl) rfl rfl rfl ?_
    refine SeqK.r (b_load (r := .a _) rfl Fx.ty3 rfl rfl rfl rfl rfl rfl) rfl ?_
    refine SeqK.q (q_eql rfl rfl rfl) rfl rfl rfl ?_
    refine SeqK.nil ?_
    refine AW.condD rfl (fun h37 => ?_) (fun h37 => ?_)
    ·
     refine AW.seq ?_
     refine AW.draw Fx.mo ?_
     refine LexK.q (q_fieldL _ rfl Fx.fl30_5 rfl rfl) rfl rfl rfl ?_
     refine LexK.r (b_load (r := .a _) rfl Fx.ty28 rfl rfl rfl rfl rfl rfl) rfl ?_
     refine LexK.q (q_len rfl Fx.un28 rfl) rfl rfl rfl ?_
     refine LexK.q (q_eql rfl rfl rfl) rfl rfl rfl ?_
     refine LexK.qD (q_mvC rfl rfl) rfl rfl rfl (fun g42 => ?_) (fun g42 => ?_)
     ·
      have hq : p.args.length = 1 := by have h9 := g42; rw [List.length_map] at h9; omega
      refine LexK.on (q_fieldL _ rfl Fx.fl30_4 rfl rfl) rfl rfl rfl rfl rfl ?_
      refine LexK.on (q_fieldL _ rfl Fx.fl27_0 rfl rfl) rfl rfl rfl rfl rfl ?_
      refine LexK.rOn (b_load (r := .a _) rfl Fx.ty3 rfl rfl rfl rfl rfl rfl) rfl rfl rfl ?_
      refine LexK.on (q_neq rfl rfl rfl) rfl rfl rfl rfl rfl ?_
      refine LexK.q (q_pkT rfl rfl rfl) rfl rfl rfl ?_
      refine LexK.qD (q_mvC rfl rfl) rfl rfl rfl (fun g48 => ?_) (fun g48 => ?_)
      ·
       refine LexK.on (q_mvC rfl rfl) rfl rfl rfl rfl rfl ?_
       refine LexK.on (q_fieldL _ rfl Fx.fl30_5 rfl rfl) rfl rfl rfl rfl rfl ?_
       refine LexK.rOn (b_load (r := .a _) rfl Fx.ty28 rfl rfl rfl rfl rfl rfl) rfl rfl rfl ?_
       refine LexK.on (q_index _ rfl Fx.sl28 rfl rfl (by omega) (idx_pl (show 0 < p.args.length by omega))) rfl rfl rfl rfl rfl ?_
       refine LexK.on (q_load (.g [_, _, _, _, _, _, _, _, _, _, _, _, _]) rfl Fx.ty30 rfl rfl rfl) rfl rfl rfl rfl rfl ?_
       refine LexK.on (q_mvC rfl rfl) rfl rfl rfl rfl rfl ?_
       refine LexK.rOn (g_call rfl Fx.fn32 rfl (ih (p.args[0]'(show 0 < p.args.length by omega)) (List.getElem_mem _) l hin (by have h9 := flat_le (f := srM) (show 0 < p.args.length by omega); rw [← srM_in hl] at h9; omega) H hx) rfl rfl rfl) rfl rfl rfl ?_
       refine LexK.q (q_pkT rfl rfl rfl) rfl rfl rfl ?_
       refine LexK.qB (q_mvC rfl rfl) rfl rfl rfl (fun g57 => ?_) (fun g57 => ?_)
       ·
        refine LexK.on (q_mvC rfl rfl) rfl rfl rfl rfl rfl ?_
        refine LexK.on (q_fieldL _ rfl Fx.fl30_4 rfl rfl) rfl rfl rfl rfl rfl ?_
        refine LexK.rOn (b_load (r := .g [_, _, _, _, _, _, _, _]) rfl Fx.ty27 rfl rfl rfl rfl rfl rfl) rfl rfl rfl ?_
        refine LexK.on (q_mvC rfl rfl) rfl rfl rfl rfl rfl ?_
        refine LexK.on (q_fieldL _ rfl Fx.fl30_5 rfl rfl) rfl rfl rfl rfl rfl ?_
        refine LexK.rOn (b_load (r := .a _) rfl Fx.ty28 rfl rfl rfl rfl rfl rfl) rfl rfl rfl ?_
        refine LexK.on (q_index _ rfl Fx.sl28 rfl rfl (by omega) (idx_pl (show 0 < p.args.length by omega))) rfl rfl rfl rfl rfl ?_
        refine LexK.on (q_load (.g [_, _, _, _, _, _, _, _, _, _, _, _, _]) rfl Fx.ty30 rfl rfl rfl) rfl rfl rfl rfl rfl ?_
        refine LexK.on (q_call _ rfl Fx.fn8 rfl (srcs_any (p.args[0]'(show 0 < p.args.length by omega)) (k5 _ (List.getElem_mem _)) (by have h9 := flat_le (f := srM) (show 0 < p.args.length by omega); rw [← srM_in hl] at h9; omega)) rfl) rfl rfl rfl rfl rfl ?_
        refine LexK.on (q_buildSlice _ rfl Fx.el68 rfl (by decide) rfl) rfl rfl rfl rfl rfl ?_
        refine LexK.on (q_call _ rfl Fx.fn59 rfl (catI_any l (srM (p.args[0]'(show 0 < p.args.length by omega))) (by have h9 := flat_le (f := srM) (show 0 < p.args.length by omega); rw [← srM_in hl] at h9; omega)) rfl) rfl rfl rfl rfl rfl ?_
        refine LexK.rOn (g_call rfl Fx.fn58 rfl (over_any kx d0 b (l ++ srM (p.args[0]'(show 0 < p.args.length by omega))) hb (by rw [List.length_append]; exact Nat.le_trans (by have h9 := flat_le (f := srM) (show 0 < p.args.length by omega); rw [← srM_in hl] at h9; omega) (by omega : 1000000 ≤ _)) (inP_app hin (shB_in (p.args[0]'(show 0 < p.args.length by omega)) l (by assumption))) p.flt kf H hx) rfl rfl rfl) rfl rfl rfl ?_
        refine LexK.q (q_pkT rfl rfl rfl) rfl rfl rfl ?_
        refine LexK.q (q_asC rfl rfl) rfl rfl rfl ?_
        refine LexK.nil (by kernel_rfl) ?_
        refine AW.ret ?_
        exact fin_x (x := .c _) (H) (.tmp rfl .nil) rfl (fun _ _ h => h) (⟨bCe (by first | (rw [shB_4 hn h37 (by omega)]; first | (rw [decide_eq_true g48, g57]; rfl) | (rw [g57]; simp; done) | (rw [decide_eq_false g48]; rfl)) | (rw [shB_4n hn h37 (by omega)])), rfl⟩)
       iterate 12 refine LexK.off rfl rfl rfl rfl rfl rfl ?_
       refine LexK.q (q_pkF rfl rfl rfl) rfl rfl rfl ?_
       refine LexK.q (q_asC rfl rfl) rfl rfl rfl ?_
       refine LexK.nil (by kernel_rfl) ?_
       refine AW.ret ?_
       exact fin_x (x := .c _) (H) (.tmp rfl .nil) rfl (fun _ _ h => h) (⟨bCe (by first | (rw [shB_4 hn h37 (by omega)]; first | (rw [decide_eq_true g48, g57]; rfl) | (rw [g57]; simp; done) | (rw [decide_eq_false g48]; rfl)) | (rw [shB_4n hn h37 (by omega)])), rfl⟩)
      iterate 7 refine LexK.off rfl rfl rfl rfl rfl rfl ?_
      refine LexK.q (q_pkF rfl rfl rfl) rfl rfl rfl ?_
      refine LexK.q (q_mvC rfl rfl) rfl rfl rfl ?_
      iterate 12 refine LexK.off rfl rfl rfl rfl rfl rfl ?_
      refine LexK.q (q_pkF rfl rfl rfl) rfl rfl rfl ?_
      refine LexK.q (q_asC rfl rfl) rfl rfl rfl ?_
      refine LexK.nil (by kernel_rfl) ?_
      refine AW.ret ?_
      exact fin_x (x := .c _) (H) (.tmp rfl .nil) rfl (fun _ _ h => h) (⟨bCe (by first | (rw [shB_4 hn h37 (by omega)]; first | (rw [decide_eq_true g48, g57]; rfl) | (rw [g57]; simp; done) | (rw [decide_eq_false g48]; rfl)) | (rw [shB_4n hn h37 (by omega)])), rfl⟩)
     have hq : ¬ p.args.length = 1 := by have h9 := g42; rw [List.length_map] at h9; omega
     iterate 4 refine LexK.off rfl rfl rfl rfl rfl rfl ?_
     refine LexK.q (q_pkF rfl rfl rfl) rfl rfl rfl ?_
     refine LexK.q (q_mvC rfl rfl) rfl rfl rfl ?_
     iterate 7 refine LexK.off rfl rfl rfl rfl rfl rfl ?_
     refine LexK.q (q_pkF rfl rfl rfl) rfl rfl rfl ?_
     refine LexK.q (q_mvC rfl rfl) rfl rfl rfl ?_
     iterate 12 refine LexK.off rfl rfl rfl rfl rfl rfl ?_
     refine LexK.q (q_pkF rfl rfl rfl) rfl rfl rfl ?_
     refine LexK.q (q_asC rfl rfl) rfl rfl rfl ?_
     refine LexK.nil (by kernel_rfl) ?_
     refine AW.ret ?_
     exact fin_x (x := .c _) (H) (.tmp rfl .nil) rfl (fun _ _ h => h) (⟨bCe (by first | (rw [shB_4 hn h37 (by omega)]; first | (rw [decide_eq_true g48, g57]; rfl) | (rw [g57]; simp; done) | (rw [decide_eq_false g48]; rfl)) | (rw [shB_4n hn h37 (by omega)])), rfl⟩)
    refine AW.skip ?_
    refine AW.seq ?_
    refine AW.draw Fx.mo ?_
    refine LexK.q (q_fieldL _ rfl Fx.fl30_5 rfl rfl) rfl rfl rfl ?_
    refine LexK.r (b_load (r := .a _) rfl Fx.ty28 rfl rfl rfl rfl rfl rfl) rfl ?_
    refine LexK.q (q_len rfl Fx.un28 rfl) rfl rfl rfl ?_
    refine LexK.q (q_eql rfl rfl rfl) rfl rfl rfl ?_
    refine LexK.qD (q_mvC rfl rfl) rfl rfl rfl (fun g75 => ?_) (fun g75 => ?_)
    ·
     have hq : p.args.length = 2 := by have h9 := g75; rw [List.length_map] at h9; omega
     refine LexK.on (q_fieldL _ rfl Fx.fl30_4 rfl rfl) rfl rfl rfl rfl rfl ?_
     refine LexK.rOn (b_load (r := .g [_, _, _, _, _, _, _, _]) rfl Fx.ty27 rfl rfl rfl rfl rfl rfl) rfl rfl rfl ?_
     refine LexK.on (q_call _ rfl Fx.fn60 rfl (absent_any p.flt kf) rfl) rfl rfl rfl rfl rfl ?_
     refine LexK.q (q_pkT rfl rfl rfl) rfl rfl rfl ?_
     refine LexK.qB (q_mvC rfl rfl) rfl rfl rfl (fun g80 => ?_) (fun g80 => ?_)
     ·
      refine LexK.on (q_mvC rfl rfl) rfl rfl rfl rfl rfl ?_
      refine LexK.on (q_fieldL _ rfl Fx.fl30_5 rfl rfl) rfl rfl rfl rfl rfl ?_
      refine LexK.rOn (b_load (r := .a _) rfl Fx.ty28 rfl rfl rfl rfl rfl rfl) rfl rfl rfl ?_
      refine LexK.on (q_index _ rfl Fx.sl28 rfl rfl (by omega) (idx_pl (show 0 < p.args.length by omega))) rfl rfl rfl rfl rfl ?_
      refine LexK.on (q_load (.g [_, _, _, _, _, _, _, _, _, _, _, _, _]) rfl Fx.ty30 rfl rfl rfl) rfl rfl rfl rfl rfl ?_
      refine LexK.on (q_mvC rfl rfl) rfl rfl rfl rfl rfl ?_
      refine LexK.rOn (g_call rfl Fx.fn32 rfl (ih (p.args[0]'(show 0 < p.args.length by omega)) (List.getElem_mem _) l hin (by have h9 := flat_le (f := srM) (show 0 < p.args.length by omega); rw [← srM_in hl] at h9; omega) H hx) rfl rfl rfl) rfl rfl rfl ?_
      refine LexK.q (q_pkT rfl rfl rfl) rfl rfl rfl ?_
      refine LexK.qB (q_mvC rfl rfl) rfl rfl rfl (fun g89 => ?_) (fun g89 => ?_)
      ·
       refine LexK.on (q_mvC rfl rfl) rfl rfl rfl rfl rfl ?_
       refine LexK.on (q_fieldL _ rfl Fx.fl30_5 rfl rfl) rfl rfl rfl rfl rfl ?_
       refine LexK.rOn (b_load (r := .a _) rfl Fx.ty28 rfl rfl rfl rfl rfl rfl) rfl rfl rfl ?_
       refine LexK.on (q_index _ rfl Fx.sl28 rfl rfl (by omega) (idx_pl (show 1 < p.args.length by omega))) rfl rfl rfl rfl rfl ?_
       refine LexK.on (q_load (.g [_, _, _, _, _, _, _, _, _, _, _, _, _]) rfl Fx.ty30 rfl rfl rfl) rfl rfl rfl rfl rfl ?_
       refine LexK.on (q_mvC rfl rfl) rfl rfl rfl rfl rfl ?_
       refine LexK.on (q_fieldL _ rfl Fx.fl30_5 rfl rfl) rfl rfl rfl rfl rfl ?_
       refine LexK.rOn (b_load (r := .a _) rfl Fx.ty28 rfl rfl rfl rfl rfl rfl) rfl rfl rfl ?_
       refine LexK.on (q_index _ rfl Fx.sl28 rfl rfl (by omega) (idx_pl (show 0 < p.args.length by omega))) rfl rfl rfl rfl rfl ?_
       refine LexK.on (q_load (.g [_, _, _, _, _, _, _, _, _, _, _, _, _]) rfl Fx.ty30 rfl rfl rfl) rfl rfl rfl rfl rfl ?_
       refine LexK.on (q_call _ rfl Fx.fn8 rfl (srcs_any (p.args[0]'(show 0 < p.args.length by omega)) (k5 _ (List.getElem_mem _)) (by have h9 := flat_le (f := srM) (show 0 < p.args.length by omega); rw [← srM_in hl] at h9; omega)) rfl) rfl rfl rfl rfl rfl ?_
       refine LexK.on (q_buildSlice _ rfl Fx.el68 rfl (by decide) rfl) rfl rfl rfl rfl rfl ?_
       refine LexK.on (q_call _ rfl Fx.fn59 rfl (catI_any l (srM (p.args[0]'(show 0 < p.args.length by omega))) (by have h9 := flat_le (f := srM) (show 0 < p.args.length by omega); rw [← srM_in hl] at h9; omega)) rfl) rfl rfl rfl rfl rfl ?_
       refine LexK.rOn (g_call rfl Fx.fn32 rfl (ih (p.args[1]'(show 1 < p.args.length by omega)) (List.getElem_mem _) (l ++ srM (p.args[0]'(show 0 < p.args.length by omega))) (inP_app hin (shB_in (p.args[0]'(show 0 < p.args.length by omega)) l (by assumption))) (by have h9 := congrArg List.length (sr_two hl (show p.args.length = 2 by omega)); rw [List.length_append] at h9 ⊢; omega) H hx) rfl rfl rfl) rfl rfl rfl ?_
       refine LexK.q (q_pkT rfl rfl rfl) rfl rfl rfl ?_
       refine LexK.q (q_asC rfl rfl) rfl rfl rfl ?_
       refine LexK.nil (by kernel_rfl) ?_
       refine AW.ret ?_
       exact fin_x (x := .c _) (H) (.tmp rfl .nil) rfl (fun _ _ h => h) (⟨bCe (by first | (rw [shB_5 hn h37 (by omega)]; first | (rw [g80, g89]; rfl) | (rw [g89]; simp; done) | (rw [g80]; rfl)) | (rw [shB_5n hn h37 (by omega)])), rfl⟩)
      iterate 14 refine LexK.off rfl rfl rfl rfl rfl rfl ?_
      refine LexK.q (q_pkF rfl rfl rfl) rfl rfl rfl ?_
      refine LexK.q (q_asC rfl rfl) rfl rfl rfl ?_
      refine LexK.nil (by kernel_rfl) ?_
      refine AW.ret ?_
      exact fin_x (x := .c _) (H) (.tmp rfl .nil) rfl (fun _ _ h => h) (⟨bCe (by first | (rw [shB_5 hn h37 (by omega)]; first | (rw [g80, g89]; rfl) | (rw [g89]; simp; done) | (rw [g80]; rfl)) | (rw [shB_5n hn h37 (by omega)])), rfl⟩)
     iterate 7 refine LexK.off rfl rfl rfl rfl rfl rfl ?_
     refine LexK.q (q_pkF rfl rfl rfl) rfl rfl rfl ?_
     refine LexK.q (q_mvC rfl rfl) rfl rfl rfl ?_
     iterate 14 refine LexK.off rfl rfl rfl rfl rfl rfl ?_
     refine LexK.q (q_pkF rfl rfl rfl) rfl rfl rfl ?_
     refine LexK.q (q_asC rfl rfl) rfl rfl rfl ?_
     refine LexK.nil (by kernel_rfl) ?_
     refine AW.ret ?_
     exact fin_x (x := .c _) (H) (.tmp rfl .nil) rfl (fun _ _ h => h) (⟨bCe (by first | (rw [shB_5 hn h37 (by omega)]; first | (rw [g80, g89]; rfl) | (rw [g89]; simp; done) | (rw [g80]; rfl)) | (rw [shB_5n hn h37 (by omega)])), rfl⟩)
    have hq : ¬ p.args.length = 2 := by have h9 := g75; rw [List.length_map] at h9; omega
    iterate 3 refine LexK.off rfl rfl rfl rfl rfl rfl ?_
    refine LexK.q (q_pkF rfl rfl rfl) rfl rfl rfl ?_
    refine LexK.q (q_mvC rfl rfl) rfl rfl rfl ?_
    iterate 7 refine LexK.off rfl rfl rfl rfl rfl rfl ?_
    refine LexK.q (q_pkF rfl rfl rfl) rfl rfl rfl ?_
    refine LexK.q (q_mvC rfl rfl) rfl rfl rfl ?_
    iterate 14 refine LexK.off rfl rfl rfl rfl rfl rfl ?_
    refine LexK.q (q_pkF rfl rfl rfl) rfl rfl rfl ?_
    refine LexK.q (q_asC rfl rfl) rfl rfl rfl ?_
    refine LexK.nil (by kernel_rfl) ?_
    refine AW.ret ?_
    exact fin_x (x := .c _) (H) (.tmp rfl .nil) rfl (fun _ _ h => h) (⟨bCe (by first | (rw [shB_5 hn h37 (by omega)]; first | (rw [g80, g89]; rfl) | (rw [g89]; simp; done) | (rw [g80]; rfl)) | (rw [shB_5n hn h37 (by omega)])), rfl⟩)
   refine AW.seq ?_
   have hno : shB d0 b p l = false := shB_no (by omega) (by omega)
   refine AW.reg ?_
   refine sA ?_
   refine SeqK.nil ?_
   refine AW.ret ?_
   exact fin_x (x := .c _) (H) (.tmp rfl .nil) rfl (fun _ _ h => h) (⟨bCe hno.symm, rfl⟩)
  refine AW.reg ?_
  refine SeqK.q (q_eql rfl rfl rfl) rfl rfl rfl ?_
  refine sA ?_
  refine SeqK.nil ?_
  refine AW.condD rfl (fun h17 => ?_) (fun h17 => ?_)
  ·
   refine sR ?_
   refine SeqK.q (q_fieldL _ rfl Fx.fl30_1 rfl rfl) rfl rfl rfl ?_
   refine SeqK.r (b_load (r := .a _) rfl Fx.ty3 rfl rfl rfl rfl rfl rfl) rfl ?_
   refine SeqK.q (q_neq rfl rfl rfl) rfl rfl rfl ?_
   refine SeqK.qD (q_mvC rfl rfl) rfl rfl rfl (fun g23 => ?_) (fun g23 => ?_)
   ·
    iterate 4 refine SeqK.off rfl rfl rfl rfl rfl rfl ?_
    refine SeqK.q (q_pkT rfl rfl rfl) rfl rfl rfl ?_
    refine sM ?_
    iterate 4 refine SeqK.off rfl rfl rfl rfl rfl rfl ?_
    refine SeqK.q (q_pkT rfl rfl rfl) rfl rfl rfl ?_
    refine SeqK.nil ?_
    refine AW.condT rfl ?_
    refine AW.seq ?_
    have hno : shB d0 b p l = false := shB_no (by omega) (by first | omega | (simp only [List.length_map] at *; omega))
    refine AW.reg ?_
    refine sA ?_
    refine SeqK.nil ?_
    refine AW.ret ?_
    exact fin_x (x := .c _) (H) (.tmp rfl .nil) rfl (fun _ _ h => h) (⟨bCe hno.symm, rfl⟩)
   refine SeqK.on (q_fieldL _ rfl Fx.fl30_2 rfl rfl) rfl rfl rfl rfl rfl ?_
   refine SeqK.rOn (b_load (r := .a _) rfl Fx.ty22 rfl rfl rfl rfl rfl rfl) rfl rfl rfl ?_
   refine SeqK.on (q_len rfl Fx.un22 rfl) rfl rfl rfl rfl rfl ?_
   refine SeqK.on (q_gtr rfl rfl rfl) rfl rfl rfl rfl rfl ?_
   refine SeqK.q (q_pkF rfl rfl rfl) rfl rfl rfl ?_
   refine SeqK.qD (q_mvC rfl rfl) rfl rfl rfl (fun g29 => ?_) (fun g29 => ?_)
   ·
    iterate 4 refine SeqK.off rfl rfl rfl rfl rfl rfl ?_
    refine SeqK.q (q_pkT rfl rfl rfl) rfl rfl rfl ?_
    refine SeqK.nil ?_
    refine AW.condT rfl ?_
    refine AW.seq ?_
    have hno : shB d0 b p l = false := shB_no (by omega) (by first | omega | (simp only [List.length_map] at *; omega))
    refine AW.reg ?_
    refine sA ?_
    refine SeqK.nil ?_
    refine AW.ret ?_
    exact fin_x (x := .c _) (H) (.tmp rfl .nil) rfl (fun _ _ h => h) (⟨bCe hno.symm, rfl⟩)
   refine SeqK.on (q_fieldL _ rfl Fx.fl30_3 rfl rfl) rfl rfl rfl rfl rfl ?_
   refine SeqK.rOn (b_load (r := .a _) rfl Fx.ty23 rfl rfl rfl rfl rfl rfl) rfl rfl rfl ?_
   refine SeqK.on (q_len rfl Fx.un23 rfl) rfl rfl rfl rfl rfl ?_
   refine SeqK.on (q_gtr rfl rfl rfl) rfl rfl rfl rfl rfl ?_
   refine SeqK.q (q_pkF rfl rfl rfl) rfl rfl rfl ?_
   refine SeqK.nil ?_
   refine AW.condD rfl (fun h34 => ?_) (fun h34 => ?_)
   ·
    refine AW.seq ?_
    have hno : shB d0 b p l = false := shB_no (by omega) (by first | omega | (simp only [List.length_map] at *; omega))
    refine AW.reg ?_
    refine sA ?_
    refine SeqK.nil ?_
    refine AW.ret ?_
    exact fin_x (x := .c _) (H) (.tmp rfl .nil) rfl (fun _ _ h => h) (⟨bCe hno.symm, rfl⟩)
   refine AW.skip ?_
   refine AW.seq ?_
   refine AW.seq ?_
   have hl : ¬ lfK p := by omega
   have hn : npP p := by simp only [List.length_map] at *; omega
   refine AW.reg ?_
   refine SeqK.q (q_fieldL _ rfl Fx.fl30_0 rfl rfl) rfl rfl rfl ?_
   refine SeqK.r (b_load (r := .a _) rfl Fx.ty3 rfl rfl rfl rfl rfl rfl) rfl ?_
   refine SeqK.q (q_eql rfl rfl rfl) rfl rfl rfl ?_
   refine SeqK.nil ?_
   refine AW.condD rfl (fun h37 => ?_) (fun h37 => ?_)
   ·
    refine AW.seq ?_
    refine AW.draw Fx.mo ?_
    refine LexK.q (q_fieldL _ rfl Fx.fl30_5 rfl rfl) rfl rfl rfl ?_
    refine LexK.r (b_load (r := .a _) rfl Fx.ty28 rfl rfl rfl rfl rfl rfl) rfl ?_
    refine LexK.q (q_len rfl Fx.un28 rfl) rfl rfl rfl ?_
    refine LexK.q (q_eql rfl rfl rfl) rfl rfl rfl ?_
    refine LexK.qD (q_mvC rfl rfl) rfl rfl rfl (fun g42 => ?_) (fun g42 => ?_)
    ·
     have hq : p.args.length = 1 := by have h9 := g42; rw [List.length_map] at h9; omega
     refine LexK.on (q_fieldL _ rfl Fx.fl30_4 rfl rfl) rfl rfl rfl rfl rfl ?_
     refine LexK.on (q_fieldL _ rfl Fx.fl27_0 rfl rfl) rfl rfl rfl rfl rfl ?_
     refine LexK.rOn (b_load (r := .a _) rfl Fx.ty3 rfl rfl rfl rfl rfl rfl) rfl rfl rfl ?_
     refine LexK.on (q_neq rfl rfl rfl) rfl rfl rfl rfl rfl ?_
     refine LexK.q (q_pkT rfl rfl rfl) rfl rfl rfl ?_
     refine LexK.qD (q_mvC rfl rfl) rfl rfl rfl (fun g48 => ?_) (fun g48 => ?_)
     ·
      refine LexK.on (q_mvC rfl rfl) rfl rfl rfl rfl rfl ?_
      refine LexK.on (q_fieldL _ rfl Fx.fl30_5 rfl rfl) rfl rfl rfl rfl rfl ?_
      refine LexK.rOn (b_load (r := .a _) rfl Fx.ty28 rfl rfl rfl rfl rfl rfl) rfl rfl rfl ?_
      refine LexK.on (q_index _ rfl Fx.sl28 rfl rfl (by omega) (idx_pl (show 0 < p.args.length by omega))) rfl rfl rfl rfl rfl ?_
      refine LexK.on (q_load (.g [_, _, _, _, _, _, _, _, _, _, _, _, _]) rfl Fx.ty30 rfl rfl rfl) rfl rfl rfl rfl rfl ?_
      refine LexK.on (q_mvC rfl rfl) rfl rfl rfl rfl rfl ?_
      refine LexK.rOn (g_call rfl Fx.fn32 rfl (ih (p.args[0]'(show 0 < p.args.length by omega)) (List.getElem_mem _) l hin (by have h9 := flat_le (f := srM) (show 0 < p.args.length by omega); rw [← srM_in hl] at h9; omega) H hx) rfl rfl rfl) rfl rfl rfl ?_
      refine LexK.q (q_pkT rfl rfl rfl) rfl rfl rfl ?_
      refine LexK.qB (q_mvC rfl rfl) rfl rfl rfl (fun g57 => ?_) (fun g57 => ?_)
      ·
       refine LexK.on (q_mvC rfl rfl) rfl rfl rfl rfl rfl ?_
       refine LexK.on (q_fieldL _ rfl Fx.fl30_4 rfl rfl) rfl rfl rfl rfl rfl ?_
       refine LexK.rOn (b_load (r := .g [_, _, _, _, _, _, _, _]) rfl Fx.ty27 rfl rfl rfl rfl rfl rfl) rfl rfl rfl ?_
       refine LexK.on (q_mvC rfl rfl) rfl rfl rfl rfl rfl ?_
       refine LexK.on (q_fieldL _ rfl Fx.fl30_5 rfl rfl) rfl rfl rfl rfl rfl ?_
       refine LexK.rOn (b_load (r := .a _) rfl Fx.ty28 rfl rfl rfl rfl rfl rfl) rfl rfl rfl ?_
       refine LexK.on (q_index _ rfl Fx.sl28 rfl rfl (by omega) (idx_pl (show 0 < p.args.length by omega))) rfl rfl rfl rfl rfl ?_
       refine LexK.on (q_load (.g [_, _, _, _, _, _, _, _, _, _, _, _, _]) rfl Fx.ty30 rfl rfl rfl) rfl rfl rfl rfl rfl ?_
       refine LexK.on (q_call _ rfl Fx.fn8 rfl (srcs_any (p.args[0]'(show 0 < p.args.length by omega)) (k5 _ (List.getElem_mem _)) (by have h9 := flat_le (f := srM) (show 0 < p.args.length by omega); rw [← srM_in hl] at h9; omega)) rfl) rfl rfl rfl rfl rfl ?_
       refine LexK.on (q_buildSlice _ rfl Fx.el68 rfl (by decide) rfl) rfl rfl rfl rfl rfl ?_
       refine LexK.on (q_call _ rfl Fx.fn59 rfl (catI_any l (srM (p.args[0]'(show 0 < p.args.length by omega))) (by have h9 := flat_le (f := srM) (show 0 < p.args.length by omega); rw [← srM_in hl] at h9; omega)) rfl) rfl rfl rfl rfl rfl ?_
       refine LexK.rOn (g_call rfl Fx.fn58 rfl (over_any kx d0 b (l ++ srM (p.args[0]'(show 0 < p.args.length by omega))) hb (by rw [List.length_append]; exact Nat.le_trans (by have h9 := flat_le (f := srM) (show 0 < p.args.length by omega); rw [← srM_in hl] at h9; omega) (by omega : 1000000 ≤ _)) (inP_app hin (shB_in (p.args[0]'(show 0 < p.args.length by omega)) l (by assumption))) p.flt kf H hx) rfl rfl rfl) rfl rfl rfl ?_
       refine LexK.q (q_pkT rfl rfl rfl) rfl rfl rfl ?_
       refine LexK.q (q_asC rfl rfl) rfl rfl rfl ?_
       refine LexK.nil (by kernel_rfl) ?_
       refine AW.ret ?_
       exact fin_x (x := .c _) (H) (.tmp rfl .nil) rfl (fun _ _ h => h) (⟨bCe (by first | (rw [shB_4 hn h37 (by omega)]; first | (rw [decide_eq_true g48, g57]; rfl) | (rw [g57]; simp; done) | (rw [decide_eq_false g48]; rfl)) | (rw [shB_4n hn h37 (by omega)])), rfl⟩)
      iterate 12 refine LexK.off rfl rfl rfl rfl rfl rfl ?_
      refine LexK.q (q_pkF rfl rfl rfl) rfl rfl rfl ?_
      refine LexK.q (q_asC rfl rfl) rfl rfl rfl ?_
      refine LexK.nil (by kernel_rfl) ?_
      refine AW.ret ?_
      exact fin_x (x := .c _) (H) (.tmp rfl .nil) rfl (fun _ _ h => h) (⟨bCe (by first | (rw [shB_4 hn h37 (by omega)]; first | (rw [decide_eq_true g48, g57]; rfl) | (rw [g57]; simp; done) | (rw [decide_eq_false g48]; rfl)) | (rw [shB_4n hn h37 (by omega)])), rfl⟩)
     iterate 7 refine LexK.off rfl rfl rfl rfl rfl rfl ?_
     refine LexK.q (q_pkF rfl rfl rfl) rfl rfl rfl ?_
     refine LexK.q (q_mvC rfl rfl) rfl rfl rfl ?_
     iterate 12 refine LexK.off rfl rfl rfl rfl rfl rfl ?_
     refine LexK.q (q_pkF rfl rfl rfl) rfl rfl rfl ?_
     refine LexK.q (q_asC rfl rfl) rfl rfl rfl ?_
     refine LexK.nil (by kernel_rfl) ?_
     refine AW.ret ?_
     exact fin_x (x := .c _) (H) (.tmp rfl .nil) rfl (fun _ _ h => h) (⟨bCe (by first | (rw [shB_4 hn h37 (by omega)]; first | (rw [decide_eq_true g48, g57]; rfl) | (rw [g57]; simp; done) | (rw [decide_eq_false g48]; rfl)) | (rw [shB_4n hn h37 (by omega)])), rfl⟩)
    have hq : ¬ p.args.length = 1 := by have h9 := g42; rw [List.length_map] at h9; omega
    iterate 4 refine LexK.off rfl rfl rfl rfl rfl rfl ?_
    refine LexK.q (q_pkF rfl rfl rfl) rfl rfl rfl ?_
    refine LexK.q (q_mvC rfl rfl) rfl rfl rfl ?_
    iterate 7 refine LexK.off rfl rfl rfl rfl rfl rfl ?_
    refine LexK.q (q_pkF rfl rfl rfl) rfl rfl rfl ?_
    refine LexK.q (q_mvC rfl rfl) rfl rfl rfl ?_
    iterate 12 refine LexK.off rfl rfl rfl rfl rfl rfl ?_
    refine LexK.q (q_pkF rfl rfl rfl) rfl rfl rfl ?_
    refine LexK.q (q_asC rfl rfl) rfl rfl rfl ?_
    refine LexK.nil (by kernel_rfl) ?_
    refine AW.ret ?_
    exact fin_x (x := .c _) (H) (.tmp rfl .nil) rfl (fun _ _ h => h) (⟨bCe (by first | (rw [shB_4 hn h37 (by omega)]; first | (rw [decide_eq_true g48, g57]; rfl) | (rw [g57]; simp; done) | (rw [decide_eq_false g48]; rfl)) | (rw [shB_4n hn h37 (by omega)])), rfl⟩)
   refine AW.skip ?_
   refine AW.seq ?_
   refine AW.draw Fx.mo ?_
   refine LexK.q (q_fieldL _ rfl Fx.fl30_5 rfl rfl) rfl rfl rfl ?_
   refine LexK.r (b_load (r := .a _) rfl Fx.ty28 rfl rfl rfl rfl rfl rfl) rfl ?_
   refine LexK.q (q_len rfl Fx.un28 rfl) rfl rfl rfl ?_
   refine LexK.q (q_eql rfl rfl rfl) rfl rfl rfl ?_
   refine LexK.qD (q_mvC rfl rfl) rfl rfl rfl (fun g75 => ?_) (fun g75 => ?_)
   ·
    have hq : p.args.length = 2 := by have h9 := g75; rw [List.length_map] at h9; omega
    refine LexK.on (q_fieldL _ rfl Fx.fl30_4 rfl rfl) rfl rfl rfl rfl rfl ?_
    refine LexK.rOn (b_load (r := .g [_, _, _, _, _, _, _, _]) rfl Fx.ty27 rfl rfl rfl rfl rfl rfl) rfl rfl rfl ?_
    refine LexK.on (q_call _ rfl Fx.fn60 rfl (absent_any p.flt kf) rfl) rfl rfl rfl rfl rfl ?_
    refine LexK.q (q_pkT rfl rfl rfl) rfl rfl rfl ?_
    refine LexK.qB (q_mvC rfl rfl) rfl rfl rfl (fun g80 => ?_) (fun g80 => ?_)
    ·
     refine LexK.on (q_mvC rfl rfl) rfl rfl rfl rfl rfl ?_
     refine LexK.on (q_fieldL _ rfl Fx.fl30_5 rfl rfl) rfl rfl rfl rfl rfl ?_
     refine LexK.rOn (b_load (r := .a _) rfl Fx.ty28 rfl rfl rfl rfl rfl rfl) rfl rfl rfl ?_
     refine LexK.on (q_index _ rfl Fx.sl28 rfl rfl (by omega) (idx_pl (show 0 < p.args.length by omega))) rfl rfl rfl rfl rfl ?_
     refine LexK.on (q_load (.g [_, _, _, _, _, _, _, _, _, _, _, _, _]) rfl Fx.ty30 rfl rfl rfl) rfl rfl rfl rfl rfl ?_
     refine LexK.on (q_mvC rfl rfl) rfl rfl rfl rfl rfl ?_
     refine LexK.rOn (g_call rfl Fx.fn32 rfl (ih (p.args[0]'(show 0 < p.args.length by omega)) (List.getElem_mem _) l hin (by have h9 := flat_le (f := srM) (show 0 < p.args.length by omega); rw [← srM_in hl] at h9; omega) H hx) rfl rfl rfl) rfl rfl rfl ?_
     refine LexK.q (q_pkT rfl rfl rfl) rfl rfl rfl ?_
     refine LexK.qB (q_mvC rfl rfl) rfl rfl rfl (fun g89 => ?_) (fun g89 => ?_)
     ·
      refine LexK.on (q_mvC rfl rfl) rfl rfl rfl rfl rfl ?_
      refine LexK.on (q_fieldL _ rfl Fx.fl30_5 rfl rfl) rfl rfl rfl rfl rfl ?_
      refine LexK.rOn (b_load (r := .a _) rfl Fx.ty28 rfl rfl rfl rfl rfl rfl) rfl rfl rfl ?_
      refine LexK.on (q_index _ rfl Fx.sl28 rfl rfl (by omega) (idx_pl (show 1 < p.args.length by omega))) rfl rfl rfl rfl rfl ?_
      refine LexK.on (q_load (.g [_, _, _, _, _, _, _, _, _, _, _, _, _]) rfl Fx.ty30 rfl rfl rfl) rfl rfl rfl rfl rfl ?_
      refine LexK.on (q_mvC rfl rfl) rfl rfl rfl rfl rfl ?_
      refine LexK.on (q_fieldL _ rfl Fx.fl30_5 rfl rfl) rfl rfl rfl rfl rfl ?_
      refine LexK.rOn (b_load (r := .a _) rfl Fx.ty28 rfl rfl rfl rfl rfl rfl) rfl rfl rfl ?_
      refine LexK.on (q_index _ rfl Fx.sl28 rfl rfl (by omega) (idx_pl (show 0 < p.args.length by omega))) rfl rfl rfl rfl rfl ?_
      refine LexK.on (q_load (.g [_, _, _, _, _, _, _, _, _, _, _, _, _]) rfl Fx.ty30 rfl rfl rfl) rfl rfl rfl rfl rfl ?_
      refine LexK.on (q_call _ rfl Fx.fn8 rfl (srcs_any (p.args[0]'(show 0 < p.args.length by omega)) (k5 _ (List.getElem_mem _)) (by have h9 := flat_le (f := srM) (show 0 < p.args.length by omega); rw [← srM_in hl] at h9; omega)) rfl) rfl rfl rfl rfl rfl ?_
      refine LexK.on (q_buildSlice _ rfl Fx.el68 rfl (by decide) rfl) rfl rfl rfl rfl rfl ?_
      refine LexK.on (q_call _ rfl Fx.fn59 rfl (catI_any l (srM (p.args[0]'(show 0 < p.args.length by omega))) (by have h9 := flat_le (f := srM) (show 0 < p.args.length by omega); rw [← srM_in hl] at h9; omega)) rfl) rfl rfl rfl rfl rfl ?_
      refine LexK.rOn (g_call rfl Fx.fn32 rfl (ih (p.args[1]'(show 1 < p.args.length by omega)) (List.getElem_mem _) (l ++ srM (p.args[0]'(show 0 < p.args.length by omega))) (inP_app hin (shB_in (p.args[0]'(show 0 < p.args.length by omega)) l (by assumption))) (by have h9 := congrArg List.length (sr_two hl (show p.args.length = 2 by omega)); rw [List.length_append] at h9 ⊢; omega) H hx) rfl rfl rfl) rfl rfl rfl ?_
      refine LexK.q (q_pkT rfl rfl rfl) rfl rfl rfl ?_
      refine LexK.q (q_asC rfl rfl) rfl rfl rfl ?_
      refine LexK.nil (by kernel_rfl) ?_
      refine AW.ret ?_
      exact fin_x (x := .c _) (H) (.tmp rfl .nil) rfl (fun _ _ h => h) (⟨bCe (by first | (rw [shB_5 hn h37 (by omega)]; first | (rw [g80, g89]; rfl) | (rw [g89]; simp; done) | (rw [g80]; rfl)) | (rw [shB_5n hn h37 (by omega)])), rfl⟩)
     iterate 14 refine LexK.off rfl rfl rfl rfl rfl rfl ?_
     refine LexK.q (q_pkF rfl rfl rfl) rfl rfl rfl ?_
     refine LexK.q (q_asC rfl rfl) rfl rfl rfl ?_
     refine LexK.nil (by kernel_rfl) ?_
     refine AW.ret ?_
     exact fin_x (x := .c _) (H) (.tmp rfl .nil) rfl (fun _ _ h => h) (⟨bCe (by first | (rw [shB_5 hn h37 (by omega)]; first | (rw [g80, g89]; rfl) | (rw [g89]; simp; done) | (rw [g80]; rfl)) | (rw [shB_5n hn h37 (by omega)])), rfl⟩)
    iterate 7 refine LexK.off rfl rfl rfl rfl rfl rfl ?_
    refine LexK.q (q_pkF rfl rfl rfl) rfl rfl rfl ?_
    refine LexK.q (q_mvC rfl rfl) rfl rfl rfl ?_
    iterate 14 refine LexK.off rfl rfl rfl rfl rfl rfl ?_
    refine LexK.q (q_pkF rfl rfl rfl) rfl rfl rfl ?_
    refine LexK.q (q_asC rfl rfl) rfl rfl rfl ?_
    refine LexK.nil (by kernel_rfl) ?_
    refine AW.ret ?_
    exact fin_x (x := .c _) (H) (.tmp rfl .nil) rfl (fun _ _ h => h) (⟨bCe (by first | (rw [shB_5 hn h37 (by omega)]; first | (rw [g80, g89]; rfl) | (rw [g89]; simp; done) | (rw [g80]; rfl)) | (rw [shB_5n hn h37 (by omega)])), rfl⟩)
   have hq : ¬ p.args.length = 2 := by have h9 := g75; rw [List.length_map] at h9; omega
   iterate 3 refine LexK.off rfl rfl rfl rfl rfl rfl ?_
   refine LexK.q (q_pkF rfl rfl rfl) rfl rfl rfl ?_
   refine LexK.q (q_mvC rfl rfl) rfl rfl rfl ?_
   iterate 7 refine LexK.off rfl rfl rfl rfl rfl rfl ?_
   refine LexK.q (q_pkF rfl rfl rfl) rfl rfl rfl ?_
   refine LexK.q (q_mvC rfl rfl) rfl rfl rfl ?_
   iterate 14 refine LexK.off rfl rfl rfl rfl rfl rfl ?_
   refine LexK.q (q_pkF rfl rfl rfl) rfl rfl rfl ?_
   refine LexK.q (q_asC rfl rfl) rfl rfl rfl ?_
   refine LexK.nil (by kernel_rfl) ?_
   refine AW.ret ?_
   exact fin_x (x := .c _) (H) (.tmp rfl .nil) rfl (fun _ _ h => h) (⟨bCe (by first | (rw [shB_5 hn h37 (by omega)]; first | (rw [g80, g89]; rfl) | (rw [g89]; simp; done) | (rw [g80]; rfl)) | (rw [shB_5n hn h37 (by omega)])), rfl⟩)
  refine AW.seq ?_
  have hno : shB d0 b p l = false := shB_no (by omega) (by omega)
  refine AW.reg ?_
  refine sA ?_
  refine SeqK.nil ?_
  refine AW.ret ?_
  exact fin_x (x := .c _) (H) (.tmp rfl .nil) rfl (fun _ _ h => h) (⟨bCe hno.symm, rfl⟩)
 refine AW.reg ?_
 refine SeqK.q (q_eql rfl rfl rfl) rfl rfl rfl ?_
 refine sA ?_
 refine SeqK.nil ?_
 refine AW.condD rfl (fun h9 => ?_) (fun h9 => ?_)
 ·
  refine sR ?_
  refine sM ?_
  refine SeqK.r (b_load (r := .g [_, _, _, _, _, _, _, _, _, _, _, _, _]) rfl Fx.ty30 rfl rfl rfl rfl rfl rfl) rfl ?_
  refine sM ?_
  refine SeqK.r (g_call rfl Fx.fn57 rfl (leaf_any H kx d0 b hx hb l (by omega) hin p ho) rfl rfl rfl) rfl ?_
  refine sA ?_
  refine SeqK.nil ?_
  refine AW.ret ?_
  exact fin_x (x := .c _) (H) (.tmp rfl .nil) rfl (fun _ _ h => h) (⟨bCe (shB_leaf (by omega)).symm, rfl⟩)
 refine AW.seq ?_
 refine sR ?_
 refine SeqK.q (q_eql rfl rfl rfl) rfl rfl rfl ?_
 refine sA ?_
 refine SeqK.nil ?_
 refine AW.condD rfl (fun h17 => ?_) (fun h17 => ?_)
 ·
  refine AW.skip ?_
  refine AW.condD rfl (fun h17 => ?_) (fun h17 => ?_)
  ·
   refine sR ?_
   refine SeqK.q (q_fieldL _ rfl Fx.fl30_1 rfl rfl) rfl rfl rfl ?_
   refine SeqK.r (b_load (r := .a _) rfl Fx.ty3 rfl rfl rfl rfl rfl rfl) rfl ?_
   refine SeqK.q (q_neq rfl rfl rfl) rfl rfl rfl ?_
   refine SeqK.qD (q_mvC rfl rfl) rfl rfl rfl (fun g23 => ?_) (fun g23 => ?_)
   ·
    iterate 4 refine SeqK.off rfl rfl rfl rfl rfl rfl ?_
    refine SeqK.q (q_pkT rfl rfl rfl) rfl rfl rfl ?_
    refine sM ?_
    iterate 4 refine SeqK.off rfl rfl rfl rfl rfl rfl ?_
    refine SeqK.q (q_pkT rfl rfl rfl) rfl rfl rfl ?_
    refine SeqK.nil ?_
    refine AW.condT rfl ?_
    refine AW.seq ?_
    have hno : shB d0 b p l = false := shB_no (by omega) (by first | omega | (simp only [List.length_map] at *; omega))
    refine AW.reg ?_
    refine sA ?_
    refine SeqK.nil ?_
    refine AW.ret ?_
    exact fin_x (x := .c _) (H) (.tmp rfl .nil) rfl (fun _ _ h => h) (⟨bCe hno.symm, rfl⟩)
   refine SeqK.on (q_fieldL _ rfl Fx.fl30_2 rfl rfl) rfl rfl rfl rfl rfl ?_
   refine SeqK.rOn (b_load (r := .a _) rfl Fx.ty22 rfl rfl rfl rfl rfl rfl) rfl rfl rfl ?_
   refine SeqK.on (q_len rfl Fx.un22 rfl) rfl rfl rfl rfl rfl ?_
   refine SeqK.on (q_gtr rfl rfl rfl) rfl rfl rfl rfl rfl ?_
   refine SeqK.q (q_pkF rfl rfl rfl) rfl rfl rfl ?_
   refine SeqK.qD (q_mvC rfl rfl) rfl rfl rfl (fun g29 => ?_) (fun g29 => ?_)
   ·
    iterate 4 refine SeqK.off rfl rfl rfl rfl rfl rfl ?_
    refine SeqK.q (q_pkT rfl rfl rfl) rfl rfl rfl ?_
    refine SeqK.nil ?_
    refine AW.condT rfl ?_
    refine AW.seq ?_
    have hno : shB d0 b p l = false := shB_no (by omega) (by first | omega | (simp only [List.length_map] at *; omega))
    refine AW.reg ?_
    refine sA ?_
    refine SeqK.nil ?_
    refine AW.ret ?_
    exact fin_x (x := .c _) (H) (.tmp rfl .nil) rfl (fun _ _ h => h) (⟨bCe hno.symm, rfl⟩)
   refine SeqK.on (q_fieldL _ rfl Fx.fl30_3 rfl rfl) rfl rfl rfl rfl rfl ?_
   refine SeqK.rOn (b_load (r := .a _) rfl Fx.ty23 rfl rfl rfl rfl rfl rfl) rfl rfl rfl ?_
   refine SeqK.on (q_len rfl Fx.un23 rfl) rfl rfl rfl rfl rfl ?_
   refine SeqK.on (q_gtr rfl rfl rfl) rfl rfl rfl rfl rfl ?_
   refine SeqK.q (q_pkF rfl rfl rfl) rfl rfl rfl ?_
   refine SeqK.nil ?_
   refine AW.condD rfl (fun h34 => ?_) (fun h34 => ?_)
   ·
    refine AW.seq ?_
    have hno : shB d0 b p l = false := shB_no (by omega) (by first | omega | (simp only [List.length_map] at *; omega))
    refine AW.reg ?_
    refine sA ?_
    refine SeqK.nil ?_
    refine AW.ret ?_
    exact fin_x (x := .c _) (H) (.tmp rfl .nil) rfl (fun _ _ h => h) (⟨bCe hno.symm, rfl⟩)
   refine AW.skip ?_
   refine AW.seq ?_
   refine AW.seq ?_
   have hl : ¬ lfK p := by omega
   have hn : npP p := by simp only [List.length_map] at *; omega
   refine AW.reg ?_
   refine SeqK.q (q_fieldL _ rfl Fx.fl30_0 rfl rfl) rfl rfl rfl ?_
   refine SeqK.r (b_load (r := .a _) rfl Fx.ty3 rfl rfl rfl rfl rfl rfl) rfl ?_
   refine SeqK.q (q_eql rfl rfl rfl) rfl rfl rfl ?_
   refine SeqK.nil ?_
   refine AW.condD rfl (fun h37 => ?_) (fun h37 => ?_)
   ·
    refine AW.seq ?_
    refine AW.draw Fx.mo ?_
    refine LexK.q (q_fieldL _ rfl Fx.fl30_5 rfl rfl) rfl rfl rfl ?_
    refine LexK.r (b_load (r := .a _) rfl Fx.ty28 rfl rfl rfl rfl rfl rfl) rfl ?_
    refine LexK.q (q_len rfl Fx.un28 rfl) rfl rfl rfl ?_
    refine LexK.q (q_eql rfl rfl rfl) rfl rfl rfl ?_
    refine LexK.qD (q_mvC rfl rfl) rfl rfl rfl (fun g42 => ?_) (fun g42 => ?_)
    ·
     have hq : p.args.length = 1 := by have h9 := g42; rw [List.length_map] at h9; omega
     refine LexK.on (q_fieldL _ rfl Fx.fl30_4 rfl rfl) rfl rfl rfl rfl rfl ?_
     refine LexK.on (q_fieldL _ rfl Fx.fl27_0 rfl rfl) rfl rfl rfl rfl rfl ?_
     refine LexK.rOn (b_load (r := .a _) rfl Fx.ty3 rfl rfl rfl rfl rfl rfl) rfl rfl rfl ?_
     refine LexK.on (q_neq rfl rfl rfl) rfl rfl rfl rfl rfl ?_
     refine LexK.q (q_pkT rfl rfl rfl) rfl rfl rfl ?_
     refine LexK.qD (q_mvC rfl rfl) rfl rfl rfl (fun g48 => ?_) (fun g48 => ?_)
     ·
      refine LexK.on (q_mvC rfl rfl) rfl rfl rfl rfl rfl ?_
      refine LexK.on (q_fieldL _ rfl Fx.fl30_5 rfl rfl) rfl rfl rfl rfl rfl ?_
      refine LexK.rOn (b_load (r := .a _) rfl Fx.ty28 rfl rfl rfl rfl rfl rfl) rfl rfl rfl ?_
      refine LexK.on (q_index _ rfl Fx.sl28 rfl rfl (by omega) (idx_pl (show 0 < p.args.length by omega))) rfl rfl rfl rfl rfl ?_
      refine LexK.on (q_load (.g [_, _, _, _, _, _, _, _, _, _, _, _, _]) rfl Fx.ty30 rfl rfl rfl) rfl rfl rfl rfl rfl ?_
      refine LexK.on (q_mvC rfl rfl) rfl rfl rfl rfl rfl ?_
      refine LexK.rOn (g_call rfl Fx.fn32 rfl (ih (p.args[0]'(show 0 < p.args.length by omega)) (List.getElem_mem _) l hin (by have h9 := flat_le (f := srM) (show 0 < p.args.length by omega); rw [← srM_in hl] at h9; omega) H hx) rfl rfl rfl) rfl rfl rfl ?_
      refine LexK.q (q_pkT rfl rfl rfl) rfl rfl rfl ?_
      refine LexK.qB (q_mvC rfl rfl) rfl rfl rfl (fun g57 => ?_) (fun g57 => ?_)
      ·
       refine LexK.on (q_mvC rfl rfl) rfl rfl rfl rfl rfl ?_
       refine LexK.on (q_fieldL _ rfl Fx.fl30_4 rfl rfl) rfl rfl rfl rfl rfl ?_
       refine LexK.rOn (b_load (r := .g [_, _, _, _, _, _, _, _]) rfl Fx.ty27 rfl rfl rfl rfl rfl rfl) rfl rfl rfl ?_
       refine LexK.on (q_mvC rfl rfl) rfl rfl rfl rfl rfl ?_
       refine LexK.on (q_fieldL _ rfl Fx.fl30_5 rfl rfl) rfl rfl rfl rfl rfl ?_
       refine LexK.rOn (b_load (r := .a _) rfl Fx.ty28 rfl rfl rfl rfl rfl rfl) rfl rfl rfl ?_
       refine LexK.on (q_index _ rfl Fx.sl28 rfl rfl (by omega) (idx_pl (show 0 < p.args.length by omega))) rfl rfl rfl rfl rfl ?_
       refine LexK.on (q_load (.g [_, _, _, _, _, _, _, _, _, _, _, _, _]) rfl Fx.ty30 rfl rfl rfl) rfl rfl rfl rfl rfl ?_
       refine LexK.on (q_call _ rfl Fx.fn8 rfl (srcs_any (p.args[0]'(show 0 < p.args.length by omega)) (k5 _ (List.getElem_mem _)) (by have h9 := flat_le (f := srM) (show 0 < p.args.length by omega); rw [← srM_in hl] at h9; omega)) rfl) rfl rfl rfl rfl rfl ?_
       refine LexK.on (q_buildSlice _ rfl Fx.el68 rfl (by decide) rfl) rfl rfl rfl rfl rfl ?_
       refine LexK.on (q_call _ rfl Fx.fn59 rfl (catI_any l (srM (p.args[0]'(show 0 < p.args.length by omega))) (by have h9 := flat_le (f := srM) (show 0 < p.args.length by omega); rw [← srM_in hl] at h9; omega)) rfl) rfl rfl rfl rfl rfl ?_
       refine LexK.rOn (g_call rfl Fx.fn58 rfl (over_any kx d0 b (l ++ srM (p.args[0]'(show 0 < p.args.length by omega))) hb (by rw [List.length_append]; exact Nat.le_trans (by have h9 := flat_le (f := srM) (show 0 < p.args.length by omega); rw [← srM_in hl] at h9; omega) (by omega : 1000000 ≤ _)) (inP_app hin (shB_in (p.args[0]'(show 0 < p.args.length by omega)) l (by assumption))) p.flt kf H hx) rfl rfl rfl) rfl rfl rfl ?_
       refine LexK.q (q_pkT rfl rfl rfl) rfl rfl rfl ?_
       refine LexK.q (q_asC rfl rfl) rfl rfl rfl ?_
       refine LexK.nil (by kernel_rfl) ?_
       refine AW.ret ?_
       exact fin_x (x := .c _) (H) (.tmp rfl .nil) rfl (fun _ _ h => h) (⟨bCe (by first | (rw [shB_4 hn h37 (by omega)]; first | (rw [decide_eq_true g48, g57]; rfl) | (rw [g57]; simp; done) | (rw [decide_eq_false g48]; rfl)) | (rw [shB_4n hn h37 (by omega)])), rfl⟩)
      iterate 12 refine LexK.off rfl rfl rfl rfl rfl rfl ?_
      refine LexK.q (q_pkF rfl rfl rfl) rfl rfl rfl ?_
      refine LexK.q (q_asC rfl rfl) rfl rfl rfl ?_
      refine LexK.nil (by kernel_rfl) ?_
      refine AW.ret ?_
      exact fin_x (x := .c _) (H) (.tmp rfl .nil) rfl (fun _ _ h => h) (⟨bCe (by first | (rw [shB_4 hn h37 (by omega)]; first | (rw [decide_eq_true g48, g57]; rfl) | (rw [g57]; simp; done) | (rw [decide_eq_false g48]; rfl)) | (rw [shB_4n hn h37 (by omega)])), rfl⟩)
     iterate 7 refine LexK.off rfl rfl rfl rfl rfl rfl ?_
     refine LexK.q (q_pkF rfl rfl rfl) rfl rfl rfl ?_
     refine LexK.q (q_mvC rfl rfl) rfl rfl rfl ?_
     iterate 12 refine LexK.off rfl rfl rfl rfl rfl rfl ?_
     refine LexK.q (q_pkF rfl rfl rfl) rfl rfl rfl ?_
     refine LexK.q (q_asC rfl rfl) rfl rfl rfl ?_
     refine LexK.nil (by kernel_rfl) ?_
     refine AW.ret ?_
     exact fin_x (x := .c _) (H) (.tmp rfl .nil) rfl (fun _ _ h => h) (⟨bCe (by first | (rw [shB_4 hn h37 (by omega)]; first | (rw [decide_eq_true g48, g57]; rfl) | (rw [g57]; simp; done) | (rw [decide_eq_false g48]; rfl)) | (rw [shB_4n hn h37 (by omega)])), rfl⟩)
    have hq : ¬ p.args.length = 1 := by have h9 := g42; rw [List.length_map] at h9; omega
    iterate 4 refine LexK.off rfl rfl rfl rfl rfl rfl ?_
    refine LexK.q (q_pkF rfl rfl rfl) rfl rfl rfl ?_
    refine LexK.q (q_mvC rfl rfl) rfl rfl rfl ?_
    iterate 7 refine LexK.off rfl rfl rfl rfl rfl rfl ?_
    refine LexK.q (q_pkF rfl rfl rfl) rfl rfl rfl ?_
    refine LexK.q (q_mvC rfl rfl) rfl rfl rfl ?_
    iterate 12 refine LexK.off rfl rfl rfl rfl rfl rfl ?_
    refine LexK.q (q_pkF rfl rfl rfl) rfl rfl rfl ?_
    refine LexK.q (q_asC rfl rfl) rfl rfl rfl ?_
    refine LexK.nil (by kernel_rfl) ?_
    refine AW.ret ?_
    exact fin_x (x := .c _) (H) (.tmp rfl .nil) rfl (fun _ _ h => h) (⟨bCe (by first | (rw [shB_4 hn h37 (by omega)]; first | (rw [decide_eq_true g48, g57]; rfl) | (rw [g57]; simp; done) | (rw [decide_eq_false g48]; rfl)) | (rw [shB_4n hn h37 (by omega)])), rfl⟩)
   refine AW.skip ?_
   refine AW.seq ?_
   refine AW.draw Fx.mo ?_
   refine LexK.q (q_fieldL _ rfl Fx.fl30_5 rfl rfl) rfl rfl rfl ?_
   refine LexK.r (b_load (r := .a _) rfl Fx.ty28 rfl rfl rfl rfl rfl rfl) rfl ?_
   refine LexK.q (q_len rfl Fx.un28 rfl) rfl rfl rfl ?_
   refine LexK.q (q_eql rfl rfl rfl) rfl rfl rfl ?_
   refine LexK.qD (q_mvC rfl rfl) rfl rfl rfl (fun g75 => ?_) (fun g75 => ?_)
   ·
    have hq : p.args.length = 2 := by have h9 := g75; rw [List.length_map] at h9; omega
    refine LexK.on (q_fieldL _ rfl Fx.fl30_4 rfl rfl) rfl rfl rfl rfl rfl ?_
    refine LexK.rOn (b_load (r := .g [_, _, _, _, _, _, _, _]) rfl Fx.ty27 rfl rfl rfl rfl rfl rfl) rfl rfl rfl ?_
    refine LexK.on (q_call _ rfl Fx.fn60 rfl (absent_any p.flt kf) rfl) rfl rfl rfl rfl rfl ?_
    refine LexK.q (q_pkT rfl rfl rfl) rfl rfl rfl ?_
    refine LexK.qB (q_mvC rfl rfl) rfl rfl rfl (fun g80 => ?_) (fun g80 => ?_)
    ·
     refine LexK.on (q_mvC rfl rfl) rfl rfl rfl rfl rfl ?_
     refine LexK.on (q_fieldL _ rfl Fx.fl30_5 rfl rfl) rfl rfl rfl rfl rfl ?_
     refine LexK.rOn (b_load (r := .a _) rfl Fx.ty28 rfl rfl rfl rfl rfl rfl) rfl rfl rfl ?_
     refine LexK.on (q_index _ rfl Fx.sl28 rfl rfl (by omega) (idx_pl (show 0 < p.args.length by omega))) rfl rfl rfl rfl rfl ?_
     refine LexK.on (q_load (.g [_, _, _, _, _, _, _, _, _, _, _, _, _]) rfl Fx.ty30 rfl rfl rfl) rfl rfl rfl rfl rfl ?_
     refine LexK.on (q_mvC rfl rfl) rfl rfl rfl rfl rfl ?_
     refine LexK.rOn (g_call rfl Fx.fn32 rfl (ih (p.args[0]'(show 0 < p.args.length by omega)) (List.getElem_mem _) l hin (by have h9 := flat_le (f := srM) (show 0 < p.args.length by omega); rw [← srM_in hl] at h9; omega) H hx) rfl rfl rfl) rfl rfl rfl ?_
     refine LexK.q (q_pkT rfl rfl rfl) rfl rfl rfl ?_
     refine LexK.qB (q_mvC rfl rfl) rfl rfl rfl (fun g89 => ?_) (fun g89 => ?_)
     ·
      refine LexK.on (q_mvC rfl rfl) rfl rfl rfl rfl rfl ?_
      refine LexK.on (q_fieldL _ rfl Fx.fl30_5 rfl rfl) rfl rfl rfl rfl rfl ?_
      refine LexK.rOn (b_load (r := .a _) rfl Fx.ty28 rfl rfl rfl rfl rfl rfl) rfl rfl rfl ?_
      refine LexK.on (q_index _ rfl Fx.sl28 rfl rfl (by omega) (idx_pl (show 1 < p.args.length by omega))) rfl rfl rfl rfl rfl ?_
      refine LexK.on (q_load (.g [_, _, _, _, _, _, _, _, _, _, _, _, _]) rfl Fx.ty30 rfl rfl rfl) rfl rfl rfl rfl rfl ?_
      refine LexK.on (q_mvC rfl rfl) rfl rfl rfl rfl rfl ?_
      refine LexK.on (q_fieldL _ rfl Fx.fl30_5 rfl rfl) rfl rfl rfl rfl rfl ?_
      refine LexK.rOn (b_load (r := .a _) rfl Fx.ty28 rfl rfl rfl rfl rfl rfl) rfl rfl rfl ?_
      refine LexK.on (q_index _ rfl Fx.sl28 rfl rfl (by omega) (idx_pl (show 0 < p.args.length by omega))) rfl rfl rfl rfl rfl ?_
      refine LexK.on (q_load (.g [_, _, _, _, _, _, _, _, _, _, _, _, _]) rfl Fx.ty30 rfl rfl rfl) rfl rfl rfl rfl rfl ?_
      refine LexK.on (q_call _ rfl Fx.fn8 rfl (srcs_any (p.args[0]'(show 0 < p.args.length by omega)) (k5 _ (List.getElem_mem _)) (by have h9 := flat_le (f := srM) (show 0 < p.args.length by omega); rw [← srM_in hl] at h9; omega)) rfl) rfl rfl rfl rfl rfl ?_
      refine LexK.on (q_buildSlice _ rfl Fx.el68 rfl (by decide) rfl) rfl rfl rfl rfl rfl ?_
      refine LexK.on (q_call _ rfl Fx.fn59 rfl (catI_any l (srM (p.args[0]'(show 0 < p.args.length by omega))) (by have h9 := flat_le (f := srM) (show 0 < p.args.length by omega); rw [← srM_in hl] at h9; omega)) rfl) rfl rfl rfl rfl rfl ?_
      refine LexK.rOn (g_call rfl Fx.fn32 rfl (ih (p.args[1]'(show 1 < p.args.length by omega)) (List.getElem_mem _) (l ++ srM (p.args[0]'(show 0 < p.args.length by omega))) (inP_app hin (shB_in (p.args[0]'(show 0 < p.args.length by omega)) l (by assumption))) (by have h9 := congrArg List.length (sr_two hl (show p.args.length = 2 by omega)); rw [List.length_append] at h9 ⊢; omega) H hx) rfl rfl rfl) rfl rfl rfl ?_
      refine LexK.q (q_pkT rfl rfl rfl) rfl rfl rfl ?_
      refine LexK.q (q_asC rfl rfl) rfl rfl rfl ?_
      refine LexK.nil (by kernel_rfl) ?_
      refine AW.ret ?_
      exact fin_x (x := .c _) (H) (.tmp rfl .nil) rfl (fun _ _ h => h) (⟨bCe (by first | (rw [shB_5 hn h37 (by omega)]; first | (rw [g80, g89]; rfl) | (rw [g89]; simp; done) | (rw [g80]; rfl)) | (rw [shB_5n hn h37 (by omega)])), rfl⟩)
     iterate 14 refine LexK.off rfl rfl rfl rfl rfl rfl ?_
     refine LexK.q (q_pkF rfl rfl rfl) rfl rfl rfl ?_
     refine LexK.q (q_asC rfl rfl) rfl rfl rfl ?_
     refine LexK.nil (by kernel_rfl) ?_
     refine AW.ret ?_
     exact fin_x (x := .c _) (H) (.tmp rfl .nil) rfl (fun _ _ h => h) (⟨bCe (by first | (rw [shB_5 hn h37 (by omega)]; first | (rw [g80, g89]; rfl) | (rw [g89]; simp; done) | (rw [g80]; rfl)) | (rw [shB_5n hn h37 (by omega)])), rfl⟩)
    iterate 7 refine LexK.off rfl rfl rfl rfl rfl rfl ?_
    refine LexK.q (q_pkF rfl rfl rfl) rfl rfl rfl ?_
    refine LexK.q (q_mvC rfl rfl) rfl rfl rfl ?_
    iterate 14 refine LexK.off rfl rfl rfl rfl rfl rfl ?_
    refine LexK.q (q_pkF rfl rfl rfl) rfl rfl rfl ?_
    refine LexK.q (q_asC rfl rfl) rfl rfl rfl ?_
    refine LexK.nil (by kernel_rfl) ?_
    refine AW.ret ?_
    exact fin_x (x := .c _) (H) (.tmp rfl .nil) rfl (fun _ _ h => h) (⟨bCe (by first | (rw [shB_5 hn h37 (by omega)]; first | (rw [g80, g89]; rfl) | (rw [g89]; simp; done) | (rw [g80]; rfl)) | (rw [shB_5n hn h37 (by omega)])), rfl⟩)
   have hq : ¬ p.args.length = 2 := by have h9 := g75; rw [List.length_map] at h9; omega
   iterate 3 refine LexK.off rfl rfl rfl rfl rfl rfl ?_
   refine LexK.q (q_pkF rfl rfl rfl) rfl rfl rfl ?_
   refine LexK.q (q_mvC rfl rfl) rfl rfl rfl ?_
   iterate 7 refine LexK.off rfl rfl rfl rfl rfl rfl ?_
   refine LexK.q (q_pkF rfl rfl rfl) rfl rfl rfl ?_
   refine LexK.q (q_mvC rfl rfl) rfl rfl rfl ?_
   iterate 14 refine LexK.off rfl rfl rfl rfl rfl rfl ?_
   refine LexK.q (q_pkF rfl rfl rfl) rfl rfl rfl ?_
   refine LexK.q (q_asC rfl rfl) rfl rfl rfl ?_
   refine LexK.nil (by kernel_rfl) ?_
   refine AW.ret ?_
   exact fin_x (x := .c _) (H) (.tmp rfl .nil) rfl (fun _ _ h => h) (⟨bCe (by first | (rw [shB_5 hn h37 (by omega)]; first | (rw [g80, g89]; rfl) | (rw [g89]; simp; done) | (rw [g80]; rfl)) | (rw [shB_5n hn h37 (by omega)])), rfl⟩)
  refine AW.seq ?_
  have hno : shB d0 b p l = false := shB_no (by omega) (by omega)
  refine AW.reg ?_
  refine sA ?_
  refine SeqK.nil ?_
  refine AW.ret ?_
  exact fin_x (x := .c _) (H) (.tmp rfl .nil) rfl (fun _ _ h => h) (⟨bCe hno.symm, rfl⟩)
 refine AW.reg ?_
 refine SeqK.q (q_eql rfl rfl rfl) rfl rfl rfl ?_
 refine sA ?_
 refine SeqK.nil ?_
 refine AW.condD rfl (fun h17 => ?_) (fun h17 => ?_)
 ·
  refine sR ?_
  refine SeqK.q (q_fieldL _ rfl Fx.fl30_1 rfl rfl) rfl rfl rfl ?_
  refine SeqK.r (b_load (r := .a _) rfl Fx.ty3 rfl rfl rfl rfl rfl rfl) rfl ?_
  refine SeqK.q (q_neq rfl rfl rfl) rfl rfl rfl ?_
  refine SeqK.qD (q_mvC rfl rfl) rfl rfl rfl (fun g23 => ?_) (fun g23 => ?_)
  ·
   iterate 4 refine SeqK.off rfl rfl rfl rfl rfl rfl ?_
   refine SeqK.q (q_pkT rfl rfl rfl) rfl rfl rfl ?_
   refine sM ?_
   iterate 4 refine SeqK.off rfl rfl rfl rfl rfl rfl ?_
   refine SeqK.q (q_pkT rfl rfl rfl) rfl rfl rfl ?_
   refine SeqK.nil ?_
   refine AW.condT rfl ?_
   refine AW.seq ?_
   have hno : shB d0 b p l = false := shB_no (by omega) (by first | omega | (simp only [List.length_map] at *; omega))
   refine AW.reg ?_
   refine sA ?_
   refine SeqK.nil ?_
   refine AW.ret ?_
   exact fin_x (x := .c _) (H) (.tmp rfl .nil) rfl (fun _ _ h => h) (⟨bCe hno.symm, rfl⟩)
  refine SeqK.on (q_fieldL _ rfl Fx.fl30_2 rfl rfl) rfl rfl rfl rfl rfl ?_
  refine SeqK.rOn (b_load (r := .a _) rfl Fx.ty22 rfl rfl rfl rfl rfl rfl) rfl rfl rfl ?_
  refine SeqK.on (q_len rfl Fx.un22 rfl) rfl rfl rfl rfl rfl ?_
  refine SeqK.on (q_gtr rfl rfl rfl) rfl rfl rfl rfl rfl ?_
  refine SeqK.q (q_pkF rfl rfl rfl) rfl rfl rfl ?_
  refine SeqK.qD (q_mvC rfl rfl) rfl rfl rfl (fun g29 => ?_) (fun g29 => ?_)
  ·
   iterate 4 refine SeqK.off rfl rfl rfl rfl rfl rfl ?_
   refine SeqK.q (q_pkT rfl rfl rfl) rfl rfl rfl ?_
   refine SeqK.nil ?_
   refine AW.condT rfl ?_
   refine AW.seq ?_
   have hno : shB d0 b p l = false := shB_no (by omega) (by first | omega | (simp only [List.length_map] at *; omega))
   refine AW.reg ?_
   refine sA ?_
   refine SeqK.nil ?_
   refine AW.ret ?_
   exact fin_x (x := .c _) (H) (.tmp rfl .nil) rfl (fun _ _ h => h) (⟨bCe hno.symm, rfl⟩)
  refine SeqK.on (q_fieldL _ rfl Fx.fl30_3 rfl rfl) rfl rfl rfl rfl rfl ?_
  refine SeqK.rOn (b_load (r := .a _) rfl Fx.ty23 rfl rfl rfl rfl rfl rfl) rfl rfl rfl ?_
  refine SeqK.on (q_len rfl Fx.un23 rfl) rfl rfl rfl rfl rfl ?_
  refine SeqK.on (q_gtr rfl rfl rfl) rfl rfl rfl rfl rfl ?_
  refine SeqK.q (q_pkF rfl rfl rfl) rfl rfl rfl ?_
  refine SeqK.nil ?_
  refine AW.condD rfl (fun h34 => ?_) (fun h34 => ?_)
  ·
   refine AW.seq ?_
   have hno : shB d0 b p l = false := shB_no (by omega) (by first | omega | (simp only [List.length_map] at *; omega))
   refine AW.reg ?_
   refine sA ?_
   refine SeqK.nil ?_
   refine AW.ret ?_
   exact fin_x (x := .c _) (H) (.tmp rfl .nil) rfl (fun _ _ h => h) (⟨bCe hno.symm, rfl⟩)
  refine AW.skip ?_
  refine AW.seq ?_
  refine AW.seq ?_
  have hl : ¬ lfK p := by omega
  have hn : npP p := by simp only [List.length_map] at *; omega
  refine AW.reg ?_
  refine SeqK.q (q_fieldL _ rfl Fx.fl30_0 rfl rfl) rfl rfl rfl ?_
  refine SeqK.r (b_load (r := .a _) rfl Fx.ty3 rfl rfl rfl rfl rfl rfl) rfl ?_
  refine SeqK.q (q_eql rfl rfl rfl) rfl rfl rfl ?_
  refine SeqK.nil ?_
  refine AW.condD rfl (fun h37 => ?_) (fun h37 => ?_)
  ·
   refine AW.seq ?_
   refine AW.draw Fx.mo ?_
   refine LexK.q (q_fieldL _ rfl Fx.fl30_5 rfl rfl) rfl rfl rfl ?_
   refine LexK.r (b_load (r := .a _) rfl Fx.ty28 rfl rfl rfl rfl rfl rfl) rfl ?_
   refine LexK.q (q_len rfl Fx.un28 rfl) rfl rfl rfl ?_
   refine LexK.q (q_eql rfl rfl rfl) rfl rfl rfl ?_
   refine LexK.qD (q_mvC rfl rfl) rfl rfl rfl (fun g42 => ?_) (fun g42 => ?_)
   ·
    have hq : p.args.length = 1 := by have h9 := g42; rw [List.length_map] at h9; omega
    refine LexK.on (q_fieldL _ rfl Fx.fl30_4 rfl rfl) rfl rfl rfl rfl rfl ?_
    refine LexK.on (q_fieldL _ rfl Fx.fl27_0 rfl rfl) rfl rfl rfl rfl rfl ?_
    refine LexK.rOn (b_load (r := .a _) rfl Fx.ty3 rfl rfl rfl rfl rfl rfl) rfl rfl rfl ?_
    refine LexK.on (q_neq rfl rfl rfl) rfl rfl rfl rfl rfl ?_
    refine LexK.q (q_pkT rfl rfl rfl) rfl rfl rfl ?_
    refine LexK.qD (q_mvC rfl rfl) rfl rfl rfl (fun g48 => ?_) (fun g48 => ?_)
    ·
     refine LexK.on (q_mvC rfl rfl) rfl rfl rfl rfl rfl ?_
     refine LexK.on (q_fieldL _ rfl Fx.fl30_5 rfl rfl) rfl rfl rfl rfl rfl ?_
     refine LexK.rOn (b_load (r := .a _) rfl Fx.ty28 rfl rfl rfl rfl rfl rfl) rfl rfl rfl ?_
     refine LexK.on (q_index _ rfl Fx.sl28 rfl rfl (by omega) (idx_pl (show 0 < p.args.length by omega))) rfl rfl rfl rfl rfl ?_
     refine LexK.on (q_load (.g [_, _, _, _, _, _, _, _, _, _, _, _, _]) rfl Fx.ty30 rfl rfl rfl) rfl rfl rfl rfl rfl ?_
     refine LexK.on (q_mvC rfl rfl) rfl rfl rfl rfl rfl ?_
     refine LexK.rOn (g_call rfl Fx.fn32 rfl (ih (p.args[0]'(show 0 < p.args.length by omega)) (List.getElem_mem _) l hin (by have h9 := flat_le (f := srM) (show 0 < p.args.length by omega); rw [← srM_in hl] at h9; omega) H hx) rfl rfl rfl) rfl rfl rfl ?_
     refine LexK.q (q_pkT rfl rfl rfl) rfl rfl rfl ?_
     refine LexK.qB (q_mvC rfl rfl) rfl rfl rfl (fun g57 => ?_) (fun g57 => ?_)
     ·
      refine LexK.on (q_mvC rfl rfl) rfl rfl rfl rfl rfl ?_
      refine LexK.on (q_fieldL _ rfl Fx.fl30_4 rfl rfl) rfl rfl rfl rfl rfl ?_
      refine LexK.rOn (b_load (r := .g [_, _, _, _, _, _, _, _]) rfl Fx.ty27 rfl rfl rfl rfl rfl rfl) rfl rfl rfl ?_
      refine LexK.on (q_mvC rfl rfl) rfl rfl rfl rfl rfl ?_
      refine LexK.on (q_fieldL _ rfl Fx.fl30_5 rfl rfl) rfl rfl rfl rfl rfl ?_
      refine LexK.rOn (b_load (r := .a _) rfl Fx.ty28 rfl rfl rfl rfl rfl rfl) rfl rfl rfl ?_
      refine LexK.on (q_index _ rfl Fx.sl28 rfl rfl (by omega) (idx_pl (show 0 < p.args.length by omega))) rfl rfl rfl rfl rfl ?_
      refine LexK.on (q_load (.g [_, _, _, _, _, _, _, _, _, _, _, _, _]) rfl Fx.ty30 rfl rfl rfl) rfl rfl rfl rfl rfl ?_
      refine LexK.on (q_call _ rfl Fx.fn8 rfl (srcs_any (p.args[0]'(show 0 < p.args.length by omega)) (k5 _ (List.getElem_mem _)) (by have h9 := flat_le (f := srM) (show 0 < p.args.length by omega); rw [← srM_in hl] at h9; omega)) rfl) rfl rfl rfl rfl rfl ?_
      refine LexK.on (q_buildSlice _ rfl Fx.el68 rfl (by decide) rfl) rfl rfl rfl rfl rfl ?_
      refine LexK.on (q_call _ rfl Fx.fn59 rfl (catI_any l (srM (p.args[0]'(show 0 < p.args.length by omega))) (by have h9 := flat_le (f := srM) (show 0 < p.args.length by omega); rw [← srM_in hl] at h9; omega)) rfl) rfl rfl rfl rfl rfl ?_
      refine LexK.rOn (g_call rfl Fx.fn58 rfl (over_any kx d0 b (l ++ srM (p.args[0]'(show 0 < p.args.length by omega))) hb (by rw [List.length_append]; exact Nat.le_trans (by have h9 := flat_le (f := srM) (show 0 < p.args.length by omega); rw [← srM_in hl] at h9; omega) (by omega : 1000000 ≤ _)) (inP_app hin (shB_in (p.args[0]'(show 0 < p.args.length by omega)) l (by assumption))) p.flt kf H hx) rfl rfl rfl) rfl rfl rfl ?_
      refine LexK.q (q_pkT rfl rfl rfl) rfl rfl rfl ?_
      refine LexK.q (q_asC rfl rfl) rfl rfl rfl ?_
      refine LexK.nil (by kernel_rfl) ?_
      refine AW.ret ?_
      exact fin_x (x := .c _) (H) (.tmp rfl .nil) rfl (fun _ _ h => h) (⟨bCe (by first | (rw [shB_4 hn h37 (by omega)]; first | (rw [decide_eq_true g48, g57]; rfl) | (rw [g57]; simp; done) | (rw [decide_eq_false g48]; rfl)) | (rw [shB_4n hn h37 (by omega)])), rfl⟩)
     iterate 12 refine LexK.off rfl rfl rfl rfl rfl rfl ?_
     refine LexK.q (q_pkF rfl rfl rfl) rfl rfl rfl ?_
     refine LexK.q (q_asC rfl rfl) rfl rfl rfl ?_
     refine LexK.nil (by kernel_rfl) ?_
     refine AW.ret ?_
     exact fin_x (x := .c _) (H) (.tmp rfl .nil) rfl (fun _ _ h => h) (⟨bCe (by first | (rw [shB_4 hn h37 (by omega)]; first | (rw [decide_eq_true g48, g57]; rfl) | (rw [g57]; simp; done) | (rw [decide_eq_false g48]; rfl)) | (rw [shB_4n hn h37 (by omega)])), rfl⟩)
    iterate 7 refine LexK.off rfl rfl rfl rfl rfl rfl ?_
    refine LexK.q (q_pkF rfl rfl rfl) rfl rfl rfl ?_
    refine LexK.q (q_mvC rfl rfl) rfl rfl rfl ?_
    iterate 12 refine LexK.off rfl rfl rfl rfl rfl rfl ?_
    refine LexK.q (q_pkF rfl rfl rfl) rfl rfl rfl ?_
    refine LexK.q (q_asC rfl rfl) rfl rfl rfl ?_
    refine LexK.nil (by kernel_rfl) ?_
    refine AW.ret ?_
    exact fin_x (x := .c _) (H) (.tmp rfl .nil) rfl (fun _ _ h => h) (⟨bCe (by first | (rw [shB_4 hn h37 (by omega)]; first | (rw [decide_eq_true g48, g57]; rfl) | (rw [g57]; simp; done) | (rw [decide_eq_false g48]; rfl)) | (rw [shB_4n hn h37 (by omega)])), rfl⟩)
   have hq : ¬ p.args.length = 1 := by have h9 := g42; rw [List.length_map] at h9; omega
   iterate 4 refine LexK.off rfl rfl rfl rfl rfl rfl ?_
   refine LexK.q (q_pkF rfl rfl rfl) rfl rfl rfl ?_
   refine LexK.q (q_mvC rfl rfl) rfl rfl rfl ?_
   iterate 7 refine LexK.off rfl rfl rfl rfl rfl rfl ?_
   refine LexK.q (q_pkF rfl rfl rfl) rfl rfl rfl ?_
   refine LexK.q (q_mvC rfl rfl) rfl rfl rfl ?_
   iterate 12 refine LexK.off rfl rfl rfl rfl rfl rfl ?_
   refine LexK.q (q_pkF rfl rfl rfl) rfl rfl rfl ?_
   refine LexK.q (q_asC rfl rfl) rfl rfl rfl ?_
   refine LexK.nil (by kernel_rfl) ?_
   refine AW.ret ?_
   exact fin_x (x := .c _) (H) (.tmp rfl .nil) rfl (fun _ _ h => h) (⟨bCe (by first | (rw [shB_4 hn h37 (by omega)]; first | (rw [decide_eq_true g48, g57]; rfl) | (rw [g57]; simp; done) | (rw [decide_eq_false g48]; rfl)) | (rw [shB_4n hn h37 (by omega)])), rfl⟩)
  refine AW.skip ?_
  refine AW.seq ?_
  refine AW.draw Fx.mo ?_
  refine LexK.q (q_fieldL _ rfl Fx.fl30_5 rfl rfl) rfl rfl rfl ?_
  refine LexK.r (b_load (r := .a _) rfl Fx.ty28 rfl rfl rfl rfl rfl rfl) rfl ?_
  refine LexK.q (q_len rfl Fx.un28 rfl) rfl rfl rfl ?_
  refine LexK.q (q_eql rfl rfl rfl) rfl rfl rfl ?_
  refine LexK.qD (q_mvC rfl rfl) rfl rfl rfl (fun g75 => ?_) (fun g75 => ?_)
  ·
   have hq : p.args.length = 2 := by have h9 := g75; rw [List.length_map] at h9; omega
   refine LexK.on (q_fieldL _ rfl Fx.fl30_4 rfl rfl) rfl rfl rfl rfl rfl ?_
   refine LexK.rOn (b_load (r := .g [_, _, _, _, _, _, _, _]) rfl Fx.ty27 rfl rfl rfl rfl rfl rfl) rfl rfl rfl ?_
   refine LexK.on (q_call _ rfl Fx.fn60 rfl (absent_any p.flt kf) rfl) rfl rfl rfl rfl rfl ?_
   refine LexK.q (q_pkT rfl rfl rfl) rfl rfl rfl ?_
   refine LexK.qB (q_mvC rfl rfl) rfl rfl rfl (fun g80 => ?_) (fun g80 => ?_)
   ·
    refine LexK.on (q_mvC rfl rfl) rfl rfl rfl rfl rfl ?_
    refine LexK.on (q_fieldL _ rfl Fx.fl30_5 rfl rfl) rfl rfl rfl rfl rfl ?_
    refine LexK.rOn (b_load (r := .a _) rfl Fx.ty28 rfl rfl rfl rfl rfl rfl) rfl rfl rfl ?_
    refine LexK.on (q_index _ rfl Fx.sl28 rfl rfl (by omega) (idx_pl (show 0 < p.args.length by omega))) rfl rfl rfl rfl rfl ?_
    refine LexK.on (q_load (.g [_, _, _, _, _, _, _, _, _, _, _, _, _]) rfl Fx.ty30 rfl rfl rfl) rfl rfl rfl rfl rfl ?_
    refine LexK.on (q_mvC rfl rfl) rfl rfl rfl rfl rfl ?_
    refine LexK.rOn (g_call rfl Fx.fn32 rfl (ih (p.args[0]'(show 0 < p.args.length by omega)) (List.getElem_mem _) l hin (by have h9 := flat_le (f := srM) (show 0 < p.args.length by omega); rw [← srM_in hl] at h9; omega) H hx) rfl rfl rfl) rfl rfl rfl ?_
    refine LexK.q (q_pkT rfl rfl rfl) rfl rfl rfl ?_
    refine LexK.qB (q_mvC rfl rfl) rfl rfl rfl (fun g89 => ?_) (fun g89 => ?_)
    ·
     refine LexK.on (q_mvC rfl rfl) rfl rfl rfl rfl rfl ?_
     refine LexK.on (q_fieldL _ rfl Fx.fl30_5 rfl rfl) rfl rfl rfl rfl rfl ?_
     refine LexK.rOn (b_load (r := .a _) rfl Fx.ty28 rfl rfl rfl rfl rfl rfl) rfl rfl rfl ?_
     refine LexK.on (q_index _ rfl Fx.sl28 rfl rfl (by omega) (idx_pl (show 1 < p.args.length by omega))) rfl rfl rfl rfl rfl ?_
     refine LexK.on (q_load (.g [_, _, _, _, _, _, _, _, _, _, _, _, _]) rfl Fx.ty30 rfl rfl rfl) rfl rfl rfl rfl rfl ?_
     refine LexK.on (q_mvC rfl rfl) rfl rfl rfl rfl rfl ?_
     refine LexK.on (q_fieldL _ rfl Fx.fl30_5 rfl rfl) rfl rfl rfl rfl rfl ?_
     refine LexK.rOn (b_load (r := .a _) rfl Fx.ty28 rfl rfl rfl rfl rfl rfl) rfl rfl rfl ?_
     refine LexK.on (q_index _ rfl Fx.sl28 rfl rfl (by omega) (idx_pl (show 0 < p.args.length by omega))) rfl rfl rfl rfl rfl ?_
     refine LexK.on (q_load (.g [_, _, _, _, _, _, _, _, _, _, _, _, _]) rfl Fx.ty30 rfl rfl rfl) rfl rfl rfl rfl rfl ?_
     refine LexK.on (q_call _ rfl Fx.fn8 rfl (srcs_any (p.args[0]'(show 0 < p.args.length by omega)) (k5 _ (List.getElem_mem _)) (by have h9 := flat_le (f := srM) (show 0 < p.args.length by omega); rw [← srM_in hl] at h9; omega)) rfl) rfl rfl rfl rfl rfl ?_
     refine LexK.on (q_buildSlice _ rfl Fx.el68 rfl (by decide) rfl) rfl rfl rfl rfl rfl ?_
     refine LexK.on (q_call _ rfl Fx.fn59 rfl (catI_any l (srM (p.args[0]'(show 0 < p.args.length by omega))) (by have h9 := flat_le (f := srM) (show 0 < p.args.length by omega); rw [← srM_in hl] at h9; omega)) rfl) rfl rfl rfl rfl rfl ?_
     refine LexK.rOn (g_call rfl Fx.fn32 rfl (ih (p.args[1]'(show 1 < p.args.length by omega)) (List.getElem_mem _) (l ++ srM (p.args[0]'(show 0 < p.args.length by omega))) (inP_app hin (shB_in (p.args[0]'(show 0 < p.args.length by omega)) l (by assumption))) (by have h9 := congrArg List.length (sr_two hl (show p.args.length = 2 by omega)); rw [List.length_append] at h9 ⊢; omega) H hx) rfl rfl rfl) rfl rfl rfl ?_
     refine LexK.q (q_pkT rfl rfl rfl) rfl rfl rfl ?_
     refine LexK.q (q_asC rfl rfl) rfl rfl rfl ?_
     refine LexK.nil (by kernel_rfl) ?_
     refine AW.ret ?_
     exact fin_x (x := .c _) (H) (.tmp rfl .nil) rfl (fun _ _ h => h) (⟨bCe (by first | (rw [shB_5 hn h37 (by omega)]; first | (rw [g80, g89]; rfl) | (rw [g89]; simp; done) | (rw [g80]; rfl)) | (rw [shB_5n hn h37 (by omega)])), rfl⟩)
    iterate 14 refine LexK.off rfl rfl rfl rfl rfl rfl ?_
    refine LexK.q (q_pkF rfl rfl rfl) rfl rfl rfl ?_
    refine LexK.q (q_asC rfl rfl) rfl rfl rfl ?_
    refine LexK.nil (by kernel_rfl) ?_
    refine AW.ret ?_
    exact fin_x (x := .c _) (H) (.tmp rfl .nil) rfl (fun _ _ h => h) (⟨bCe (by first | (rw [shB_5 hn h37 (by omega)]; first | (rw [g80, g89]; rfl) | (rw [g89]; simp; done) | (rw [g80]; rfl)) | (rw [shB_5n hn h37 (by omega)])), rfl⟩)
   iterate 7 refine LexK.off rfl rfl rfl rfl rfl rfl ?_
   refine LexK.q (q_pkF rfl rfl rfl) rfl rfl rfl ?_
   refine LexK.q (q_mvC rfl rfl) rfl rfl rfl ?_
   iterate 14 refine LexK.off rfl rfl rfl rfl rfl rfl ?_
   refine LexK.q (q_pkF rfl rfl rfl) rfl rfl rfl ?_
   refine LexK.q (q_asC rfl rfl) rfl rfl rfl ?_
   refine LexK.nil (by kernel_rfl) ?_
   refine AW.ret ?_
   exact fin_x (x := .c _) (H) (.tmp rfl .nil) rfl (fun _ _ h => h) (⟨bCe (by first | (rw [shB_5 hn h37 (by omega)]; first | (rw [g80, g89]; rfl) | (rw [g89]; simp; done) | (rw [g80]; rfl)) | (rw [shB_5n hn h37 (by omega)])), rfl⟩)
  have hq : ¬ p.args.length = 2 := by have h9 := g75; rw [List.length_map] at h9; omega
  iterate 3 refine LexK.off rfl rfl rfl rfl rfl rfl ?_
  refine LexK.q (q_pkF rfl rfl rfl) rfl rfl rfl ?_
  refine LexK.q (q_mvC rfl rfl) rfl rfl rfl ?_
  iterate 7 refine LexK.off rfl rfl rfl rfl rfl rfl ?_
  refine LexK.q (q_pkF rfl rfl rfl) rfl rfl rfl ?_
  refine LexK.q (q_mvC rfl rfl) rfl rfl rfl ?_
  iterate 14 refine LexK.off rfl rfl rfl rfl rfl rfl ?_
  refine LexK.q (q_pkF rfl rfl rfl) rfl rfl rfl ?_
  refine LexK.q (q_asC rfl rfl) rfl rfl rfl ?_
  refine LexK.nil (by kernel_rfl) ?_
  refine AW.ret ?_
  exact fin_x (x := .c _) (H) (.tmp rfl .nil) rfl (fun _ _ h => h) (⟨bCe (by first | (rw [shB_5 hn h37 (by omega)]; first | (rw [g80, g89]; rfl) | (rw [g89]; simp; done) | (rw [g80]; rfl)) | (rw [shB_5n hn h37 (by omega)])), rfl⟩)
 refine AW.seq ?_
 have hno : shB d0 b p l = false := shB_no (by omega) (by omega)
 refine AW.reg ?_
 refine sA ?_
 refine SeqK.nil ?_
 refine AW.ret ?_
 exact fin_x (x := .c _) (H) (.tmp rfl .nil) rfl (fun _ _ h => h) (⟨bCe hno.symm, rfl⟩)

end Go.Proofs.Ytihlgigaejhilaa.W
namespace Go.Proofs.Ytihlgigaejhilaa.W
open Go.RowKit E
/-! well-formed plans: the sources as a list of one's own, sorted -/
abbrev rwI (l : List Int) : List A := l.map fun n => (.t (.v (.int .i64 n)) : A)
theorem rwI_flat : ∀ l : List Int, (l.map i64T).flatten.map A.t = rwI l
  | [] => rfl
  | a :: r => by rw [List.map_cons, List.flatten_cons, List.map_append, rwI_flat r]; rfl
abbrev srtI (l : List Int) : List Int := l.mergeSort fun x y => decide (x ≤ y)
theorem sort33 (H : Heap) (k : Nat) (l : List Int) (hk : H k = some (.row 3 1 (rwI l))) (hl : l.length ≤ 1000000) :
    E.Spec Try.prog 33 [.a (.os k 0 l.length 1)] H fun x H' => x = .tup [] ∧ H' = upd H k (some (.row 3 1 (rwI (srtI l)))) :=
  E.Spec.sort (Value.int .i64) (fun _ => rfl) srtI (fun l => List.length_mergeSort l) (fun blk off cap zs w => Try.slices_Sort_int blk off cap zs w) (fun p cap w => Try.slices_Sort_int_none p cap w) H k 3 l hk (by omega)

theorem rwI_ld {l : List Int} {i : Nat} (hi : i < l.length) : mkC false (((rwI l).drop (0 + ((i : Nat) : Int).toNat * 1)).take 1) = iC l[i] := by
  rw [Int.toNat_natCast, Nat.zero_add, Nat.mul_one]
  have h : i < (rwI l).length := by rw [List.length_map]; exact hi
  rw [List.drop_eq_getElem_cons h, List.take_succ_cons, List.take_zero, List.getElem_map]; rfl

set_option maxHeartbeats 8000000 in
set_option maxRecDepth 20000 in
theorem srcs_row (H : Heap) (p : Pl) (ho : okP p) (hb : (srM p).length ≤ 1000000) : E.Spec Try.prog 8 [plC p] H fun x H' => ∃ k, H k = none ∧ x = .c (.a (.os k 0 (srM p).length 1)) ∧ H' = upd H k (some (.row 3 1 (rwI (srM p)))) := by
 refine Spec.enter Try.func8 rfl ?_
 refine AW.wk (Wk.keep 28 [(0, .c (plC p))] [] (H) rfl ⟨rfl, trivial⟩ trivial (fun _ _ h => h) rfl) ?_
 refine sR ?_
 refine SeqK.r (b_box (r := [_, _, _, _, _, _, _, _, _, _, _, _, _]) rfl rfl rfl rfl rfl rfl) rfl ?_
 refine sA ?_
 refine SeqK.nil ?_
 refine AW.seq ?_
 refine AW.seq ?_
 obtain ⟨⟨k1, k2, k3, kf, kk⟩, k5⟩ := okP_iff.1 ho
 refine AW.reg ?_
 refine SeqK.q (q_fieldL _ rfl Fx.fl30_0 rfl rfl) rfl rfl rfl ?_
 refine SeqK.r (b_load (r := .a _) rfl Fx.ty3 rfl rfl rfl rfl rfl rfl) rfl ?_
 refine SeqK.nil ?_
 refine AW.block ?_
 refine AW.seq ?_
 refine sR ?_
 refine SeqK.q (q_eql rfl rfl rfl) rfl rfl rfl ?_
 refine sA ?_
 refine SeqK.nil ?_
 refine AW.condD rfl (fun h8 => ?_) (fun h8 => ?_)
 ·
  refine AW.skip ?_
  refine AW.condD rfl (fun h8 => ?_) (fun h8 => ?_)
  ·
   refine sR ?_
   refine SeqK.q (q_fieldL _ rfl Fx.fl30_1 rfl rfl) rfl rfl rfl ?_
   refine SeqK.r (b_load (r := .a _) rfl Fx.ty3 rfl rfl rfl rfl rfl rfl) rfl ?_
   refine SeqK.buildRow rfl rfl Fx.el22 rfl (by decide) (by decide) rfl rfl rfl (fun k14 hk14 => ?_)
   refine sA ?_
   refine SeqK.nil ?_
   refine AW.ret ?_
   exact fin_x (x := .c _) (_) (.tmp rfl .nil) rfl (fun _ _ h => h) (⟨k14, hk14, by rw [srM_leaf (by omega)]; rfl, by rw [srM_leaf (by omega)]; rfl⟩)
  refine AW.skip ?_
  refine AW.seq ?_
  have hn : ¬ (p.k = 1 ∨ p.k = 2 ∨ p.k = 3) := by omega
  have hs := srM_in hn
  refine AW.reg ?_
  refine sA ?_
  refine SeqK.nil ?_
  refine AW.seq ?_
  refine sR ?_
  refine SeqK.q (q_fieldL _ rfl Fx.fl30_5 rfl rfl) rfl rfl rfl ?_
  refine SeqK.r (b_load (r := .a _) rfl Fx.ty28 rfl rfl rfl rfl rfl rfl) rfl ?_
  refine SeqK.q (q_len rfl Fx.un28 rfl) rfl rfl rfl ?_
  refine sM ?_
  refine SeqK.nil ?_
  refine AW.block ?_
  refine AW.row 3 3 1 rfl (fun k0 hk0 => ?_)
  refine AW.loop (fun (i : Nat) s => ∃ (kt m : Nat) (cl : List A), (i ≤ p.args.length ∧ H kt = none ∧ m = ((p.args.take i).flatMap srM).length ∧ cl = rwI ((p.args.take i).flatMap srM)) ∧ s = ⟨28, sp [(1, .lp 1 0), (3, .c (.a (.os kt 0 m 1))), (16, .c (plsC .un p.args)), (17, iX .i64 (((p.args.map plT').length : Nat) : Int)), (18, iX .i64 ((i : Nat) : Int))], lv [(1, .box [.t (.v (.int .i64 p.k)), .t (.v (.int .i64 p.src)), .t (.sl .un 1 (p.cols.map i64T)), .t (.sl .un 8 (p.keys.map exT')), .t (.v (.int .i64 p.flt.op)), .t (.v (.string p.flt.tb)), .t (.v (.string p.flt.nm)), .t (.v (.int .i64 p.flt.ix)), .t (.v (.int .i64 p.flt.vk)), .t (.v (.int .i64 p.flt.vn)), .t (.v (.string p.flt.vs)), .t (.sl .un 8 (p.flt.args.map exT')), .t (.sl .un 13 (p.args.map plT'))])], upd H kt (some (.row 3 1 cl))⟩) (fun i => p.args.length - i) 0 ⟨_, Wk.keep 28 [(1, .lp 1 0), (3, .c (.a (.os (k0) 0 (0) 1))), (16, .c (plsC .un p.args)), (17, iX .i64 (((p.args.map plT').length : Nat) : Int)), (18, iX .i64 ((((0 : Nat)) : Nat) : Int))] [(1, .box [.t (.v (.int .i64 p.k)), .t (.v (.int .i64 p.src)), .t (.sl .un 1 (p.cols.map i64T)), .t (.sl .un 8 (p.keys.map exT')), .t (.v (.int .i64 p.flt.op)), .t (.v (.string p.flt.tb)), .t (.v (.string p.flt.nm)), .t (.v (.int .i64 p.flt.ix)), .t (.v (.int .i64 p.flt.vk)), .t (.v (.int .i64 p.flt.vn)), .t (.v (.string p.flt.vs)), .t (.sl .un 8 (p.flt.args.map exT')), .t (.sl .un 13 (p.args.map plT'))])] (upd H (k0) (some (.row 3 1 ([])))) rfl ⟨rfl, rfl, rfl, rfl, rfl, trivial⟩ ⟨rfl, trivial⟩ (fun _ _ h => h) rfl, k0, 0, [], ⟨Nat.zero_le _, hk0, rfl, rfl⟩, rfl⟩ (fun i s hs => ?_)
  obtain ⟨kt, m, cl, ⟨hi0, hkt, hm, hcl⟩, rfl⟩ := hs
  refine sR ?_
  refine SeqK.q (q_lss rfl rfl rfl) rfl rfl rfl ?_
  refine SeqK.nil ?_
  refine AW.seq ?_
  refine AW.condD rfl (fun h19 => ?_) (fun h19 => ?_)
  ·
   have hi : i < p.args.length := by rw [List.length_map] at h19; omega
   have hfl := flat_le (f := srM) hi
   rw [← hs] at hfl
   refine AW.skip ?_
   refine AW.seq ?_
   refine AW.block ?_
   refine sR ?_
   refine SeqK.q (q_index _ rfl Fx.sl28 rfl rfl (by omega) (idx_pl hi)) rfl rfl rfl ?_
   refine SeqK.q (q_load (.g [_, _, _, _, _, _, _, _, _, _, _, _, _]) rfl Fx.ty30 rfl rfl rfl) rfl rfl rfl ?_
   refine SeqK.r (b_alloc (r := [_, _, _, _, _, _, _, _, _, _, _, _, _]) rfl rfl Fx.ze30 rfl rfl rfl rfl) rfl ?_
   refine SeqK.r (b_store (r := [_, _, _, _, _, _, _, _, _, _, _, _, _]) rfl rfl Fx.ty30 rfl rfl rfl rfl rfl rfl) rfl ?_
   refine SeqK.nil ?_
   refine AW.reg ?_
   refine sM ?_
   refine SeqK.r (b_load (r := .g [_, _, _, _, _, _, _, _, _, _, _, _, _]) rfl Fx.ty30 rfl rfl rfl rfl rfl rfl) rfl ?_
   refine SeqK.q (q_call _ rfl Fx.fn8 rfl (srcs_any p.args[i] (k5 _ (List.getElem_mem hi)) (Nat.le_trans (srM_arg hn (List.getElem_mem hi)) hb)) rfl) rfl rfl rfl ?_
   refine SeqK.appR1 rfl (hkt) rfl Fx.el22 rfl (by rw [hcl, hm, List.length_map, Nat.mul_one]) rfl (by simp only [List.length_map]; omega) rfl rfl (fun k25 hk25 => ?_)
   refine sA ?_
   refine SeqK.nil ?_
   refine AW.reg ?_
   refine SeqK.q (q_add _ rfl rfl rfl (w64 (by omega) (by omega))) rfl rfl rfl ?_
   refine sM ?_
   refine SeqK.nil ?_
   exact ⟨i + 1, _, Wk.keep 28 [(1, .lp 1 0), (3, .c (.a (.os (k25) 0 (m + ((srM p.args[i]).map i64T).length) 1))), (16, .c (plsC .un p.args)), (17, iX .i64 (((p.args.map plT').length : Nat) : Int)), (18, iX .i64 (((i + 1) : Nat) : Int))] [(1, .box [.t (.v (.int .i64 p.k)), .t (.v (.int .i64 p.src)), .t (.sl .un 1 (p.cols.map i64T)), .t (.sl .un 8 (p.keys.map exT')), .t (.v (.int .i64 p.flt.op)), .t (.v (.string p.flt.tb)), .t (.v (.string p.flt.nm)), .t (.v (.int .i64 p.flt.ix)), .t (.v (.int .i64 p.flt.vk)), .t (.v (.int .i64 p.flt.vn)), .t (.v (.string p.flt.vs)), .t (.sl .un 8 (p.flt.args.map exT')), .t (.sl .un 13 (p.args.map plT'))])] (upd H (k25) (some (.row 3 1 (cl ++ ((srM p.args[i]).map i64T).flatten.map .t)))) rfl ⟨rfl, rfl, rfl, rfl, rfl, trivial⟩ ⟨rfl, trivial⟩ (fun _ _ h => h) rfl, by omega, k25, m + ((srM p.args[i]).map i64T).length, cl ++ ((srM p.args[i]).map i64T).flatten.map .t, ⟨hi, hk25, by rw [hm, flat_take hi, List.length_append, List.length_map], by rw [hcl, rwI_flat, flat_take hi, ← List.map_append]⟩, rfl⟩
  refine AW.exit ?_
  refine eth_e ?_
  refine eth_e ?_
  refine exit_here ?_
  refine AW.seq ?_
  obtain rfl : i = p.args.length := by rw [List.length_map] at h19; omega
  rw [List.take_length, ← hs] at hm hcl
  refine AW.reg ?_
  refine sM ?_
  refine sA ?_
  refine SeqK.nil ?_
  refine AW.ret ?_
  exact fin_x (x := .c _) (_) (.tmp rfl .nil) rfl (fun _ _ h => h) (⟨kt, hkt, by rw [hm], by rw [hcl]⟩)
 refine sR ?_
 refine SeqK.q (q_eql rfl rfl rfl) rfl rfl rfl ?_
 refine sA ?_
 refine SeqK.nil ?_
 refine AW.condD rfl (fun h8 => ?_) (fun h8 => ?_)
 ·
  refine AW.skip ?_
  refine AW.condD rfl (fun h8 => ?_) (fun h8 => ?_)
  ·
   refine sR ?_
   refine SeqK.q (q_fieldL _ rfl Fx.fl30_1 rfl rfl) rfl rfl rfl ?_
   refine SeqK.r (b_load (r := .a _) rfl Fx.ty3 rfl rfl rfl rfl rfl rfl) rfl ?_
   refine SeqK.buildRow rfl rfl Fx.el22 rfl (by decide) (by decide) rfl rfl rfl (fun k14 hk14 => ?_)
   refine sA ?_
   refine SeqK.nil ?_
   refine AW.ret ?_
   exact fin_x (x := .c _) (_) (.tmp rfl .nil) rfl (fun _ _ h => h) (⟨k14, hk14, by rw [srM_leaf (by omega)]; rfl, by rw [srM_leaf (by omega)]; rfl⟩)
  refine AW.skip ?_
  refine AW.seq ?_
  have hn : ¬ (p.k = 1 ∨ p.k = 2 ∨ p.k = 3) := by omega
  have hs := srM_in hn
  refine AW.reg ?_
  refine sA ?_
  refine SeqK.nil ?_
  refine AW.seq ?_
  refine sR ?_
  refine SeqK.q (q_fieldL _ rfl Fx.fl30_5 rfl rfl) rfl rfl rfl ?_
  refine SeqK.r (b_load (r := .a _) rfl Fx.ty28 rfl rfl rfl rfl rfl rfl) rfl ?_
  refine SeqK.q (q_len rfl Fx.un28 rfl) rfl rfl rfl ?_
  refine sM ?_
  refine SeqK.nil ?_
  refine AW.block ?_
  refine AW.row 3 3 1 rfl (fun k0 hk0 => ?_)
  refine AW.loop (fun (i : Nat) s => ∃ (kt m : Nat) (cl : List A), (i ≤ p.args.length ∧ H kt = none ∧ m = ((p.args.take i).flatMap srM).length ∧ cl = rwI ((p.args.take i).flatMap srM)) ∧ s = ⟨28, sp [(1, .lp 1 0), (3, .c (.a (.os kt 0 m 1))), (16, .c (plsC .un p.args)), (17, iX .i64 (((p.args.map plT').length : Nat) : Int)), (18, iX .i64 ((i : Nat) : Int))], lv [(1, .box [.t (.v (.int .i64 p.k)), .t (.v (.int .i64 p.src)), .t (.sl .un 1 (p.cols.map i64T)), .t (.sl .un 8 (p.keys.map exT')), .t (.v (.int .i64 p.flt.op)), .t (.v (.string p.flt.tb)), .t (.v (.string p.flt.nm)), .t (.v (.int .i64 p.flt.ix)), .t (.v (.int .i64 p.flt.vk)), .t (.v (.int .i64 p.flt.vn)), .t (.v (.string p.flt.vs)), .t (.sl .un 8 (p.flt.args.map exT')), .t (.sl .un 13 (p.args.map plT'))])], upd H kt (some (.row 3 1 cl))⟩) (fun i => p.args.length - i) 0 ⟨_, Wk.keep 28 [(1, .lp 1 0), (3, .c (.a (.os (k0) 0 (0) 1))), (16, .c (plsC .un p.args)), (17, iX .i64 (((p.args.map plT').length : Nat) : Int)), (18, iX .i64 ((((0 : Nat)) : Nat) : Int))] [(1, .box [.t (.v (.int .i64 p.k)), .t (.v (.int .i64 p.src)), .t (.sl .un 1 (p.cols.map i64T)), .t (.sl .un 8 (p.keys.map exT')), .t (.v (.int .i64 p.flt.op)), .t (.v (.string p.flt.tb)), .t (.v (.string p.flt.nm)), .t (.v (.int .i64 p.flt.ix)), .t (.v (.int .i64 p.flt.vk)), .t (.v (.int .i64 p.flt.vn)), .t (.v (.string p.flt.vs)), .t (.sl .un 8 (p.flt.args.map exT')), .t (.sl .un 13 (p.args.map plT'))])] (upd H (k0) (some (.row 3 1 ([])))) rfl ⟨rfl, rfl, rfl, rfl, rfl, trivial⟩ ⟨rfl, trivial⟩ (fun _ _ h => h) rfl, k0, 0, [], ⟨Nat.zero_le _, hk0, rfl, rfl⟩, rfl⟩ (fun i s hs => ?_)
  obtain ⟨kt, m, cl, ⟨hi0, hkt, hm, hcl⟩, rfl⟩ := hs
  refine sR ?_
  refine SeqK.q (q_lss rfl rfl rfl) rfl rfl rfl ?_
  refine SeqK.nil ?_
  refine AW.seq ?_
  refine AW.condD rfl (fun h19 => ?_) (fun h19 => ?_)
  ·
   have hi : i < p.args.length := by rw [List.length_map] at h19; omega
   have hfl := flat_le (f := srM) hi
   rw [← hs] at hfl
   refine AW.skip ?_
   refine AW.seq ?_
   refine AW.block ?_
   refine sR ?_
   refine SeqK.q (q_index _ rfl Fx.sl28 rfl rfl (by omega) (idx_pl hi)) rfl rfl rfl ?_
   refine SeqK.q (q_load (.g [_, _, _, _, _, _, _, _, _, _, _, _, _]) rfl Fx.ty30 rfl rfl rfl) rfl rfl rfl ?_
   refine SeqK.r (b_alloc (r := [_, _, _, _, _, _, _, _, _, _, _, _, _]) rfl rfl Fx.ze30 rfl rfl rfl rfl) rfl ?_
   refine SeqK.r (b_store (r := [_, _, _, _, _, _, _, _, _, _, _, _, _]) rfl rfl Fx.ty30 rfl rfl rfl rfl rfl rfl) rfl ?_
   refine SeqK.nil ?_
   refine AW.reg ?_
   refine sM ?_
   refine SeqK.r (b_load (r := .g [_, _, _, _, _, _, _, _, _, _, _, _, _]) rfl Fx.ty30 rfl rfl rfl rfl rfl rfl) rfl ?_
   refine SeqK.q (q_call _ rfl Fx.fn8 rfl (srcs_any p.args[i] (k5 _ (List.getElem_mem hi)) (Nat.le_trans (srM_arg hn (List.getElem_mem hi)) hb)) rfl) rfl rfl rfl ?_
   refine SeqK.appR1 rfl (hkt) rfl Fx.el22 rfl (by rw [hcl, hm, List.length_map, Nat.mul_one]) rfl (by simp only [List.length_map]; omega) rfl rfl (fun k25 hk25 => ?_)
   refine sA ?_
   refine SeqK.nil ?_
   refine AW.reg ?_
   refine SeqK.q (q_add _ rfl rfl rfl (w64 (by omega) (by omega))) rfl rfl rfl ?_
   refine sM ?_
   refine SeqK.nil ?_
   exact ⟨i + 1, _, Wk.keep 28 [(1, .lp 1 0), (3, .c (.a (.os (k25) 0 (m + ((srM p.args[i]).map i64T).length) 1))), (16, .c (plsC .un p.args)), (17, iX .i64 (((p.args.map plT').length : Nat) : Int)), (18, iX .i64 (((i + 1) : Nat) : Int))] [(1, .box [.t (.v (.int .i64 p.k)), .t (.v (.int .i64 p.src)), .t (.sl .un 1 (p.cols.map i64T)), .t (.sl .un 8 (p.keys.map exT')), .t (.v (.int .i64 p.flt.op)), .t (.v (.string p.flt.tb)), .t (.v (.string p.flt.nm)), .t (.v (.int .i64 p.flt.ix)), .t (.v (.int .i64 p.flt.vk)), .t (.v (.int .i64 p.flt.vn)), .t (.v (.string p.flt.vs)), .t (.sl .un 8 (p.flt.args.map exT')), .t (.sl .un 13 (p.args.map plT'))])] (upd H (k25) (some (.row 3 1 (cl ++ ((srM p.args[i]).map i64T).flatten.map .t)))) rfl ⟨rfl, rfl, rfl, rfl, rfl, trivial⟩ ⟨rfl, trivial⟩ (fun _ _ h => h) rfl, by omega, k25, m + ((srM p.args[i]).map i64T).length, cl ++ ((srM p.args[i]).map i64T).flatten.map .t, ⟨hi, hk25, by rw [hm, flat_take hi, List.length_append, List.length_map], by rw [hcl, rwI_flat, flat_take hi, ← List.map_append]⟩, rfl⟩
  refine AW.exit ?_
  refine eth_e ?_
  refine eth_e ?_
  refine exit_here ?_
  refine AW.seq ?_
  obtain rfl : i = p.args.length := by rw [List.length_map] at h19; omega
  rw [List.take_length, ← hs] at hm hcl
  refine AW.reg ?_
  refine sM ?_
  refine sA ?_
  refine SeqK.nil ?_
  refine AW.ret ?_
  exact fin_x (x := .c _) (_) (.tmp rfl .nil) rfl (fun _ _ h => h) (⟨kt, hkt, by rw [hm], by rw [hcl]⟩)
 refine AW.reg ?_
 refine SeqK.q (q_eql rfl rfl rfl) rfl rfl rfl ?_
 refine sA ?_
 refine SeqK.nil ?_
 refine AW.condD rfl (fun h8 => ?_) (fun h8 => ?_)
 ·
  refine sR ?_
  refine SeqK.q (q_fieldL _ rfl Fx.fl30_1 rfl rfl) rfl rfl rfl ?_
  refine SeqK.r (b_load (r := .a _) rfl Fx.ty3 rfl rfl rfl rfl rfl rfl) rfl ?_
  refine SeqK.buildRow rfl rfl Fx.el22 rfl (by decide) (by decide) rfl rfl rfl (fun k14 hk14 => ?_)
  refine sA ?_
  refine SeqK.nil ?_
  refine AW.ret ?_
  exact fin_x (x := .c _) (_) (.tmp rfl .nil) rfl (fun _ _ h => h) (⟨k14, hk14, by rw [srM_leaf (by omega)]; rfl, by rw [srM_leaf (by omega)]; rfl⟩)
 refine AW.skip ?_
 refine AW.seq ?_
 have hn : ¬ (p.k = 1 ∨ p.k = 2 ∨ p.k = 3) := by omega
 have hs := srM_in hn
 refine AW.reg ?_
 refine sA ?_
 refine SeqK.nil ?_
 refine AW.seq ?_
 refine sR ?_
 refine SeqK.q (q_fieldL _ rfl Fx.fl30_5 rfl rfl) rfl rfl rfl ?_
 refine SeqK.r (b_load (r := .a _) rfl Fx.ty28 rfl rfl rfl rfl rfl rfl) rfl ?_
 refine SeqK.q (q_len rfl Fx.un28 rfl) rfl rfl rfl ?_
 refine sM ?_
 refine SeqK.nil ?_
 refine AW.block ?_
 refine AW.row 3 3 1 rfl (fun k0 hk0 => ?_)
 refine AW.loop (fun (i : Nat) s => ∃ (kt m : Nat) (cl : List A), (i ≤ p.args.length ∧ H kt = none ∧ m = ((p.args.take i).flatMap srM).length ∧ cl = rwI ((p.args.take i).flatMap srM)) ∧ s = ⟨28, sp [(1, .lp 1 0), (3, .c (.a (.os kt 0 m 1))), (16, .c (plsC .un p.args)), (17, iX .i64 (((p.args.map plT').length : Nat) : Int)), (18, iX .i64 ((i : Nat) : Int))], lv [(1, .box [.t (.v (.int .i64 p.k)), .t (.v (.int .i64 p.src)), .t (.sl .un 1 (p.cols.map i64T)), .t (.sl .un 8 (p.keys.map exT')), .t (.v (.int .i64 p.flt.op)), .t (.v (.string p.flt.tb)), .t (.v (.string p.flt.nm)), .t (.v (.int .i64 p.flt.ix)), .t (.v (.int .i64 p.flt.vk)), .t (.v (.int .i64 p.flt.vn)), .t (.v (.string p.flt.vs)), .t (.sl .un 8 (p.flt.args.map exT')), .t (.sl .un 13 (p.args.map plT'))])], upd H kt (some (.row 3 1 cl))⟩) (fun i => p.args.length - i) 0 ⟨_, Wk.keep 28 [(1, .lp 1 0), (3, .c (.a (.os (k0) 0 (0) 1))), (16, .c (plsC .un p.args)), (17, iX .i64 (((p.args.map plT').length : Nat) : Int)), (18, iX .i64 ((((0 : Nat)) : Nat) : Int))] [(1, .box [.t (.v (.int .i64 p.k)), .t (.v (.int .i64 p.src)), .t (.sl .un 1 (p.cols.map i64T)), .t (.sl .un 8 (p.keys.map exT')), .t (.v (.int .i64 p.flt.op)), .t (.v (.string p.flt.tb)), .t (.v (.string p.flt.nm)), .t (.v (.int .i64 p.flt.ix)), .t (.v (.int .i64 p.flt.vk)), .t (.v (.int .i64 p.flt.vn)), .t (.v (.string p.flt.vs)), .t (.sl .un 8 (p.flt.args.map exT')), .t (.sl .un 13 (p.args.map plT'))])] (upd H (k0) (some (.row 3 1 ([])))) rfl ⟨rfl, rfl, rfl, rfl, rfl, trivial⟩ ⟨rfl, trivial⟩ (fun _ _ h => h) rfl, k0, 0, [], ⟨Nat.zero_le _, hk0, rfl, rfl⟩, rfl⟩ (fun i s hs => ?_)
 obtain ⟨kt, m, cl, ⟨hi0, hkt, hm, hcl⟩, rfl⟩ := hs
 refine sR ?_
 refine SeqK.q (q_lss rfl rfl rfl) rfl rfl rfl ?_
 refine SeqK.nil ?_
 refine AW.seq ?_
 refine AW.condD rfl (fun h19 => ?_) (fun h19 => ?_)
 ·
  have hi : i < p.args.length := by rw [List.length_map] at h19; omega
  have hfl := flat_le (f := srM) hi
  rw [← hs] at hfl
  refine AW.skip ?_
  refine AW.seq ?_
  refine AW.block ?_
  refine sR ?_
  refine SeqK.q (q_index _ rfl Fx.sl28 rfl rfl (by omega) (idx_pl hi)) rfl rfl rfl ?_
  refine SeqK.q (q_load (.g [_, _, _, _, _, _, _, _, _, _, _, _, _]) rfl Fx.ty30 rfl rfl rfl) rfl rfl rfl ?_
  refine SeqK.r (b_alloc (r := [_, _, _, _, _, _, _, _, _, _, _, _, _]) rfl rfl Fx.ze30 rfl rfl rfl rfl) rfl ?_
  refine SeqK.r (b_store (r := [_, _, _, _, _, _, _, _, _, _, _, _, _]) rfl rfl Fx.ty30 rfl rfl rfl rfl rfl rfl) rfl ?_
  refine SeqK.nil ?_
  refine AW.reg ?_
  refine sM ?_
  refine SeqK.r (b_load (r := .g [_, _, _, _, _, _, _, _, _, _, _, _, _]) rfl Fx.ty30 rfl rfl rfl rfl rfl rfl) rfl ?_
  refine SeqK.q (q_call _ rfl Fx.fn8 rfl (srcs_any p.args[i] (k5 _ (List.getElem_mem hi)) (Nat.le_trans (srM_arg hn (List.getElem_mem hi)) hb)) rfl) rfl rfl rfl ?_
  refine SeqK.appR1 rfl (hkt) rfl Fx.el22 rfl (by rw [hcl, hm, List.length_map, Nat.mul_one]) rfl (by simp only [List.length_map]; omega) rfl rfl (fun k25 hk25 => ?_)
  refine sA ?_
  refine SeqK.nil ?_
  refine AW.reg ?_
  refine SeqK.q (q_add _ rfl rfl rfl (w64 (by omega) (by omega))) rfl rfl rfl ?_
  refine sM ?_
  refine SeqK.nil ?_
  exact ⟨i + 1, _, Wk.keep 28 [(1, .lp 1 0), (3, .c (.a (.os (k25) 0 (m + ((srM p.args[i]).map i64T).length) 1))), (16, .c (plsC .un p.args)), (17, iX .i64 (((p.args.map plT').length : Nat) : Int)), (18, iX .i64 (((i + 1) : Nat) : Int))] [(1, .box [.t (.v (.int .i64 p.k)), .t (.v (.int .i64 p.src)), .t (.sl .un 1 (p.cols.map i64T)), .t (.sl .un 8 (p.keys.map exT')), .t (.v (.int .i64 p.flt.op)), .t (.v (.string p.flt.tb)), .t (.v (.string p.flt.nm)), .t (.v (.int .i64 p.flt.ix)), .t (.v (.int .i64 p.flt.vk)), .t (.v (.int .i64 p.flt.vn)), .t (.v (.string p.flt.vs)), .t (.sl .un 8 (p.flt.args.map exT')), .t (.sl .un 13 (p.args.map plT'))])] (upd H (k25) (some (.row 3 1 (cl ++ ((srM p.args[i]).map i64T).flatten.map .t)))) rfl ⟨rfl, rfl, rfl, rfl, rfl, trivial⟩ ⟨rfl, trivial⟩ (fun _ _ h => h) rfl, by omega, k25, m + ((srM p.args[i]).map i64T).length, cl ++ ((srM p.args[i]).map i64T).flatten.map .t, ⟨hi, hk25, by rw [hm, flat_take hi, List.length_append, List.length_map], by rw [hcl, rwI_flat, flat_take hi, ← List.map_append]⟩, rfl⟩
 refine AW.exit ?_
 refine eth_e ?_
 refine eth_e ?_
 refine exit_here ?_
 refine AW.seq ?_
 obtain rfl : i = p.args.length := by rw [List.length_map] at h19; omega
 rw [List.take_length, ← hs] at hm hcl
 refine AW.reg ?_
 refine sM ?_
 refine sA ?_
 refine SeqK.nil ?_
 refine AW.ret ?_
 exact fin_x (x := .c _) (_) (.tmp rfl .nil) rfl (fun _ _ h => h) (⟨kt, hkt, by rw [hm], by rw [hcl]⟩)

theorem shape_any (kx : Nat) (d0 : List Tb) (b : Bd) (hb : okB d0 b) (p : Pl) : okP p → SH d0 b kx p := by
  induction p using Pl.rec' with
  | h p ih => exact fun ho l hin hs H hx => shape_of H kx d0 b hx hb l hin p hs ho fun a ha => ih a ha ((okP_iff.1 ho).2 a ha)
abbrev shpP (d0 : List Tb) (b : Bd) (p : Pl) : Prop := shB d0 b p [] = true ∧ (∀ j (h : j < (srtI (srM p)).length), (srtI (srM p))[j] = (j : Int)) ∧ (srtI (srM p)).length = b.tabs.length
theorem shape_nil (H : Heap) (kx : Nat) (d0 : List Tb) (b : Bd) (hx : H kx = some (.box (stA d0 b))) (hb : okB d0 b) (p : Pl) (ho : okP p) (hs : (srM p).length ≤ 1000000) : E.Spec Try.prog 32 [.a (.bp kx 0), plC p, .a (.t (.v (.slice none 0 0)))] H fun x H' => x = .c (bC (shB d0 b p [])) ∧ H' = H :=
  Spec.arg (l := [.a (.bp kx 0), plC p]) (r := []) (XW.nilU (sz := 1)) (shape_any kx d0 b hb p ho [] (fun _ h => by cases h) (by simpa using hs) H hx)

set_option maxHeartbeats 8000000 in
set_option maxRecDepth 20000 in
theorem shape44_any (H : Heap) (d0 : List Tb) (b : Bd) (hb : okB d0 b) (p : Pl) (ho : okP p) (hs : (srM p).length ≤ 1000000) : E.Spec Try.prog 19 [scC .un d0, bdC b, plC p] H fun x H' => x = .c (bC (decide (shpP d0 b p))) ∧ H' = H := by
 refine Spec.enter Try.func19 rfl ?_
 refine AW.wk (Wk.keep 40 [(0, .c (scC .un d0)), (1, .c (bdC b)), (2, .c (plC p))] [] (H) rfl ⟨rfl, rfl, rfl, trivial⟩ trivial (fun _ _ h => h) rfl) ?_
 refine sR ?_
 refine SeqK.r (b_box (r := [_, _, _, _, _, _, _, _, _, _, _, _, _, _, _, _, _, _, _, _, _, _, _, _, _, _]) rfl rfl rfl rfl rfl rfl) rfl ?_
 refine SeqK.r (b_box (r := [_, _, _, _, _, _, _, _, _, _, _, _, _]) rfl rfl rfl rfl rfl rfl) rfl ?_
 refine sA ?_
 refine SeqK.nil ?_
 refine sR ?_
 refine sM ?_
 refine SeqK.r (b_load (r := .g [_, _, _, _, _, _, _, _, _, _, _, _, _, _, _, _, _, _, _, _, _, _, _, _, _, _]) rfl Fx.ty54 rfl rfl rfl rfl rfl rfl) rfl ?_
 refine SeqK.q (q_build2 (zs := [_, _, _, _, _, _, _, _, _, _, _, _, _, _, _, _, _, _, _, _, _, _, _, _, _, _, _]) (r := [_, _, _, _, _, _, _, _, _, _, _, _, _, _, _, _, _, _, _, _, _, _, _, _, _, _, _]) [(0, 1), (1, 26)] _ rfl Fx.ze81 rfl Fx.bp81 rfl rfl rfl rfl) rfl rfl rfl ?_
 refine SeqK.newBox (r := [_, _, _, _, _, _, _, _, _, _, _, _, _, _, _, _, _, _, _, _, _, _, _, _, _, _, _]) rfl rfl rfl rfl rfl rfl (fun k14 hk14 => ?_)
 refine sA ?_
 refine SeqK.nil ?_
 refine AW.seq ?_
 refine sR ?_
 refine sM ?_
 refine SeqK.r (b_load (r := .g [_, _, _, _, _, _, _, _, _, _, _, _, _]) rfl Fx.ty30 rfl rfl rfl rfl rfl rfl) rfl ?_
 refine SeqK.r (g_call rfl Fx.fn32 rfl (shape_nil _ k14 d0 b (upd_same _ _ _) hb p ho hs) rfl rfl rfl) rfl ?_
 refine SeqK.q (q_not rfl rfl) rfl rfl rfl ?_
 refine SeqK.nil ?_
 refine AW.cond _ rfl (fun h18 => ?_) (fun h18 => ?_)
 ·
  refine sR ?_
  refine sA ?_
  refine SeqK.nil ?_
  refine AW.ret ?_
  exact fin_x (x := .c _) (H) (.tmp rfl .nil) rfl ((fun j o h => upd_sub hk14 j o h)) (⟨bCe (dF (fun h => by rw [h.1] at h18; cases h18)), rfl⟩)
 refine AW.skip ?_
 refine AW.seq ?_
 have hsh : shB d0 b p [] = true := by simpa using h18
 have hyl : (srtI (srM p)).length = (srM p).length := List.length_mergeSort _
 refine AW.reg ?_
 refine SeqK.r (b_load (r := .g [_, _, _, _, _, _, _, _, _, _, _, _, _]) rfl Fx.ty30 rfl rfl rfl rfl rfl rfl) rfl ?_
 refine SeqK.callE rfl rfl rfl rfl Fx.fn8 rfl (srcs_row _ p ho hs) (fun _ _ ⟨k, _, h, _⟩ => by rw [h]; rfl) (fun x20 H20 q20 => ?_)
 obtain ⟨kg, hkg, rfl, rfl⟩ := q20
 refine sA ?_
 refine SeqK.nil ?_
 refine sR ?_
 refine sM ?_
 refine SeqK.callE rfl rfl rfl rfl Fx.fn33 rfl (sort33 _ kg _ (upd_same _ _ _) hs) (fun _ _ h => by rw [h.1]; rfl) (fun x22 H22 q22 => ?_)
 obtain ⟨rfl, hHs⟩ := q22
 rw [upd_upd] at hHs
 subst hHs
 refine SeqK.nil ?_
 refine AW.seq ?_
 refine sR ?_
 refine sM ?_
 refine SeqK.q (q_lenOs rfl Fx.un22 rfl) rfl rfl rfl ?_
 refine sM ?_
 refine SeqK.nil ?_
 refine AW.block ?_
 refine AW.loop (fun (i : Nat) s => (i ≤ (srtI (srM p)).length ∧ ∀ j (h : j < (srtI (srM p)).length), j < i → (srtI (srM p))[j] = (j : Int)) ∧ s = ⟨40, sp [(4, .lp 4 0), (6, .c (bC false)), (8, .c (.a (.os kg 0 (srM p).length 1))), (23, .c (.a (.os kg 0 (srM p).length 1))), (24, iX .i64 (((srM p).length : Nat) : Int)), (25, iX .i64 ((i : Nat) : Int))], lv [(4, .box [.t (.v (.int .i64 5)), .t (.v (.string ⟨#[]⟩)), .t (.v (.slice none 0 0)), .t (.v (.slice none 0 0)), .t (.v (.slice none 0 0)), .t (.v (.slice none 0 0)), .t (.v (.slice none 0 0)), .t (.v (.slice none 0 0)), .t (.v (.slice none 0 0)), .t (.sl .un 2 (b.frm.map srT)), .t (.v (.int .i64 b.wh.op)), .t (.v (.string b.wh.tb)), .t (.v (.string b.wh.nm)), .t (.v (.int .i64 b.wh.ix)), .t (.v (.int .i64 b.wh.vk)), .t (.v (.int .i64 b.wh.vn)), .t (.v (.string b.wh.vs)), .t (.sl .un 8 (b.wh.args.map exT')), .t (.v (.slice none 0 0)), .t (.v (.slice none 0 0)), .t (.v (.int .i64 0)), .t (.v (.string ⟨#[]⟩)), .t (.v (.int .i64 0)), .t (.sl .un 1 (b.tabs.map i64T)), .t (.sl .un 5 (b.vars.map vrT)), .t (.v (.slice none 0 0))])], upd (upd H k14 (some (.box (stA d0 b)))) kg (some (.row 3 1 (rwI (srtI (srM p)))))⟩) (fun i => (srtI (srM p)).length - i) 0 ⟨_, Wk.keep 40 [(4, .lp 4 0), (6, .c (bC false)), (8, .c (.a (.os kg 0 (srM p).length 1))), (23, .c (.a (.os kg 0 (srM p).length 1))), (24, iX .i64 (((srM p).length : Nat) : Int)), (25, iX .i64 ((((0 : Nat)) : Nat) : Int))] [(4, .box [.t (.v (.int .i64 5)), .t (.v (.string ⟨#[]⟩)), .t (.v (.slice none 0 0)), .t (.v (.slice none 0 0)), .t (.v (.slice none 0 0)), .t (.v (.slice none 0 0)), .t (.v (.slice none 0 0)), .t (.v (.slice none 0 0)), .t (.v (.slice none 0 0)), .t (.sl .un 2 (b.frm.map srT)), .t (.v (.int .i64 b.wh.op)), .t (.v (.string b.wh.tb)), .t (.v (.string b.wh.nm)), .t (.v (.int .i64 b.wh.ix)), .t (.v (.int .i64 b.wh.vk)), .t (.v (.int .i64 b.wh.vn)), .t (.v (.string b.wh.vs)), .t (.sl .un 8 (b.wh.args.map exT')), .t (.v (.slice none 0 0)), .t (.v (.slice none 0 0)), .t (.v (.int .i64 0)), .t (.v (.string ⟨#[]⟩)), .t (.v (.int .i64 0)), .t (.sl .un 1 (b.tabs.map i64T)), .t (.sl .un 5 (b.vars.map vrT)), .t (.v (.slice none 0 0))])] (upd (upd H k14 (some (.box (stA d0 b)))) kg (some (.row 3 1 (rwI (srtI (srM p)))))) rfl ⟨rfl, rfl, rfl, rfl, rfl, rfl, trivial⟩ ⟨rfl, trivial⟩ (fun _ _ h => h) rfl, ⟨Nat.zero_le _, up0⟩, rfl⟩ (fun i s hs => ?_)
 obtain ⟨⟨hi0, hU⟩, rfl⟩ := hs
 refine sR ?_
 refine SeqK.q (q_lss rfl rfl rfl) rfl rfl rfl ?_
 refine SeqK.nil ?_
 refine AW.seq ?_
 refine AW.condD rfl (fun h26 => ?_) (fun h26 => ?_)
 ·
  have hi : i < (srtI (srM p)).length := by omega
  refine AW.skip ?_
  refine AW.seq ?_
  refine AW.block ?_
  refine sR ?_
  refine sM ?_
  refine SeqK.q (q_indexOs _ rfl Fx.sl22 rfl rfl (by omega) (by omega) rfl) rfl rfl rfl ?_
  refine SeqK.r (g_loadR rfl Fx.ty3 rfl (by (repeat rw [upd_ne _ _ (by first | assumption | exact Ne.symm (by assumption))]); first | assumption | exact upd_same _ _ _) ((rwI_ld (l := (srtI (srM p))) (i := i) hi)) (by simp; omega) (by decide) rfl rfl) rfl ?_
  refine sA ?_
  refine sA ?_
  refine SeqK.nil ?_
  refine sR ?_
  refine sM ?_
  refine sM ?_
  refine SeqK.q (q_neq rfl rfl rfl) rfl rfl rfl ?_
  refine SeqK.nil ?_
  refine AW.condD rfl (fun h32 => ?_) (fun h32 => ?_)
  ·
   refine sR ?_
   refine sA ?_
   refine SeqK.nil ?_
   refine AW.ret ?_
   exact fin_x (x := .c _) (H) (.tmp rfl .nil) rfl ((fun j o h => upd_sub hkg j o (upd_sub hk14 j o h))) (⟨bCe (dF (fun h => h32 (h.2.1 i hi))), rfl⟩)
  refine AW.skip ?_
  refine AW.reg ?_
  refine SeqK.q (q_add _ rfl rfl rfl (w64 (by omega) (by omega))) rfl rfl rfl ?_
  refine sM ?_
  refine SeqK.nil ?_
  exact ⟨i + 1, _, Wk.keep 40 [(4, .lp 4 0), (6, .c (bC false)), (8, .c (.a (.os kg 0 (srM p).length 1))), (23, .c (.a (.os kg 0 (srM p).length 1))), (24, iX .i64 (((srM p).length : Nat) : Int)), (25, iX .i64 (((i + 1) : Nat) : Int))] [(4, .box [.t (.v (.int .i64 5)), .t (.v (.string ⟨#[]⟩)), .t (.v (.slice none 0 0)), .t (.v (.slice none 0 0)), .t (.v (.slice none 0 0)), .t (.v (.slice none 0 0)), .t (.v (.slice none 0 0)), .t (.v (.slice none 0 0)), .t (.v (.slice none 0 0)), .t (.sl .un 2 (b.frm.map srT)), .t (.v (.int .i64 b.wh.op)), .t (.v (.string b.wh.tb)), .t (.v (.string b.wh.nm)), .t (.v (.int .i64 b.wh.ix)), .t (.v (.int .i64 b.wh.vk)), .t (.v (.int .i64 b.wh.vn)), .t (.v (.string b.wh.vs)), .t (.sl .un 8 (b.wh.args.map exT')), .t (.v (.slice none 0 0)), .t (.v (.slice none 0 0)), .t (.v (.int .i64 0)), .t (.v (.string ⟨#[]⟩)), .t (.v (.int .i64 0)), .t (.sl .un 1 (b.tabs.map i64T)), .t (.sl .un 5 (b.vars.map vrT)), .t (.v (.slice none 0 0))])] (upd (upd H k14 (some (.box (stA d0 b)))) kg (some (.row 3 1 (rwI (srtI (srM p)))))) rfl ⟨rfl, rfl, rfl, rfl, rfl, rfl, trivial⟩ ⟨rfl, trivial⟩ (fun _ _ h => h) rfl, by omega, ⟨hi, upS hi hU (Classical.not_not.1 h32)⟩, rfl⟩
 refine AW.exit ?_
 refine eth_e ?_
 refine eth_e ?_
 refine exit_here ?_
 refine AW.seq ?_
 have hA := upE hU (by omega)
 refine AW.reg ?_
 refine sM ?_
 refine SeqK.q (q_lenOs rfl Fx.un22 rfl) rfl rfl rfl ?_
 refine SeqK.q (q_fieldL _ rfl Fx.fl54_2 rfl rfl) rfl rfl rfl ?_
 refine SeqK.r (b_load (r := .a _) rfl Fx.ty22 rfl rfl rfl rfl rfl rfl) rfl ?_
 refine SeqK.q (q_len rfl Fx.un22 rfl) rfl rfl rfl ?_
 refine SeqK.q (q_eql rfl rfl rfl) rfl rfl rfl ?_
 refine sA ?_
 refine SeqK.nil ?_
 refine AW.ret ?_
 exact fin_x (x := .c _) (H) (.tmp rfl .nil) rfl ((fun j o h => upd_sub hkg j o (upd_sub hk14 j o h))) (⟨bCe (dI ⟨fun h => ⟨hsh, hA, by rw [List.length_map] at h; omega⟩, fun h => by have := h.2.2; rw [List.length_map]; omega⟩), rfl⟩)

end Go.Proofs.Ytihlgigaejhilaa.W
