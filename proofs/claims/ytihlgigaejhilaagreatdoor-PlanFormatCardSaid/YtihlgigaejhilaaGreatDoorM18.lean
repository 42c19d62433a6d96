/- Parts of the proof, one after the other: W23, W24, W25, W26, W27, W28, W29, W30. No condition. -/
import Derived.Test.YtihlgigaejhilaaGreatDoorM17
import Derived.Shelf.Spec.SlicesGrow
set_option linter.unusedSectionVars false
set_option linter.unusedSimpArgs false
set_option linter.unusedVariables false
namespace Go.Proofs.YtihlgigaejhilaaGreatDoor.W
open Go.RowKit E

theorem XW.toNil {sz : Nat} : XW (.c (.a (.t (.sl .ne sz [])))) (tv (.slice none 0 0)) := ⟨rfl, fun c v h => by
  have h : RepA c.μ c.β (.t (.sl .ne sz [])) v := h
  cases h with | t h =>
  cases h with
  | nil => exact tv_rep rfl
  | emp h2 => exact (h2 rfl).elim
  | sl u ne => exact absurd rfl ne⟩
def layI_ren : Go.Shelf.Ren := ⟨fun | 4 => 97 | n => n, fun | 22 => 24 | 25 => 3 | n => n, fun | n => n⟩
theorem layI : Go.Proofs.Lays8.n4 Tryz.prog layI_ren := {
  mixed := by kernel_rfl
  f4 := ⟨"slices.Grow[[]int,int]", by decide, Tryz.func97.trans (congrArg some (by kernel_rfl))⟩
  t0 := Tryz.underlying0
  a0 := Tryz.isAgg0
  z0 := Tryz.sizeOf0
  v0 := Tryz.zeroValue0
  t3 := Tryz.underlying3
  a3 := Tryz.isAgg3
  z3 := Tryz.sizeOf3
  v3 := Tryz.zeroValue3
  t4 := Tryz.underlying4
  a4 := Tryz.isAgg4
  z4 := Tryz.sizeOf4
  v4 := Tryz.zeroValue4
  t9 := Tryz.underlying9
  a9 := Tryz.isAgg9
  z9 := Tryz.sizeOf9
  v9 := Tryz.zeroValue9
  t20 := Tryz.underlying20
  a20 := Tryz.isAgg20
  z20 := Tryz.sizeOf20
  v20 := Tryz.zeroValue20
  t22 := Tryz.underlying24
  a22 := Tryz.isAgg24
  z22 := Tryz.sizeOf24
  v22 := Tryz.zeroValue24 }
theorem growI_any (H : Heap) (N : Nat) (h0 : 0 < N) (hb : N * 8 ≤ 140737488355328) : E.Spec Tryz.prog 97 [.a (.t (.v (.slice none 0 0))), iC (N : Int)] H fun x H' => ∃ k, H k = none ∧ x = .c (.a (.gs k 1)) ∧ H' = upd H k (some (.new 3 1)) := by
  obtain ⟨i, z, g1, g2, g3, g4, g5, g6, g7⟩ := elB_get Fx.el24
  refine E.Spec.fresh [.slice none 0 0, .int .i64 (N : Int)] (y := .new 3 1) (x := fun k => .c (.a (.gs k 1))) (fun _ => rfl) (fun w => ?_) H
  refine (Any8.slices_Grow_grow layI i z g2 g6 (by omega) none 0 0 N [] w (Nat.le_refl _) (by omega) (by rw [g5]; omega) (by omega) (by simp) (fun _ => rfl) (fun a h => by cases h)).mono ?_
  rintro e w' ⟨rfl, rfl⟩
  refine ⟨_, w.heap.size, grownCap w (0 + N) 0 (layI_ren.t 25), rfl, rfl, rfl, rfl, ?_, fun b' hb' => ?_, Nat.le_refl _, fun c hu => ?_, fun c k hk => ?_⟩
  · show w.drew.heap.size ≤ _
    show w.heap.size ≤ (w.heap.push _).size
    rw [Array.size_push]; omega
  · exact Below.heap_alloc w.drew _ b' hb'
  · refine ⟨_, heap_new w.drew _, ?_, grownCap_le_maxLen w _ _ _ (by unfold maxLen; omega), hu⟩
    have h9 := grownCap_ge w (0 + N) 0 (layI_ren.t 25)
    rw [Array.size_append, Array.size_append, size_zeroCells, size_zeroCells, g7]
    show 0 + (0 + N - 0) * 1 + (grownCap w (0 + N) 0 (layI_ren.t 25) - (0 + N)) * 1 = grownCap w (0 + N) 0 (layI_ren.t 25) * 1
    omega
  · exact .gs hk
theorem pIT : ∀ p : List Int, (p.map i64T).flatten.length = p.length * 1
  | [] => rfl
  | a :: r => by
    have := pIT r
    simp only [List.map_cons, List.flatten_cons, List.length_append, this, List.length_cons, List.length_nil]; omega
theorem growI_0 : Pure Tryz.prog 97 [.a (.t (.v (.slice none 0 0))), iC 0] (.c (.a (.t (.v (.slice none 0 0))))) :=
  Pure.of_calls [.slice none 0 0, .int .i64 0] (fun w => Any8.slices_Grow_room layI none 0 0 0 w (by omega) (by omega) (by omega) (by omega)) fun c => .t (.v rfl)

set_option maxHeartbeats 4000000 in
set_option maxRecDepth 20000 in
theorem catI_00 (H : Heap) : E.Spec Tryz.prog 69 [.a (.t (.sl .nn 1 [[.sl .un 1 (([] : List Int).map i64T)], [.sl .un 1 (([] : List Int).map i64T)]]))] H fun x H' => ∃ k, H k = none ∧ x = .c (.a (.os k 0 ([] : List Int).length 1)) ∧ H' = upd H k (some (.row 3 1 ((([] : List Int).map i64T).flatten.map .t))) := by
 refine Spec.enter Tryz.func69 rfl ?_
 refine AW.wk (Wk.keep 36 [(0, .c (.a (.t (.sl .nn 1 [[.sl .un 1 (([] : List Int).map i64T)], [.sl .un 1 (([] : List Int).map i64T)]]))))] [] (H) rfl ⟨rfl, trivial⟩ trivial (fun _ _ h => h) rfl) ?_
 refine sR (sB ?_)
 refine sR (sB ?_)
 refine AW.seq (sR (sM ?_))
 refine Z14 Fx.un61 ?_
 refine sM ?_
 refine Z3 (AW.block (AW.unroll ?_))
 refine sR (Z10 ?_)
 refine Z3 (AW.seq (AW.condT rfl ?_))
 refine AW.skip (AW.seq (AW.block (sR (Z9 Fx.sl61 (rfl) ?_))))
 refine Z11 (.a _) Fx.ty24 ?_
 refine sB ?_
 refine sR (sM ?_)
 refine sM ?_
 refine Z14 Fx.un24 ?_
 refine SeqK.q (q_add _ rfl rfl rfl ((rfl : IntKind.i64.wrap _ = 0))) rfl rfl rfl ?_
 refine sB ?_
 refine sR (sM ?_)
 refine Z10 ?_
 refine Z3 ?_
 refine AW.condD rfl ?_ ?_ <;> intro h20
 ·
  exfalso; simp at h20
 refine AW.skip (AW.reg (Z2 ?_))
 refine sM ?_
 refine Z3 ?_
 first | with_reducible refine LoopW.again ?_ | with_reducible refine eth_n (LoopW.again ?_) | with_reducible refine eb_n (eth_n (LoopW.again ?_)) | with_reducible refine eth_n (eb_n (eth_n (LoopW.again ?_)))
 refine sR (Z10 ?_)
 refine Z3 (AW.seq (AW.condT rfl ?_))
 refine AW.skip (AW.seq (AW.block (sR (Z9 Fx.sl61 (rfl) ?_))))
 refine Z11 (.a _) Fx.ty24 ?_
 refine sB ?_
 refine sR (sM ?_)
 refine sM ?_
 refine Z14 Fx.un24 ?_
 refine SeqK.q (q_add _ rfl rfl rfl ((rfl : IntKind.i64.wrap _ = 0))) rfl rfl rfl ?_
 refine sB ?_
 refine sR (sM ?_)
 refine Z10 ?_
 refine Z3 ?_
 refine AW.condD rfl ?_ ?_ <;> intro h20
 ·
  exfalso; simp at h20
 refine AW.skip (AW.reg (Z2 ?_))
 refine sM ?_
 refine Z3 ?_
 first | with_reducible refine LoopW.again ?_ | with_reducible refine eth_n (LoopW.again ?_) | with_reducible refine eb_n (eth_n (LoopW.again ?_)) | with_reducible refine eth_n (eb_n (eth_n (LoopW.again ?_)))
 refine sR (Z10 ?_)
 refine Z3 (AW.seq (AW.condF rfl ?_))
 refine AW.exit ?_
 refine eth_e ?_
 refine eth_e ?_
 refine exit_here ?_
 refine sR (sM ?_)
 refine Z22 Fx.fn97 (growI_0) ?_
 refine sB ?_
 refine AW.seq (sR (sM ?_))
 refine Z14 Fx.un61 ?_
 refine sM ?_
 refine Z3 (AW.block (AW.unroll ?_))
 refine sR (Z10 ?_)
 refine Z3 (AW.seq (AW.condT rfl ?_))
 refine AW.skip (AW.seq (AW.block (sR (Z9 Fx.sl61 (rfl) ?_))))
 refine Z11 (.a _) Fx.ty24 ?_
 refine sB ?_
 refine AW.reg (sM ?_)
 refine sM ?_
 refine SeqK.q (q_appNil rfl Fx.el24 rfl rfl (by simp)) rfl rfl rfl ?_
 refine SeqK.xw 33 rfl XW.toNil ?_
 refine sB ?_
 refine AW.reg (Z2 ?_)
 refine sM ?_
 refine Z3 ?_
 first | with_reducible refine LoopW.again ?_ | with_reducible refine eth_n (LoopW.again ?_) | with_reducible refine eb_n (eth_n (LoopW.again ?_)) | with_reducible refine eth_n (eb_n (eth_n (LoopW.again ?_)))
 refine sR (Z10 ?_)
 refine Z3 (AW.seq (AW.condT rfl ?_))
 refine AW.skip (AW.seq (AW.block (sR (Z9 Fx.sl61 (rfl) ?_))))
 refine Z11 (.a _) Fx.ty24 ?_
 refine sB ?_
 refine AW.reg (sM ?_)
 refine sM ?_
 refine SeqK.q (q_appNil rfl Fx.el24 rfl rfl (by simp)) rfl rfl rfl ?_
 refine SeqK.xw 33 rfl XW.toNil ?_
 refine sB ?_
 refine AW.reg (Z2 ?_)
 refine sM ?_
 refine Z3 ?_
 first | with_reducible refine LoopW.again ?_ | with_reducible refine eth_n (LoopW.again ?_) | with_reducible refine eb_n (eth_n (LoopW.again ?_)) | with_reducible refine eth_n (eb_n (eth_n (LoopW.again ?_)))
 refine sR (Z10 ?_)
 refine Z3 (AW.seq (AW.condF rfl ?_))
 refine AW.exit ?_
 refine eth_e ?_
 refine eth_e ?_
 refine exit_here ?_
 refine sR (sM ?_)
 refine sB ?_
 refine AW.row 2 3 1 rfl (fun k0 hk0 => ?_)
 refine AW.ret ?_
 exact fin_x (x := .c _) (_) (.tmp rfl .nil) rfl (fun _ _ h => h) (⟨k0, hk0, rfl, rfl⟩)

set_option maxHeartbeats 4000000 in
set_option maxRecDepth 20000 in
theorem catI_a (H : Heap) (a b : List Int) (hl : a.length + b.length ≤ 1000000) (ha : a ≠ []) : E.Spec Tryz.prog 69 [.a (.t (.sl .nn 1 [[.sl .un 1 (a.map i64T)], [.sl .un 1 (b.map i64T)]]))] H fun x H' => ∃ k, H k = none ∧ x = .c (.a (.os k 0 (a ++ b).length 1)) ∧ H' = upd H k (some (.row 3 1 (((a ++ b).map i64T).flatten.map .t))) := by
 have ha0 := List.length_pos_iff.2 ha
 refine Spec.enter Tryz.func69 rfl ?_
 refine AW.wk (Wk.keep 36 [(0, .c (.a (.t (.sl .nn 1 [[.sl .un 1 (a.map i64T)], [.sl .un 1 (b.map i64T)]]))))] [] (H) rfl ⟨rfl, trivial⟩ trivial (fun _ _ h => h) rfl) ?_
 refine sR (sB ?_)
 refine sR (sB ?_)
 refine AW.seq (sR (sM ?_))
 refine Z14 Fx.un61 ?_
 refine sM ?_
 refine Z3 (AW.block (AW.unroll ?_))
 refine sR (Z10 ?_)
 refine Z3 (AW.seq (AW.condT rfl ?_))
 refine AW.skip (AW.seq (AW.block (sR (Z9 Fx.sl61 (rfl) ?_))))
 refine Z11 (.a _) Fx.ty24 ?_
 refine sB ?_
 refine sR (sM ?_)
 refine sM ?_
 refine Z14 Fx.un24 ?_
 refine SeqK.q (q_add _ rfl rfl rfl ((by rw [List.length_map, w64 (by omega) (by omega)]; omega : IntKind.i64.wrap _ = ((a.length : Nat) : Int)))) rfl rfl rfl ?_
 refine sB ?_
 refine sR (sM ?_)
 refine Z10 ?_
 refine Z3 ?_
 refine AW.condD rfl ?_ ?_ <;> intro h20
 ·
  exfalso; omega
 refine AW.skip (AW.reg (Z2 ?_))
 refine sM ?_
 refine Z3 ?_
 first | with_reducible refine LoopW.again ?_ | with_reducible refine eth_n (LoopW.again ?_) | with_reducible refine eb_n (eth_n (LoopW.again ?_)) | with_reducible refine eth_n (eb_n (eth_n (LoopW.again ?_)))
 refine sR (Z10 ?_)
 refine Z3 (AW.seq (AW.condT rfl ?_))
 refine AW.skip (AW.seq (AW.block (sR (Z9 Fx.sl61 (rfl) ?_))))
 refine Z11 (.a _) Fx.ty24 ?_
 refine sB ?_
 refine sR (sM ?_)
 refine sM ?_
 refine Z14 Fx.un24 ?_
 refine SeqK.q (q_add _ rfl rfl rfl ((by rw [List.length_map, w64 (by omega) (by omega)]; omega : IntKind.i64.wrap _ = ((a.length + b.length : Nat) : Int)))) rfl rfl rfl ?_
 refine sB ?_
 refine sR (sM ?_)
 refine Z10 ?_
 refine Z3 ?_
 refine AW.condD rfl ?_ ?_ <;> intro h20
 ·
  exfalso; omega
 refine AW.skip (AW.reg (Z2 ?_))
 refine sM ?_
 refine Z3 ?_
 first | with_reducible refine LoopW.again ?_ | with_reducible refine eth_n (LoopW.again ?_) | with_reducible refine eb_n (eth_n (LoopW.again ?_)) | with_reducible refine eth_n (eb_n (eth_n (LoopW.again ?_)))
 refine sR (Z10 ?_)
 refine Z3 (AW.seq (AW.condF rfl ?_))
 refine AW.exit ?_
 refine eth_e ?_
 refine eth_e ?_
 refine exit_here ?_
 refine sR (sM ?_)
 refine SeqK.callE rfl rfl rfl rfl Fx.fn97 rfl (growI_any _ _ (by omega) (by omega)) (fun _ _ ⟨k, _, h, _⟩ => by rw [h]; rfl) (fun x24 H24 q24 => ?_)
 obtain ⟨kg, hkg, rfl, rfl⟩ := q24
 refine sB ?_
 refine AW.seq (sR (sM ?_))
 refine Z14 Fx.un61 ?_
 refine sM ?_
 refine Z3 (AW.block (AW.unroll ?_))
 refine sR (Z10 ?_)
 refine Z3 (AW.seq (AW.condT rfl ?_))
 refine AW.skip (AW.seq (AW.block (sR (Z9 Fx.sl61 (rfl) ?_))))
 refine Z11 (.a _) Fx.ty24 ?_
 refine sB ?_
 refine AW.reg (sM ?_)
 refine sM ?_
 refine SeqK.any (e_appGS (k := kg) rfl rfl Fx.el24 rfl (upd_same _ _ _) rfl (by rw [List.length_map]; omega) rfl rfl (fun he => absurd he (by simpa using ha)) (fun _ k1 hk1 => ?_))
 obtain ⟨_, hk1⟩ := upd_lt hk1
 rw [upd_back hkg]
 refine sB ?_
 refine AW.reg (Z2 ?_)
 refine sM ?_
 refine Z3 ?_
 first | with_reducible refine LoopW.again ?_ | with_reducible refine eth_n (LoopW.again ?_) | with_reducible refine eb_n (eth_n (LoopW.again ?_)) | with_reducible refine eth_n (eb_n (eth_n (LoopW.again ?_)))
 refine sR (Z10 ?_)
 refine Z3 (AW.seq (AW.condT rfl ?_))
 refine AW.skip (AW.seq (AW.block (sR (Z9 Fx.sl61 (rfl) ?_))))
 refine Z11 (.a _) Fx.ty24 ?_
 refine sB ?_
 refine AW.reg (sM ?_)
 refine sM ?_
 refine SeqK.appR1 rfl hk1 rfl Fx.el24 rfl (by rw [List.length_map, pIT, List.length_map]) rfl (by rw [List.length_map, List.length_map]; omega) rfl rfl (fun k2 hk2 => ?_)
 refine sB ?_
 refine AW.reg (Z2 ?_)
 refine sM ?_
 refine Z3 ?_
 first | with_reducible refine LoopW.again ?_ | with_reducible refine eth_n (LoopW.again ?_) | with_reducible refine eb_n (eth_n (LoopW.again ?_)) | with_reducible refine eth_n (eb_n (eth_n (LoopW.again ?_)))
 refine sR (Z10 ?_)
 refine Z3 (AW.seq (AW.condF rfl ?_))
 refine AW.exit ?_
 refine eth_e ?_
 refine eth_e ?_
 refine exit_here ?_
 refine sR (sM ?_)
 refine sB ?_
 refine AW.ret ?_
 exact fin_x (x := .c _) (_) (.tmp rfl .nil) rfl (fun _ _ h => h) (⟨k2, hk2, by rw [show (a ++ b).length = (a.map i64T).length + (b.map i64T).length by simp], by rw [show ((a ++ b).map i64T).flatten.map A.t = (a.map i64T).flatten.map A.t ++ (b.map i64T).flatten.map A.t by simp]⟩)

set_option maxHeartbeats 4000000 in
set_option maxRecDepth 20000 in
theorem catI_b (H : Heap) (b : List Int) (hl : b.length ≤ 1000000) (hb : b ≠ []) : E.Spec Tryz.prog 69 [.a (.t (.sl .nn 1 [[.sl .un 1 (([] : List Int).map i64T)], [.sl .un 1 (b.map i64T)]]))] H fun x H' => ∃ k, H k = none ∧ x = .c (.a (.os k 0 b.length 1)) ∧ H' = upd H k (some (.row 3 1 ((b.map i64T).flatten.map .t))) := by
 have hb0 := List.length_pos_iff.2 hb
 refine Spec.enter Tryz.func69 rfl ?_
 refine AW.wk (Wk.keep 36 [(0, .c (.a (.t (.sl .nn 1 [[.sl .un 1 (([] : List Int).map i64T)], [.sl .un 1 (b.map i64T)]]))))] [] (H) rfl ⟨rfl, trivial⟩ trivial (fun _ _ h => h) rfl) ?_
 refine sR (sB ?_)
 refine sR (sB ?_)
 refine AW.seq (sR (sM ?_))
 refine Z14 Fx.un61 ?_
 refine sM ?_
 refine Z3 (AW.block (AW.unroll ?_))
 refine sR (Z10 ?_)
 refine Z3 (AW.seq (AW.condT rfl ?_))
 refine AW.skip (AW.seq (AW.block (sR (Z9 Fx.sl61 (rfl) ?_))))
 refine Z11 (.a _) Fx.ty24 ?_
 refine sB ?_
 refine sR (sM ?_)
 refine sM ?_
 refine Z14 Fx.un24 ?_
 refine SeqK.q (q_add _ rfl rfl rfl ((by rw [w64 (by simp) (by simp)]; simp : IntKind.i64.wrap _ = 0))) rfl rfl rfl ?_
 refine sB ?_
 refine sR (sM ?_)
 refine Z10 ?_
 refine Z3 ?_
 refine AW.condD rfl ?_ ?_ <;> intro h20
 ·
  simp at h20
 refine AW.skip (AW.reg (Z2 ?_))
 refine sM ?_
 refine Z3 ?_
 first | with_reducible refine LoopW.again ?_ | with_reducible refine eth_n (LoopW.again ?_) | with_reducible refine eb_n (eth_n (LoopW.again ?_)) | with_reducible refine eth_n (eb_n (eth_n (LoopW.again ?_)))
 refine sR (Z10 ?_)
 refine Z3 (AW.seq (AW.condT rfl ?_))
 refine AW.skip (AW.seq (AW.block (sR (Z9 Fx.sl61 (rfl) ?_))))
 refine Z11 (.a _) Fx.ty24 ?_
 refine sB ?_
 refine sR (sM ?_)
 refine sM ?_
 refine Z14 Fx.un24 ?_
 refine SeqK.q (q_add _ rfl rfl rfl ((by rw [List.length_map, w64 (by omega) (by omega)]; omega : IntKind.i64.wrap _ = ((b.length : Nat) : Int)))) rfl rfl rfl ?_
 refine sB ?_
 refine sR (sM ?_)
 refine Z10 ?_
 refine Z3 ?_
 refine AW.condD rfl ?_ ?_ <;> intro h20
 ·
  exfalso; omega
 refine AW.skip (AW.reg (Z2 ?_))
 refine sM ?_
 refine Z3 ?_
 first | with_reducible refine LoopW.again ?_ | with_reducible refine eth_n (LoopW.again ?_) | with_reducible refine eb_n (eth_n (LoopW.again ?_)) | with_reducible refine eth_n (eb_n (eth_n (LoopW.again ?_)))
 refine sR (Z10 ?_)
 refine Z3 (AW.seq (AW.condF rfl ?_))
 refine AW.exit ?_
 refine eth_e ?_
 refine eth_e ?_
 refine exit_here ?_
 refine sR (sM ?_)
 refine SeqK.callE rfl rfl rfl rfl Fx.fn97 rfl (growI_any _ _ (by omega) (by omega)) (fun _ _ ⟨k, _, h, _⟩ => by rw [h]; rfl) (fun x24 H24 q24 => ?_)
 obtain ⟨kg, hkg, rfl, rfl⟩ := q24
 refine sB ?_
 refine AW.seq (sR (sM ?_))
 refine Z14 Fx.un61 ?_
 refine sM ?_
 refine Z3 (AW.block (AW.unroll ?_))
 refine sR (Z10 ?_)
 refine Z3 (AW.seq (AW.condT rfl ?_))
 refine AW.skip (AW.seq (AW.block (sR (Z9 Fx.sl61 (rfl) ?_))))
 refine Z11 (.a _) Fx.ty24 ?_
 refine sB ?_
 refine AW.reg (sM ?_)
 refine sM ?_
 refine SeqK.any (e_appGS (k := kg) rfl rfl Fx.el24 rfl (upd_same _ _ _) rfl (by simp) rfl rfl (fun _ k1 hk1 => ?_) (fun he => absurd rfl he))
 obtain ⟨_, hk1⟩ := upd_lt hk1
 rw [upd_back hkg]
 refine sB ?_
 refine AW.reg (Z2 ?_)
 refine sM ?_
 refine Z3 ?_
 first | with_reducible refine LoopW.again ?_ | with_reducible refine eth_n (LoopW.again ?_) | with_reducible refine eb_n (eth_n (LoopW.again ?_)) | with_reducible refine eth_n (eb_n (eth_n (LoopW.again ?_)))
 refine sR (Z10 ?_)
 refine Z3 (AW.seq (AW.condT rfl ?_))
 refine AW.skip (AW.seq (AW.block (sR (Z9 Fx.sl61 (rfl) ?_))))
 refine Z11 (.a _) Fx.ty24 ?_
 refine sB ?_
 refine AW.reg (sM ?_)
 refine sM ?_
 refine SeqK.any (e_appGS (k := k1) rfl rfl Fx.el24 rfl (upd_same _ _ _) rfl (by rw [List.length_map]; omega) rfl rfl (fun he => absurd he (by simpa using hb)) (fun _ k2 hk2 => ?_))
 obtain ⟨_, hk2⟩ := upd_lt hk2
 rw [upd_back hk1]
 refine sB ?_
 refine AW.reg (Z2 ?_)
 refine sM ?_
 refine Z3 ?_
 first | with_reducible refine LoopW.again ?_ | with_reducible refine eth_n (LoopW.again ?_) | with_reducible refine eb_n (eth_n (LoopW.again ?_)) | with_reducible refine eth_n (eb_n (eth_n (LoopW.again ?_)))
 refine sR (Z10 ?_)
 refine Z3 (AW.seq (AW.condF rfl ?_))
 refine AW.exit ?_
 refine eth_e ?_
 refine eth_e ?_
 refine exit_here ?_
 refine sR (sM ?_)
 refine sB ?_
 refine AW.ret ?_
 exact fin_x (x := .c _) (_) (.tmp rfl .nil) rfl (fun _ _ h => h) (⟨k2, hk2, by rw [show b.length = (b.map i64T).length by simp], rfl⟩)

theorem catI_row (H : Heap) (a b : List Int) (hl : a.length + b.length ≤ 1000000) : E.Spec Tryz.prog 69 [.a (.t (.sl .nn 1 [[.sl .un 1 (a.map i64T)], [.sl .un 1 (b.map i64T)]]))] H fun x H' => ∃ k, H k = none ∧ x = .c (.a (.os k 0 (a ++ b).length 1)) ∧ H' = upd H k (some (.row 3 1 (((a ++ b).map i64T).flatten.map .t))) := by
  by_cases ha : a = []
  · subst ha
    by_cases hb : b = []
    · subst hb; exact catI_00 H
    · exact catI_b H b (by simpa using hl) hb
  · exact catI_a H a b hl ha
theorem catI_any (a b : List Int) (hl : a.length + b.length ≤ 1000000) : Pure Tryz.prog 69 [.a (.t (.sl .nn 1 [[.sl .un 1 (a.map i64T)], [.sl .un 1 (b.map i64T)]]))] (.c (.a (.t (.sl .un 1 ((a ++ b).map i64T))))) := by
  intro H
  refine E.Spec.freeze (catI_row H a b hl) fun x H' h => ?_
  obtain ⟨k, hk, rfl, rfl⟩ := h
  refine ⟨k, 1, 3, (a ++ b).map i64T, upd_same _ _ _, fun z hz => by obtain ⟨q, _, rfl⟩ := List.mem_map.1 hz; rfl, by decide, ?_, upd_back hk⟩
  simp [fzX, fzC, fzA]

end Go.Proofs.YtihlgigaejhilaaGreatDoor.W
namespace Go.Proofs.YtihlgigaejhilaaGreatDoor.W
open Go.RowKit E
/-! parts of a plan that are well-formed -/
abbrev lfK (p : Pl) : Prop := p.k = 1 ∨ p.k = 2 ∨ p.k = 3
abbrev npP (p : Pl) : Prop := (p.k = 4 ∨ p.k = 5) ∧ p.src = 0 ∧ p.cols.length = 0 ∧ p.keys.length = 0
def shB (d0 : List Tb) (b : Bd) (p : Pl) (l : List Int) : Bool :=
  if lfK p then decide (lfP d0 b l p)
  else if npP p then
    if p.k = 4 then
      if h : p.args.length = 1 then decide (p.flt.op ≠ 0) && (shB d0 b p.args[0] l && ovB d0 b.tabs (l ++ srM p.args[0]) p.flt) else false
    else if h : p.args.length = 2 then decide (p.flt = ex0) && (shB d0 b p.args[0] l && shB d0 b p.args[1] (l ++ srM p.args[0])) else false
  else false
termination_by SizeOf.sizeOf p
decreasing_by all_goals exact pargs_lt (List.getElem_mem _)
theorem shB_leaf {d0 : List Tb} {b : Bd} {p : Pl} {l : List Int} (h : lfK p) : shB d0 b p l = decide (lfP d0 b l p) := by rw [shB, if_pos h]
theorem shB_no {d0 : List Tb} {b : Bd} {p : Pl} {l : List Int} (h : ¬ lfK p) (h2 : ¬ npP p) : shB d0 b p l = false := by rw [shB, if_neg h, if_neg h2]
theorem shB_4 {d0 : List Tb} {b : Bd} {p : Pl} {l : List Int} (h2 : npP p) (h4 : p.k = 4) (h5 : p.args.length = 1) : shB d0 b p l = (decide (p.flt.op ≠ 0) && (shB d0 b p.args[0] l && ovB d0 b.tabs (l ++ srM p.args[0]) p.flt)) := by rw [shB, if_neg (by omega), if_pos h2, if_pos h4, dif_pos h5]
theorem shB_4n {d0 : List Tb} {b : Bd} {p : Pl} {l : List Int} (h2 : npP p) (h4 : p.k = 4) (h5 : ¬ p.args.length = 1) : shB d0 b p l = false := by rw [shB, if_neg (by omega), if_pos h2, if_pos h4, dif_neg h5]
theorem shB_5 {d0 : List Tb} {b : Bd} {p : Pl} {l : List Int} (h2 : npP p) (h4 : ¬ p.k = 4) (h5 : p.args.length = 2) : shB d0 b p l = (decide (p.flt = ex0) && (shB d0 b p.args[0] l && shB d0 b p.args[1] (l ++ srM p.args[0]))) := by rw [shB, if_neg (by omega), if_pos h2, if_neg h4, dif_pos h5]
theorem shB_5n {d0 : List Tb} {b : Bd} {p : Pl} {l : List Int} (h2 : npP p) (h4 : ¬ p.k = 4) (h5 : ¬ p.args.length = 2) : shB d0 b p l = false := by rw [shB, if_neg (by omega), if_pos h2, if_neg h4, dif_neg h5]
theorem sr_one {p : Pl} (h : ¬ lfK p) (h1 : p.args.length = 1) : srM p = srM p.args[0] := by
  rw [srM_in h]
  obtain ⟨a, e⟩ : ∃ a, p.args = [a] := by
    match hx : p.args, h1 with
    | [a], _ => exact ⟨a, rfl⟩
  simp [e]
theorem sr_two {p : Pl} (h : ¬ lfK p) (h1 : p.args.length = 2) : srM p = srM p.args[0] ++ srM p.args[1] := by
  rw [srM_in h]
  obtain ⟨a, c, e⟩ : ∃ a c, p.args = [a, c] := by
    match hx : p.args, h1 with
    | [a, c], _ => exact ⟨a, c, rfl⟩
  simp [e]
theorem shB_in {d0 : List Tb} {b : Bd} (p : Pl) : ∀ l, shB d0 b p l = true → inP b (srM p) := by
  induction p using Pl.rec' with
  | h p ih =>
    intro l h
    by_cases hl : lfK p
    · rw [shB_leaf hl] at h
      intro v hv
      rw [srM_leaf hl, List.mem_singleton] at hv
      rw [hv]; exact (of_decide_eq_true h).1.1
    · by_cases hn : npP p
      · by_cases h4 : p.k = 4
        · by_cases h5 : p.args.length = 1
          · rw [shB_4 hn h4 h5, Bool.and_eq_true, Bool.and_eq_true] at h
            rw [sr_one hl h5]; exact ih _ (List.getElem_mem _) _ h.2.1
          · rw [shB_4n hn h4 h5] at h; cases h
        · by_cases h5 : p.args.length = 2
          · rw [shB_5 hn h4 h5, Bool.and_eq_true, Bool.and_eq_true] at h
            rw [sr_two hl h5]
            intro v hv
            rcases List.mem_append.1 hv with h9 | h9
            · exact ih _ (List.getElem_mem _) _ h.2.1 v h9
            · exact ih _ (List.getElem_mem _) _ h.2.2 v h9
          · rw [shB_5n hn h4 h5] at h; cases h
      · rw [shB_no hl hn] at h; cases h
theorem inP_app {b : Bd} {l m : List Int} (h : inP b l) (k : inP b m) : inP b (l ++ m) := fun v hv => (List.mem_append.1 hv).elim (h v) (k v)
abbrev SH (d0 : List Tb) (b : Bd) (kx : Nat) (p : Pl) : Prop := ∀ l : List Int, inP b l → l.length + (srM p).length ≤ 1000000 → ∀ H : Heap, H kx = some (.box (stA d0 b)) → E.Spec Tryz.prog 38 [.a (.bp kx 0), plC p, iL .un l] H fun x H' => x = .c (bC (shB d0 b p l)) ∧ H' = H

set_option maxHeartbeats 8000000 in
set_option maxRecDepth 20000 in
theorem shape_of (H : Heap) (kx : Nat) (d0 : List Tb) (b : Bd) (hx : H kx = some (.box (stA d0 b))) (hb : okB d0 b) (l : List Int) (hin : inP b l) (p : Pl) (hs : l.length + (srM p).length ≤ 1000000) (ho : okP p) (ih : ∀ a ∈ p.args, SH d0 b kx a) : E.Spec Tryz.prog 38 [.a (.bp kx 0), plC p, iL .un l] H fun x H' => x = .c (bC (shB d0 b p l)) ∧ H' = H := by
 obtain ⟨⟨k1, k2, k3, kf, kk⟩, k5⟩ := okP_iff.1 ho
 refine Spec.enter Tryz.func38 rfl ?_
 refine AW.wk (Wk.keep 105 [(0, .c (.a (.bp kx 0))), (1, .c (plC p)), (2, .c (iL .un l))] [] (H) rfl ⟨rfl, rfl, rfl, trivial⟩ trivial (fun _ _ h => h) rfl) ?_
 refine sR (Z16 (r := [_, _, _, _, _, _, _, _, _, _, _, _, _]) ?_)
 refine sB ?_
 refine AW.seqM (fun s => npP p ∧ s = ⟨105, sp [(0, .c (.a (.bp kx 0))), (2, .c (iL .un l)), (4, .lp 4 0), (6, .c (bC false))], lv [(4, .box (zPl p))], H⟩) ?_ ?_
 ·
  refine sR (Z1 Fx.fl35_0 ?_)
  refine Z0 Fx.ty3 ?_
  refine Z3 (AW.block (AW.seq (sR (Z8 ?_))))
  refine sB ?_
  refine AW.condD rfl ?_ ?_ <;> intro h9
  ·
   refine AW.skip ?_
   refine AW.condD rfl ?_ ?_ <;> intro h9
   ·
    refine sR (sM ?_)
    refine Z12 (r := .g [_, _, _, _, _, _, _, _, _, _, _, _, _]) Fx.ty35 ?_
    refine sM ?_
    refine SeqK.r (g_call rfl Fx.fn67 rfl (leaf_any H kx d0 b hx hb l (by omega) hin p ho) rfl rfl rfl) rfl ?_
    refine sB ?_
    refine AW.ret ?_
    exact f1 (q := ⟨bCe (shB_leaf (by omega)).symm, rfl⟩)
   exfalso; omega
  refine sR (Z8 ?_)
  refine sB ?_
  refine AW.condD rfl ?_ ?_ <;> intro h9
  ·
   refine AW.skip ?_
   refine AW.condD rfl ?_ ?_ <;> intro h9
   ·
    refine sR (sM ?_)
    refine Z12 (r := .g [_, _, _, _, _, _, _, _, _, _, _, _, _]) Fx.ty35 ?_
    refine sM ?_
    refine SeqK.r (g_call rfl Fx.fn67 rfl (leaf_any H kx d0 b hx hb l (by omega) hin p ho) rfl rfl rfl) rfl ?_
    refine sB ?_
    refine AW.ret ?_
    exact f1 (q := ⟨bCe (shB_leaf (by omega)).symm, rfl⟩)
   exfalso; omega
  refine AW.reg (Z8 ?_)
  refine sB ?_
  refine AW.condD rfl ?_ ?_ <;> intro h9
  ·
   refine sR (sM ?_)
   refine Z12 (r := .g [_, _, _, _, _, _, _, _, _, _, _, _, _]) Fx.ty35 ?_
   refine sM ?_
   refine SeqK.r (g_call rfl Fx.fn67 rfl (leaf_any H kx d0 b hx hb l (by omega) hin p ho) rfl rfl rfl) rfl ?_
   refine sB ?_
   refine AW.ret ?_
   exact f1 (q := ⟨bCe (shB_leaf (by omega)).symm, rfl⟩)
  refine AW.seq (sR (Z8 ?_))
  refine sB ?_
  refine AW.condD rfl ?_ ?_ <;> intro h17
  ·
   refine AW.skip ?_
   refine AW.condD rfl ?_ ?_ <;> intro h17
   ·
    refine sR (Z1 Fx.fl35_1 ?_)
    refine Z0 Fx.ty3 ?_
    refine Z49 ?_
    refine Z19 (fun g23 => ?_) (fun g23 => ?_)
    ·
     iterate 4 refine SeqK.off rfl rfl rfl rfl rfl rfl ?_
     refine Z4 ?_
     refine sM ?_
     iterate 4 refine SeqK.off rfl rfl rfl rfl rfl rfl ?_
     refine Z4 ?_
     refine Z3 (AW.condT rfl ?_)
     refine AW.seq ?_
     have hno : shB d0 b p l = false := shB_no (by omega) (by first | omega | (simp only [List.length_map] at *; omega))
     refine AW.reg (sB ?_)
     refine AW.ret ?_
     exact f1 (q := ⟨bCe hno.symm, rfl⟩)
    refine Z6 Fx.fl35_2 ?_
    refine Z5 Fx.ty24 ?_
    refine Z28 Fx.un24 ?_
    refine Z35 ?_
    refine Z7 ?_
    refine Z19 (fun g29 => ?_) (fun g29 => ?_)
    ·
     iterate 4 refine SeqK.off rfl rfl rfl rfl rfl rfl ?_
     refine Z4 ?_
     refine Z3 (AW.condT rfl ?_)
     refine AW.seq ?_
     have hno : shB d0 b p l = false := shB_no (by omega) (by first | omega | (simp only [List.length_map] at *; omega))
     refine AW.reg (sB ?_)
     refine AW.ret ?_
     exact f1 (q := ⟨bCe hno.symm, rfl⟩)
    refine Z6 Fx.fl35_3 ?_
    refine Z5 Fx.ty28 ?_
    refine Z28 Fx.un28 ?_
    refine Z35 ?_
    refine Z7 ?_
    refine Z3 ?_
    refine AW.condD rfl ?_ ?_ <;> intro h34
    ·
     refine AW.seq ?_
     have hno : shB d0 b p l = false := shB_no (by omega) (by first | omega | (simp only [List.length_map] at *; omega))
     refine AW.reg (sB ?_)
     refine AW.ret ?_
     exact f1 (q := ⟨bCe hno.symm, rfl⟩)
    refine AW.skip ?_
    exact ⟨_, by exact Wk.keep 105 _ _ _ rfl ⟨rfl, rfl, rfl, rfl, trivial⟩ ⟨rfl, trivial⟩ (fun _ _ h => h) rfl, by simp only [List.length_map] at *; omega, rfl⟩
   exfalso; omega
  refine AW.reg (Z8 ?_)
  refine sB ?_
  refine AW.condD rfl ?_ ?_ <;> intro h17
  ·
   refine sR (Z1 Fx.fl35_1 ?_)
   refine Z0 Fx.ty3 ?_
   refine Z49 ?_
   refine Z19 (fun g23 => ?_) (fun g23 => ?_)
   ·
    iterate 4 refine SeqK.off rfl rfl rfl rfl rfl rfl ?_
    refine Z4 ?_
    refine sM ?_
    iterate 4 refine SeqK.off rfl rfl rfl rfl rfl rfl ?_
    refine Z4 ?_
    refine Z3 (AW.condT rfl ?_)
    refine AW.seq ?_
    have hno : shB d0 b p l = false := shB_no (by omega) (by first | omega | (simp only [List.length_map] at *; omega))
    refine AW.reg (sB ?_)
    refine AW.ret ?_
    exact f1 (q := ⟨bCe hno.symm, rfl⟩)
   refine Z6 Fx.fl35_2 ?_
   refine Z5 Fx.ty24 ?_
   refine Z28 Fx.un24 ?_
   refine Z35 ?_
   refine Z7 ?_
   refine Z19 (fun g29 => ?_) (fun g29 => ?_)
   ·
    iterate 4 refine SeqK.off rfl rfl rfl rfl rfl rfl ?_
    refine Z4 ?_
    refine Z3 (AW.condT rfl ?_)
    refine AW.seq ?_
    have hno : shB d0 b p l = false := shB_no (by omega) (by first | omega | (simp only [List.length_map] at *; omega))
    refine AW.reg (sB ?_)
    refine AW.ret ?_
    exact f1 (q := ⟨bCe hno.symm, rfl⟩)
   refine Z6 Fx.fl35_3 ?_
   refine Z5 Fx.ty28 ?_
   refine Z28 Fx.un28 ?_
   refine Z35 ?_
   refine Z7 ?_
   refine Z3 ?_
   refine AW.condD rfl ?_ ?_ <;> intro h34
   ·
    refine AW.seq ?_
    have hno : shB d0 b p l = false := shB_no (by omega) (by first | omega | (simp only [List.length_map] at *; omega))
    refine AW.reg (sB ?_)
    refine AW.ret ?_
    exact f1 (q := ⟨bCe hno.symm, rfl⟩)
   refine AW.skip ?_
   exact ⟨_, by exact Wk.keep 105 _ _ _ rfl ⟨rfl, rfl, rfl, rfl, trivial⟩ ⟨rfl, trivial⟩ (fun _ _ h => h) rfl, by simp only [List.length_map] at *; omega, rfl⟩
  refine AW.seq ?_
  have hno : shB d0 b p l = false := shB_no (by omega) (by omega)
  refine AW.reg (sB ?_)
  refine AW.ret ?_
  exact f1 (q := ⟨bCe hno.symm, rfl⟩)
 rintro s ⟨hn, rfl⟩
 have hl : ¬ lfK p := by omega
 refine AW.seq (sR (Z1 Fx.fl35_0 ?_))
 refine Z0 Fx.ty3 ?_
 refine Z8 ?_
 refine Z3 ?_
 refine AW.condD rfl ?_ ?_ <;> intro h37
 ·
  refine AW.seq (AW.draw Fx.mo ?_)
  refine Z23 Fx.fl35_5 ?_
  refine Z20 Fx.ty33 ?_
  refine LexK.q (q_len rfl Fx.un33 rfl) rfl rfl rfl ?_
  refine LexK.q (q_eql rfl rfl rfl) rfl rfl rfl ?_
  refine LexK.qD (q_mvC rfl rfl) rfl rfl rfl (fun g42 => ?_) (fun g42 => ?_)
  ·
   have hq : p.args.length = 1 := by have h9 := g42; rw [List.length_map] at h9; omega
   refine Z24 Fx.fl35_4 ?_
   refine Z24 Fx.fl30_0 ?_
   refine Z21 Fx.ty3 ?_
   refine LexK.on (q_neq rfl rfl rfl) rfl rfl rfl rfl rfl ?_
   refine Z43 ?_
   refine LexK.qD (q_mvC rfl rfl) rfl rfl rfl (fun g48 => ?_) (fun g48 => ?_)
   ·
    refine Z29 ?_
    refine Z24 Fx.fl35_5 ?_
    refine Z21 Fx.ty33 ?_
    refine LexK.on (q_index _ rfl Fx.sl33 rfl rfl (by omega) (idx_pl (show 0 < p.args.length by omega))) rfl rfl rfl rfl rfl ?_
    refine Z39 (.g [_, _, _, _, _, _, _, _, _, _, _, _, _]) Fx.ty35 ?_
    refine Z29 ?_
    refine LexK.rOn (g_call rfl Fx.fn38 rfl (ih (p.args[0]'(show 0 < p.args.length by omega)) (List.getElem_mem _) l hin (by have h9 := flat_le (f := srM) (show 0 < p.args.length by omega); rw [← srM_in hl] at h9; omega) H hx) rfl rfl rfl) rfl rfl rfl ?_
    refine Z43 ?_
    refine LexK.qB (q_mvC rfl rfl) rfl rfl rfl (fun g57 => ?_) (fun g57 => ?_)
    ·
     refine Z29 ?_
     refine Z24 Fx.fl35_4 ?_
     refine LexK.rOn (b_load (r := .g [_, _, _, _, _, _, _, _]) rfl Fx.ty30 rfl rfl rfl rfl rfl rfl) rfl rfl rfl ?_
     refine Z29 ?_
     refine Z24 Fx.fl35_5 ?_
     refine Z21 Fx.ty33 ?_
     refine LexK.on (q_index _ rfl Fx.sl33 rfl rfl (by omega) (idx_pl (show 0 < p.args.length by omega))) rfl rfl rfl rfl rfl ?_
     refine Z39 (.g [_, _, _, _, _, _, _, _, _, _, _, _, _]) Fx.ty35 ?_
     refine LexK.on (q_call _ rfl Fx.fn39 rfl (srcs_any (p.args[0]'(show 0 < p.args.length by omega)) (k5 _ (List.getElem_mem _)) (by have h9 := flat_le (f := srM) (show 0 < p.args.length by omega); rw [← srM_in hl] at h9; omega)) rfl) rfl rfl rfl rfl rfl ?_
     refine LexK.on (q_buildSlice _ rfl Fx.el61 rfl (by decide) rfl) rfl rfl rfl rfl rfl ?_
     refine LexK.on (q_call _ rfl Fx.fn69 rfl (catI_any l (srM (p.args[0]'(show 0 < p.args.length by omega))) (by have h9 := flat_le (f := srM) (show 0 < p.args.length by omega); rw [← srM_in hl] at h9; omega)) rfl) rfl rfl rfl rfl rfl ?_
     refine LexK.rOn (g_call rfl Fx.fn68 rfl (over_any kx d0 b (l ++ srM (p.args[0]'(show 0 < p.args.length by omega))) hb (by rw [List.length_append]; exact Nat.le_trans (by have h9 := flat_le (f := srM) (show 0 < p.args.length by omega); rw [← srM_in hl] at h9; omega) (by omega : 1000000 ≤ _)) (inP_app hin (shB_in (p.args[0]'(show 0 < p.args.length by omega)) l (by assumption))) p.flt kf H hx) rfl rfl rfl) rfl rfl rfl ?_
     refine Z43 ?_
     refine Z36 ?_
     refine Z30 ?_
     refine AW.ret ?_
     exact f1 (q := ⟨bCe (by first | (rw [shB_4 hn h37 (by omega)]; first | (rw [decide_eq_true g48, g57]; rfl) | (rw [g57]; simp; done) | (rw [decide_eq_false g48]; rfl)) | (rw [shB_4n hn h37 (by omega)])), rfl⟩)
    iterate 12 refine LexK.off rfl rfl rfl rfl rfl rfl ?_
    refine Z31 ?_
    refine Z36 ?_
    refine Z30 ?_
    refine AW.ret ?_
    exact f1 (q := ⟨bCe (by first | (rw [shB_4 hn h37 (by omega)]; first | (rw [decide_eq_true g48, g57]; rfl) | (rw [g57]; simp; done) | (rw [decide_eq_false g48]; rfl)) | (rw [shB_4n hn h37 (by omega)])), rfl⟩)
   iterate 7 refine LexK.off rfl rfl rfl rfl rfl rfl ?_
   refine Z31 ?_
   refine Z18 ?_
   iterate 12 refine LexK.off rfl rfl rfl rfl rfl rfl ?_
   refine Z31 ?_
   refine Z36 ?_
   refine Z30 ?_
   refine AW.ret ?_
   exact f1 (q := ⟨bCe (by first | (rw [shB_4 hn h37 (by omega)]; first | (rw [decide_eq_true g48, g57]; rfl) | (rw [g57]; simp; done) | (rw [decide_eq_false g48]; rfl)) | (rw [shB_4n hn h37 (by omega)])), rfl⟩)
  have hq : ¬ p.args.length = 1 := by have h9 := g42; rw [List.length_map] at h9; omega
  iterate 4 refine LexK.off rfl rfl rfl rfl rfl rfl ?_
  refine Z31 ?_
  refine Z18 ?_
  iterate 7 refine LexK.off rfl rfl rfl rfl rfl rfl ?_
  refine Z31 ?_
  refine Z18 ?_
  iterate 12 refine LexK.off rfl rfl rfl rfl rfl rfl ?_
  refine Z31 ?_
  refine Z36 ?_
  refine Z30 ?_
  refine AW.ret ?_
  exact f1 (q := ⟨bCe (by first | (rw [shB_4 hn h37 (by omega)]; first | (rw [decide_eq_true g48, g57]; rfl) | (rw [g57]; simp; done) | (rw [decide_eq_false g48]; rfl)) | (rw [shB_4n hn h37 (by omega)])), rfl⟩)
 refine AW.skip (AW.seq (AW.draw Fx.mo ?_))
 refine Z23 Fx.fl35_5 ?_
 refine Z20 Fx.ty33 ?_
 refine LexK.q (q_len rfl Fx.un33 rfl) rfl rfl rfl ?_
 refine LexK.q (q_eql rfl rfl rfl) rfl rfl rfl ?_
 refine LexK.qD (q_mvC rfl rfl) rfl rfl rfl (fun g75 => ?_) (fun g75 => ?_)
 ·
  have hq : p.args.length = 2 := by have h9 := g75; rw [List.length_map] at h9; omega
  refine Z24 Fx.fl35_4 ?_
  refine LexK.rOn (b_load (r := .g [_, _, _, _, _, _, _, _]) rfl Fx.ty30 rfl rfl rfl rfl rfl rfl) rfl rfl rfl ?_
  refine LexK.on (q_call _ rfl Fx.fn70 rfl (absent_any p.flt kf) rfl) rfl rfl rfl rfl rfl ?_
  refine Z43 ?_
  refine LexK.qB (q_mvC rfl rfl) rfl rfl rfl (fun g80 => ?_) (fun g80 => ?_)
  ·
   refine Z29 ?_
   refine Z24 Fx.fl35_5 ?_
   refine Z21 Fx.ty33 ?_
   refine LexK.on (q_index _ rfl Fx.sl33 rfl rfl (by omega) (idx_pl (show 0 < p.args.length by omega))) rfl rfl rfl rfl rfl ?_
   refine Z39 (.g [_, _, _, _, _, _, _, _, _, _, _, _, _]) Fx.ty35 ?_
   refine Z29 ?_
   refine LexK.rOn (g_call rfl Fx.fn38 rfl (ih (p.args[0]'(show 0 < p.args.length by omega)) (List.getElem_mem _) l hin (by have h9 := flat_le (f := srM) (show 0 < p.args.length by omega); rw [← srM_in hl] at h9; omega) H hx) rfl rfl rfl) rfl rfl rfl ?_
   refine Z43 ?_
   refine LexK.qB (q_mvC rfl rfl) rfl rfl rfl (fun g89 => ?_) (fun g89 => ?_)
   ·
    refine Z29 ?_
    refine Z24 Fx.fl35_5 ?_
    refine Z21 Fx.ty33 ?_
    refine LexK.on (q_index _ rfl Fx.sl33 rfl rfl (by omega) (idx_pl (show 1 < p.args.length by omega))) rfl rfl rfl rfl rfl ?_
    refine Z39 (.g [_, _, _, _, _, _, _, _, _, _, _, _, _]) Fx.ty35 ?_
    refine Z29 ?_
    refine Z24 Fx.fl35_5 ?_
    refine Z21 Fx.ty33 ?_
    refine LexK.on (q_index _ rfl Fx.sl33 rfl rfl (by omega) (idx_pl (show 0 < p.args.length by omega))) rfl rfl rfl rfl rfl ?_
    refine Z39 (.g [_, _, _, _, _, _, _, _, _, _, _, _, _]) Fx.ty35 ?_
    refine LexK.on (q_call _ rfl Fx.fn39 rfl (srcs_any (p.args[0]'(show 0 < p.args.length by omega)) (k5 _ (List.getElem_mem _)) (by have h9 := flat_le (f := srM) (show 0 < p.args.length by omega); rw [← srM_in hl] at h9; omega)) rfl) rfl rfl rfl rfl rfl ?_
    refine LexK.on (q_buildSlice _ rfl Fx.el61 rfl (by decide) rfl) rfl rfl rfl rfl rfl ?_
    refine LexK.on (q_call _ rfl Fx.fn69 rfl (catI_any l (srM (p.args[0]'(show 0 < p.args.length by omega))) (by have h9 := flat_le (f := srM) (show 0 < p.args.length by omega); rw [← srM_in hl] at h9; omega)) rfl) rfl rfl rfl rfl rfl ?_
    refine LexK.rOn (g_call rfl Fx.fn38 rfl (ih (p.args[1]'(show 1 < p.args.length by omega)) (List.getElem_mem _) (l ++ srM (p.args[0]'(show 0 < p.args.length by omega))) (inP_app hin (shB_in (p.args[0]'(show 0 < p.args.length by omega)) l (by assumption))) (by have h9 := congrArg List.length (sr_two hl (show p.args.length = 2 by omega)); rw [List.length_append] at h9 ⊢; omega) H hx) rfl rfl rfl) rfl rfl rfl ?_
    refine Z43 ?_
    refine Z36 ?_
    refine Z30 ?_
    refine AW.ret ?_
    exact f1 (q := ⟨bCe (by first | (rw [shB_5 hn h37 (by omega)]; first | (rw [g80, g89]; rfl) | (rw [g89]; simp; done) | (rw [g80]; rfl)) | (rw [shB_5n hn h37 (by omega)])), rfl⟩)
   iterate 14 refine LexK.off rfl rfl rfl rfl rfl rfl ?_
   refine Z31 ?_
   refine Z36 ?_
   refine Z30 ?_
   refine AW.ret ?_
   exact f1 (q := ⟨bCe (by first | (rw [shB_5 hn h37 (by omega)]; first | (rw [g80, g89]; rfl) | (rw [g89]; simp; done) | (rw [g80]; rfl)) | (rw [shB_5n hn h37 (by omega)])), rfl⟩)
  iterate 7 refine LexK.off rfl rfl rfl rfl rfl rfl ?_
  refine Z31 ?_
  refine Z18 ?_
  iterate 14 refine LexK.off rfl rfl rfl rfl rfl rfl ?_
  refine Z31 ?_
  refine Z36 ?_
  refine Z30 ?_
  refine AW.ret ?_
  exact f1 (q := ⟨bCe (by first | (rw [shB_5 hn h37 (by omega)]; first | (rw [g80, g89]; rfl) | (rw [g89]; simp; done) | (rw [g80]; rfl)) | (rw [shB_5n hn h37 (by omega)])), rfl⟩)
 have hq : ¬ p.args.length = 2 := by have h9 := g75; rw [List.length_map] at h9; omega
 iterate 3 refine LexK.off rfl rfl rfl rfl rfl rfl ?_
 refine Z31 ?_
 refine Z18 ?_
 iterate 7 refine LexK.off rfl rfl rfl rfl rfl rfl ?_
 refine Z31 ?_
 refine Z18 ?_
 iterate 14 refine LexK.off rfl rfl rfl rfl rfl rfl ?_
 refine Z31 ?_
 refine Z36 ?_
 refine Z30 ?_
 refine AW.ret ?_
 exact f1 (q := ⟨bCe (by first | (rw [shB_5 hn h37 (by omega)]; first | (rw [g80, g89]; rfl) | (rw [g89]; simp; done) | (rw [g80]; rfl)) | (rw [shB_5n hn h37 (by omega)])), rfl⟩)

end Go.Proofs.YtihlgigaejhilaaGreatDoor.W
namespace Go.Proofs.YtihlgigaejhilaaGreatDoor.W
open Go.RowKit E
/-! well-formed plans: the sources as a list of one's own, sorted -/
abbrev rwI (l : List Int) : List A := l.map fun n => (.t (.v (.int .i64 n)) : A)
theorem rwI_flat : ∀ l : List Int, (l.map i64T).flatten.map A.t = rwI l
  | [] => rfl
  | a :: r => by rw [List.map_cons, List.flatten_cons, List.map_append, rwI_flat r]; rfl
abbrev srtI (l : List Int) : List Int := l.mergeSort fun x y => decide (x ≤ y)
theorem sort33 (H : Heap) (k : Nat) (l : List Int) (hk : H k = some (.row 3 1 (rwI l))) (hl : l.length ≤ 1000000) :
    E.Spec Tryz.prog 40 [.a (.os k 0 l.length 1)] H fun x H' => x = .tup [] ∧ H' = upd H k (some (.row 3 1 (rwI (srtI l)))) :=
  E.Spec.sort (Value.int .i64) (fun _ => rfl) srtI (fun l => List.length_mergeSort l) (fun blk off cap zs w => Tryz.slices_Sort_int blk off cap zs w) (fun p cap w => Tryz.slices_Sort_int_none p cap w) H k 3 l hk (by omega)

theorem rwI_ld {l : List Int} {i : Nat} (hi : i < l.length) : mkC false (((rwI l).drop (0 + ((i : Nat) : Int).toNat * 1)).take 1) = iC l[i] := by
  rw [Int.toNat_natCast, Nat.zero_add, Nat.mul_one]
  have h : i < (rwI l).length := by rw [List.length_map]; exact hi
  rw [List.drop_eq_getElem_cons h, List.take_succ_cons, List.take_zero, List.getElem_map]; rfl

set_option maxHeartbeats 8000000 in
set_option maxRecDepth 20000 in
theorem srcs_row (H : Heap) (p : Pl) (ho : okP p) (hb : (srM p).length ≤ 1000000) : E.Spec Tryz.prog 39 [plC p] H fun x H' => ∃ k, H k = none ∧ x = .c (.a (.os k 0 (srM p).length 1)) ∧ H' = upd H k (some (.row 3 1 (rwI (srM p)))) := by
 refine Spec.enter Tryz.func39 rfl ?_
 refine AW.wk (Wk.keep 28 [(0, .c (plC p))] [] (H) rfl ⟨rfl, trivial⟩ trivial (fun _ _ h => h) rfl) ?_
 refine sR (Z16 (r := [_, _, _, _, _, _, _, _, _, _, _, _, _]) ?_)
 refine sB ?_
 refine AW.seq (AW.seq ?_)
 obtain ⟨⟨k1, k2, k3, kf, kk⟩, k5⟩ := okP_iff.1 ho
 refine AW.reg (Z1 Fx.fl35_0 ?_)
 refine Z0 Fx.ty3 ?_
 refine Z3 (AW.block (AW.seq (sR (Z8 ?_))))
 refine sB ?_
 refine AW.condD rfl ?_ ?_ <;> intro h8
 ·
  refine AW.skip ?_
  refine AW.condD rfl ?_ ?_ <;> intro h8
  ·
   refine sR (Z1 Fx.fl35_1 ?_)
   refine Z0 Fx.ty3 ?_
   refine SeqK.buildRow rfl rfl Fx.el24 rfl (by decide) (by decide) rfl rfl rfl (fun k14 hk14 => ?_)
   refine sB ?_
   refine AW.ret ?_
   exact fin_x (x := .c _) (_) (.tmp rfl .nil) rfl (fun _ _ h => h) (⟨k14, hk14, by rw [srM_leaf (by omega)]; rfl, by rw [srM_leaf (by omega)]; rfl⟩)
  refine AW.skip (AW.seq ?_)
  have hn : ¬ (p.k = 1 ∨ p.k = 2 ∨ p.k = 3) := by omega
  have hs := srM_in hn
  refine AW.reg (sB ?_)
  refine AW.seq (sR (Z1 Fx.fl35_5 ?_))
  refine Z0 Fx.ty33 ?_
  refine Z14 Fx.un33 ?_
  refine sM ?_
  refine Z3 (AW.block ?_)
  refine AW.row 3 3 1 rfl (fun k0 hk0 => ?_)
  refine AW.loop (fun (i : Nat) s => ∃ (kt m : Nat) (cl : List A), (i ≤ p.args.length ∧ H kt = none ∧ m = ((p.args.take i).flatMap srM).length ∧ cl = rwI ((p.args.take i).flatMap srM)) ∧ s = ⟨28, sp [(1, .lp 1 0), (3, .c (.a (.os kt 0 m 1))), (16, .c (plsC .un p.args)), (17, iX .i64 (((p.args.map plT').length : Nat) : Int)), (18, iX .i64 ((i : Nat) : Int))], lv [(1, .box (zPl p))], upd H kt (some (.row 3 1 cl))⟩) (fun i => p.args.length - i) 0 ⟨_, by exact Wk.keep 28 _ _ _ rfl ⟨rfl, rfl, rfl, rfl, rfl, trivial⟩ ⟨rfl, trivial⟩ (fun _ _ h => h) rfl, k0, 0, [], ⟨Nat.zero_le _, hk0, rfl, rfl⟩, rfl⟩ (fun i s hs => ?_)
  obtain ⟨kt, m, cl, ⟨hi0, hkt, hm, hcl⟩, rfl⟩ := hs
  refine sR (Z10 ?_)
  refine Z3 (AW.seq ?_)
  refine AW.condD rfl ?_ ?_ <;> intro h19
  ·
   have hi : i < p.args.length := by rw [List.length_map] at h19; omega
   have hfl := flat_le (f := srM) hi
   rw [← hs] at hfl
   refine AW.skip (AW.seq (AW.block (sR (Z9 Fx.sl33 (idx_pl hi) ?_))))
   refine Z11 (.g [_, _, _, _, _, _, _, _, _, _, _, _, _]) Fx.ty35 ?_
   refine Z25 (r := [_, _, _, _, _, _, _, _, _, _, _, _, _]) Fx.ze35 ?_
   refine Z15 (r := [_, _, _, _, _, _, _, _, _, _, _, _, _]) Fx.ty35 ?_
   refine Z3 (AW.reg (sM ?_))
   refine Z12 (r := .g [_, _, _, _, _, _, _, _, _, _, _, _, _]) Fx.ty35 ?_
   refine Z22 Fx.fn39 (srcs_any p.args[i] (k5 _ (List.getElem_mem hi)) (Nat.le_trans (srM_arg hn (List.getElem_mem hi)) hb)) ?_
   refine SeqK.appR1 rfl (hkt) rfl Fx.el24 rfl (by rw [hcl, hm, List.length_map, Nat.mul_one]) rfl (by simp only [List.length_map]; omega) rfl rfl (fun k25 hk25 => ?_)
   refine sB ?_
   refine AW.reg (Z2 ?_)
   refine sM ?_
   refine Z3 ?_
   exact ⟨i + 1, _, by exact Wk.keep 28 _ _ _ rfl ⟨rfl, rfl, rfl, rfl, rfl, trivial⟩ ⟨rfl, trivial⟩ (fun _ _ h => h) rfl, by omega, k25, m + ((srM p.args[i]).map i64T).length, cl ++ ((srM p.args[i]).map i64T).flatten.map .t, ⟨hi, hk25, by rw [hm, flat_take hi, List.length_append, List.length_map], by rw [hcl, rwI_flat, flat_take hi, ← List.map_append]⟩, rfl⟩
  refine AW.exit ?_
  refine eth_e ?_
  refine eth_e ?_
  refine exit_here ?_
  refine AW.seq ?_
  obtain rfl : i = p.args.length := by rw [List.length_map] at h19; omega
  rw [List.take_length, ← hs] at hm hcl
  refine AW.reg (sM ?_)
  refine sB ?_
  refine AW.ret ?_
  exact fin_x (x := .c _) (_) (.tmp rfl .nil) rfl (fun _ _ h => h) (⟨kt, hkt, by rw [hm], by rw [hcl]⟩)
 refine sR (Z8 ?_)
 refine sB ?_
 refine AW.condD rfl ?_ ?_ <;> intro h8
 ·
  refine AW.skip ?_
  refine AW.condD rfl ?_ ?_ <;> intro h8
  ·
   refine sR (Z1 Fx.fl35_1 ?_)
   refine Z0 Fx.ty3 ?_
   refine SeqK.buildRow rfl rfl Fx.el24 rfl (by decide) (by decide) rfl rfl rfl (fun k14 hk14 => ?_)
   refine sB ?_
   refine AW.ret ?_
   exact fin_x (x := .c _) (_) (.tmp rfl .nil) rfl (fun _ _ h => h) (⟨k14, hk14, by rw [srM_leaf (by omega)]; rfl, by rw [srM_leaf (by omega)]; rfl⟩)
  refine AW.skip (AW.seq ?_)
  have hn : ¬ (p.k = 1 ∨ p.k = 2 ∨ p.k = 3) := by omega
  have hs := srM_in hn
  refine AW.reg (sB ?_)
  refine AW.seq (sR (Z1 Fx.fl35_5 ?_))
  refine Z0 Fx.ty33 ?_
  refine Z14 Fx.un33 ?_
  refine sM ?_
  refine Z3 (AW.block ?_)
  refine AW.row 3 3 1 rfl (fun k0 hk0 => ?_)
  refine AW.loop (fun (i : Nat) s => ∃ (kt m : Nat) (cl : List A), (i ≤ p.args.length ∧ H kt = none ∧ m = ((p.args.take i).flatMap srM).length ∧ cl = rwI ((p.args.take i).flatMap srM)) ∧ s = ⟨28, sp [(1, .lp 1 0), (3, .c (.a (.os kt 0 m 1))), (16, .c (plsC .un p.args)), (17, iX .i64 (((p.args.map plT').length : Nat) : Int)), (18, iX .i64 ((i : Nat) : Int))], lv [(1, .box (zPl p))], upd H kt (some (.row 3 1 cl))⟩) (fun i => p.args.length - i) 0 ⟨_, by exact Wk.keep 28 _ _ _ rfl ⟨rfl, rfl, rfl, rfl, rfl, trivial⟩ ⟨rfl, trivial⟩ (fun _ _ h => h) rfl, k0, 0, [], ⟨Nat.zero_le _, hk0, rfl, rfl⟩, rfl⟩ (fun i s hs => ?_)
  obtain ⟨kt, m, cl, ⟨hi0, hkt, hm, hcl⟩, rfl⟩ := hs
  refine sR (Z10 ?_)
  refine Z3 (AW.seq ?_)
  refine AW.condD rfl ?_ ?_ <;> intro h19
  ·
   have hi : i < p.args.length := by rw [List.length_map] at h19; omega
   have hfl := flat_le (f := srM) hi
   rw [← hs] at hfl
   refine AW.skip (AW.seq (AW.block (sR (Z9 Fx.sl33 (idx_pl hi) ?_))))
   refine Z11 (.g [_, _, _, _, _, _, _, _, _, _, _, _, _]) Fx.ty35 ?_
   refine Z25 (r := [_, _, _, _, _, _, _, _, _, _, _, _, _]) Fx.ze35 ?_
   refine Z15 (r := [_, _, _, _, _, _, _, _, _, _, _, _, _]) Fx.ty35 ?_
   refine Z3 (AW.reg (sM ?_))
   refine Z12 (r := .g [_, _, _, _, _, _, _, _, _, _, _, _, _]) Fx.ty35 ?_
   refine Z22 Fx.fn39 (srcs_any p.args[i] (k5 _ (List.getElem_mem hi)) (Nat.le_trans (srM_arg hn (List.getElem_mem hi)) hb)) ?_
   refine SeqK.appR1 rfl (hkt) rfl Fx.el24 rfl (by rw [hcl, hm, List.length_map, Nat.mul_one]) rfl (by simp only [List.length_map]; omega) rfl rfl (fun k25 hk25 => ?_)
   refine sB ?_
   refine AW.reg (Z2 ?_)
   refine sM ?_
   refine Z3 ?_
   exact ⟨i + 1, _, by exact Wk.keep 28 _ _ _ rfl ⟨rfl, rfl, rfl, rfl, rfl, trivial⟩ ⟨rfl, trivial⟩ (fun _ _ h => h) rfl, by omega, k25, m + ((srM p.args[i]).map i64T).length, cl ++ ((srM p.args[i]).map i64T).flatten.map .t, ⟨hi, hk25, by rw [hm, flat_take hi, List.length_append, List.length_map], by rw [hcl, rwI_flat, flat_take hi, ← List.map_append]⟩, rfl⟩
  refine AW.exit ?_
  refine eth_e ?_
  refine eth_e ?_
  refine exit_here ?_
  refine AW.seq ?_
  obtain rfl : i = p.args.length := by rw [List.length_map] at h19; omega
  rw [List.take_length, ← hs] at hm hcl
  refine AW.reg (sM ?_)
  refine sB ?_
  refine AW.ret ?_
  exact fin_x (x := .c _) (_) (.tmp rfl .nil) rfl (fun _ _ h => h) (⟨kt, hkt, by rw [hm], by rw [hcl]⟩)
 refine AW.reg (Z8 ?_)
 refine sB ?_
 refine AW.condD rfl ?_ ?_ <;> intro h8
 ·
  refine sR (Z1 Fx.fl35_1 ?_)
  refine Z0 Fx.ty3 ?_
  refine SeqK.buildRow rfl rfl Fx.el24 rfl (by decide) (by decide) rfl rfl rfl (fun k14 hk14 => ?_)
  refine sB ?_
  refine AW.ret ?_
  exact fin_x (x := .c _) (_) (.tmp rfl .nil) rfl (fun _ _ h => h) (⟨k14, hk14, by rw [srM_leaf (by omega)]; rfl, by rw [srM_leaf (by omega)]; rfl⟩)
 refine AW.skip (AW.seq ?_)
 have hn : ¬ (p.k = 1 ∨ p.k = 2 ∨ p.k = 3) := by omega
 have hs := srM_in hn
 refine AW.reg (sB ?_)
 refine AW.seq (sR (Z1 Fx.fl35_5 ?_))
 refine Z0 Fx.ty33 ?_
 refine Z14 Fx.un33 ?_
 refine sM ?_
 refine Z3 (AW.block ?_)
 refine AW.row 3 3 1 rfl (fun k0 hk0 => ?_)
 refine AW.loop (fun (i : Nat) s => ∃ (kt m : Nat) (cl : List A), (i ≤ p.args.length ∧ H kt = none ∧ m = ((p.args.take i).flatMap srM).length ∧ cl = rwI ((p.args.take i).flatMap srM)) ∧ s = ⟨28, sp [(1, .lp 1 0), (3, .c (.a (.os kt 0 m 1))), (16, .c (plsC .un p.args)), (17, iX .i64 (((p.args.map plT').length : Nat) : Int)), (18, iX .i64 ((i : Nat) : Int))], lv [(1, .box (zPl p))], upd H kt (some (.row 3 1 cl))⟩) (fun i => p.args.length - i) 0 ⟨_, by exact Wk.keep 28 _ _ _ rfl ⟨rfl, rfl, rfl, rfl, rfl, trivial⟩ ⟨rfl, trivial⟩ (fun _ _ h => h) rfl, k0, 0, [], ⟨Nat.zero_le _, hk0, rfl, rfl⟩, rfl⟩ (fun i s hs => ?_)
 obtain ⟨kt, m, cl, ⟨hi0, hkt, hm, hcl⟩, rfl⟩ := hs
 refine sR (Z10 ?_)
 refine Z3 (AW.seq ?_)
 refine AW.condD rfl ?_ ?_ <;> intro h19
 ·
  have hi : i < p.args.length := by rw [List.length_map] at h19; omega
  have hfl := flat_le (f := srM) hi
  rw [← hs] at hfl
  refine AW.skip (AW.seq (AW.block (sR (Z9 Fx.sl33 (idx_pl hi) ?_))))
  refine Z11 (.g [_, _, _, _, _, _, _, _, _, _, _, _, _]) Fx.ty35 ?_
  refine Z25 (r := [_, _, _, _, _, _, _, _, _, _, _, _, _]) Fx.ze35 ?_
  refine Z15 (r := [_, _, _, _, _, _, _, _, _, _, _, _, _]) Fx.ty35 ?_
  refine Z3 (AW.reg (sM ?_))
  refine Z12 (r := .g [_, _, _, _, _, _, _, _, _, _, _, _, _]) Fx.ty35 ?_
  refine Z22 Fx.fn39 (srcs_any p.args[i] (k5 _ (List.getElem_mem hi)) (Nat.le_trans (srM_arg hn (List.getElem_mem hi)) hb)) ?_
  refine SeqK.appR1 rfl (hkt) rfl Fx.el24 rfl (by rw [hcl, hm, List.length_map, Nat.mul_one]) rfl (by simp only [List.length_map]; omega) rfl rfl (fun k25 hk25 => ?_)
  refine sB ?_
  refine AW.reg (Z2 ?_)
  refine sM ?_
  refine Z3 ?_
  exact ⟨i + 1, _, by exact Wk.keep 28 _ _ _ rfl ⟨rfl, rfl, rfl, rfl, rfl, trivial⟩ ⟨rfl, trivial⟩ (fun _ _ h => h) rfl, by omega, k25, m + ((srM p.args[i]).map i64T).length, cl ++ ((srM p.args[i]).map i64T).flatten.map .t, ⟨hi, hk25, by rw [hm, flat_take hi, List.length_append, List.length_map], by rw [hcl, rwI_flat, flat_take hi, ← List.map_append]⟩, rfl⟩
 refine AW.exit ?_
 refine eth_e ?_
 refine eth_e ?_
 refine exit_here ?_
 refine AW.seq ?_
 obtain rfl : i = p.args.length := by rw [List.length_map] at h19; omega
 rw [List.take_length, ← hs] at hm hcl
 refine AW.reg (sM ?_)
 refine sB ?_
 refine AW.ret ?_
 exact fin_x (x := .c _) (_) (.tmp rfl .nil) rfl (fun _ _ h => h) (⟨kt, hkt, by rw [hm], by rw [hcl]⟩)

theorem shape_any (kx : Nat) (d0 : List Tb) (b : Bd) (hb : okB d0 b) (p : Pl) : okP p → SH d0 b kx p := by
  induction p using Pl.rec' with
  | h p ih => exact fun ho l hin hs H hx => shape_of H kx d0 b hx hb l hin p hs ho fun a ha => ih a ha ((okP_iff.1 ho).2 a ha)
abbrev shpP (d0 : List Tb) (b : Bd) (p : Pl) : Prop := shB d0 b p [] = true ∧ (∀ j (h : j < (srtI (srM p)).length), (srtI (srM p))[j] = (j : Int)) ∧ (srtI (srM p)).length = b.tabs.length
theorem shape_nil (H : Heap) (kx : Nat) (d0 : List Tb) (b : Bd) (hx : H kx = some (.box (stA d0 b))) (hb : okB d0 b) (p : Pl) (ho : okP p) (hs : (srM p).length ≤ 1000000) : E.Spec Tryz.prog 38 [.a (.bp kx 0), plC p, .a (.t (.v (.slice none 0 0)))] H fun x H' => x = .c (bC (shB d0 b p [])) ∧ H' = H :=
  Spec.arg (l := [.a (.bp kx 0), plC p]) (r := []) (XW.nilU (sz := 1)) (shape_any kx d0 b hb p ho [] (fun _ h => by cases h) (by simpa using hs) H hx)

set_option maxHeartbeats 8000000 in
set_option maxRecDepth 20000 in
theorem shape44_any (H : Heap) (d0 : List Tb) (b : Bd) (hb : okB d0 b) (p : Pl) (ho : okP p) (hs : (srM p).length ≤ 1000000) : E.Spec Tryz.prog 17 [scC .un d0, bdC b, plC p] H fun x H' => x = .c (bC (decide (shpP d0 b p))) ∧ H' = H := by
 refine Spec.enter Tryz.func17 rfl ?_
 refine AW.wk (Wk.keep 40 [(0, .c (scC .un d0)), (1, .c (bdC b)), (2, .c (plC p))] [] (H) rfl ⟨rfl, rfl, rfl, trivial⟩ trivial (fun _ _ h => h) rfl) ?_
 refine sR (Z16 (r := [_, _, _, _, _, _, _, _, _, _, _, _, _, _, _, _, _, _, _, _, _, _, _, _, _, _]) ?_)
 refine Z16 (r := [_, _, _, _, _, _, _, _, _, _, _, _, _]) ?_
 refine sB ?_
 refine sR (sM ?_)
 refine Z12 (r := .g [_, _, _, _, _, _, _, _, _, _, _, _, _, _, _, _, _, _, _, _, _, _, _, _, _, _]) Fx.ty51 ?_
 refine Z34 (zs := [_, _, _, _, _, _, _, _, _, _, _, _, _, _, _, _, _, _, _, _, _, _, _, _, _, _, _]) (r := [_, _, _, _, _, _, _, _, _, _, _, _, _, _, _, _, _, _, _, _, _, _, _, _, _, _, _]) [(0, 1), (1, 26)] Fx.ze78 Fx.bp78 ?_
 refine SeqK.newBox (r := [_, _, _, _, _, _, _, _, _, _, _, _, _, _, _, _, _, _, _, _, _, _, _, _, _, _, _]) rfl rfl rfl rfl rfl rfl (fun k14 hk14 => ?_)
 refine sB ?_
 refine AW.seq (sR (sM ?_))
 refine Z12 (r := .g [_, _, _, _, _, _, _, _, _, _, _, _, _]) Fx.ty35 ?_
 refine Z53 Fx.fn38 (shape_nil _ k14 d0 b (upd_same _ _ _) hb p ho hs) ?_
 refine Z33 ?_
 refine Z3 ?_
 refine AW.cond _ rfl (fun h18 => ?_) (fun h18 => ?_)
 ·
  refine sR (sB ?_)
  refine AW.ret ?_
  exact fin_x (x := .c _) (H) (.tmp rfl .nil) rfl ((fun j o h => upd_sub hk14 j o h)) (⟨bCe (dF (fun h => by rw [h.1] at h18; cases h18)), rfl⟩)
 refine AW.skip (AW.seq ?_)
 have hsh : shB d0 b p [] = true := by simpa using h18
 have hyl : (srtI (srM p)).length = (srM p).length := List.length_mergeSort _
 refine AW.reg (Z12 (r := .g [_, _, _, _, _, _, _, _, _, _, _, _, _]) Fx.ty35 ?_)
 refine SeqK.callE rfl rfl rfl rfl Fx.fn39 rfl (srcs_row _ p ho hs) (fun _ _ ⟨k, _, h, _⟩ => by rw [h]; rfl) (fun x20 H20 q20 => ?_)
 obtain ⟨kg, hkg, rfl, rfl⟩ := q20
 refine sB ?_
 refine sR (sM ?_)
 refine SeqK.callE rfl rfl rfl rfl Fx.fn40 rfl (sort33 _ kg _ (upd_same _ _ _) hs) (fun _ _ h => by rw [h.1]; rfl) (fun x22 H22 q22 => ?_)
 obtain ⟨rfl, hHs⟩ := q22
 rw [upd_upd] at hHs
 subst hHs
 refine Z3 (AW.seq (sR (sM ?_)))
 refine SeqK.q (q_lenOs rfl Fx.un24 rfl) rfl rfl rfl ?_
 refine sM ?_
 refine Z3 (AW.block ?_)
 refine AW.loop (fun (i : Nat) s => (i ≤ (srtI (srM p)).length ∧ ∀ j (h : j < (srtI (srM p)).length), j < i → (srtI (srM p))[j] = (j : Int)) ∧ s = ⟨40, sp [(4, .lp 4 0), (6, .c (bC false)), (8, .c (.a (.os kg 0 (srM p).length 1))), (23, .c (.a (.os kg 0 (srM p).length 1))), (24, iX .i64 (((srM p).length : Nat) : Int)), (25, iX .i64 ((i : Nat) : Int))], lv [(4, .box (zBd b))], upd (upd H k14 (some (.box (stA d0 b)))) kg (some (.row 3 1 (rwI (srtI (srM p)))))⟩) (fun i => (srtI (srM p)).length - i) 0 ⟨_, by exact Wk.keep 40 _ _ _ rfl ⟨rfl, rfl, rfl, rfl, rfl, rfl, trivial⟩ ⟨rfl, trivial⟩ (fun _ _ h => h) rfl, ⟨Nat.zero_le _, up0⟩, rfl⟩ (fun i s hs => ?_)
 obtain ⟨⟨hi0, hU⟩, rfl⟩ := hs
 refine sR (Z10 ?_)
 refine Z3 (AW.seq ?_)
 refine AW.condD rfl ?_ ?_ <;> intro h26
 ·
  have hi : i < (srtI (srM p)).length := by omega
  refine AW.skip (AW.seq (AW.block (sR (sM ?_))))
  refine SeqK.q (q_indexOs _ rfl Fx.sl24 rfl rfl (by omega) (by omega) rfl) rfl rfl rfl ?_
  refine SeqK.r (g_loadR rfl Fx.ty3 rfl (by (repeat rw [upd_ne _ _ (by first | assumption | exact Ne.symm (by assumption))]); first | assumption | exact upd_same _ _ _) ((rwI_ld (l := (srtI (srM p))) (i := i) hi)) (by simp; omega) (by decide) rfl rfl) rfl ?_
  refine sA ?_
  refine sB ?_
  refine sR (sM ?_)
  refine sM ?_
  refine Z49 ?_
  refine Z3 ?_
  refine AW.condD rfl ?_ ?_ <;> intro h32
  ·
   refine sR (sB ?_)
   refine AW.ret ?_
   exact fin_x (x := .c _) (H) (.tmp rfl .nil) rfl ((fun j o h => upd_sub hkg j o (upd_sub hk14 j o h))) (⟨bCe (dF (fun h => h32 (h.2.1 i hi))), rfl⟩)
  refine AW.skip (AW.reg (Z2 ?_))
  refine sM ?_
  refine Z3 ?_
  exact ⟨i + 1, _, by exact Wk.keep 40 _ _ _ rfl ⟨rfl, rfl, rfl, rfl, rfl, rfl, trivial⟩ ⟨rfl, trivial⟩ (fun _ _ h => h) rfl, by omega, ⟨hi, upS hi hU (Classical.not_not.1 h32)⟩, rfl⟩
 refine AW.exit ?_
 refine eth_e ?_
 refine eth_e ?_
 refine exit_here ?_
 refine AW.seq ?_
 have hA := upE hU (by omega)
 refine AW.reg (sM ?_)
 refine SeqK.q (q_lenOs rfl Fx.un24 rfl) rfl rfl rfl ?_
 refine Z1 Fx.fl51_2 ?_
 refine Z0 Fx.ty24 ?_
 refine Z14 Fx.un24 ?_
 refine Z8 ?_
 refine sB ?_
 refine AW.ret ?_
 exact fin_x (x := .c _) (H) (.tmp rfl .nil) rfl ((fun j o h => upd_sub hkg j o (upd_sub hk14 j o h))) (⟨bCe (dI ⟨fun h => ⟨hsh, hA, by rw [List.length_map] at h; omega⟩, fun h => by have := h.2.2; rw [List.length_map]; omega⟩), rfl⟩)

end Go.Proofs.YtihlgigaejhilaaGreatDoor.W
namespace Go.Proofs.YtihlgigaejhilaaGreatDoor.W
open Go.RowKit E
/-! comparisons that give keys and bounds -/
abbrev sameB (n : Int) : Bool := decide (n = 10)
abbrev lowB (n : Int) : Bool := decide (n = 15 ∨ n = 14)
abbrev uppB (n : Int) : Bool := decide (n = 13 ∨ n = 12)
abbrev isVP (a : Ex) (v : Int) : Prop := a.op = 2 ∧ a.ix = v
def gvB (e : Ex) (v : Int) (key : Ex) (lt rt : Int → Bool) : Bool :=
  if h : e.args.length = 2 then (lt e.op && (decide (isVP e.args[0] v) && decide (e.args[1] = key))) || (rt e.op && (decide (isVP e.args[1] v) && decide (e.args[0] = key))) else false

set_option maxRecDepth 20000 in
theorem same_fn (n : Int) : Pure Tryz.prog 59 [iC n] (.c (bC (sameB n))) := by
 intro H
 refine Spec.enter Tryz.func59 rfl ?_
 refine AW.wk (Wk.keep 5 [(0, .c (iC n))] [] (H) rfl ⟨rfl, trivial⟩ trivial (fun _ _ h => h) rfl) ?_
 refine sR (sB ?_)
 refine sR (sM ?_)
 refine Z8 ?_
 refine sB ?_
 refine AW.ret ?_
 exact f1 (q := ⟨rfl, rfl⟩)

set_option maxRecDepth 20000 in
theorem low_fn (n : Int) : Pure Tryz.prog 60 [iC n] (.c (bC (lowB n))) := by
 intro H
 refine Spec.enter Tryz.func60 rfl ?_
 refine AW.wk (Wk.keep 9 [(0, .c (iC n))] [] (H) rfl ⟨rfl, trivial⟩ trivial (fun _ _ h => h) rfl) ?_
 refine sR (sB ?_)
 refine sR (sM ?_)
 refine Z8 ?_
 refine Z19 (fun g5 => ?_) (fun g5 => ?_)
 ·
  iterate 2 refine SeqK.off rfl rfl rfl rfl rfl rfl ?_
  refine Z4 ?_
  refine sB ?_
  refine AW.ret ?_
  exact f1 (q := ⟨bCe (by first | exact dT (.inl g5) | exact dI ⟨.inr, fun h => h.resolve_left g5⟩), rfl⟩)
 refine Z13 ?_
 refine Z44 ?_
 refine Z7 ?_
 refine sB ?_
 refine AW.ret ?_
 exact f1 (q := ⟨bCe (by first | exact dT (.inl g5) | exact dI ⟨.inr, fun h => h.resolve_left g5⟩), rfl⟩)

set_option maxRecDepth 20000 in
theorem upp_fn (n : Int) : Pure Tryz.prog 61 [iC n] (.c (bC (uppB n))) := by
 intro H
 refine Spec.enter Tryz.func61 rfl ?_
 refine AW.wk (Wk.keep 9 [(0, .c (iC n))] [] (H) rfl ⟨rfl, trivial⟩ trivial (fun _ _ h => h) rfl) ?_
 refine sR (sB ?_)
 refine sR (sM ?_)
 refine Z8 ?_
 refine Z19 (fun g5 => ?_) (fun g5 => ?_)
 ·
  iterate 2 refine SeqK.off rfl rfl rfl rfl rfl rfl ?_
  refine Z4 ?_
  refine sB ?_
  refine AW.ret ?_
  exact f1 (q := ⟨bCe (by first | exact dT (.inl g5) | exact dI ⟨.inr, fun h => h.resolve_left g5⟩), rfl⟩)
 refine Z13 ?_
 refine Z44 ?_
 refine Z7 ?_
 refine sB ?_
 refine AW.ret ?_
 exact f1 (q := ⟨bCe (by first | exact dT (.inl g5) | exact dI ⟨.inr, fun h => h.resolve_left g5⟩), rfl⟩)

set_option maxHeartbeats 8000000 in
set_option maxRecDepth 20000 in
theorem isV_any (H : Heap) (k : Nat) (v : Int) (hk : H k = some (.box [.t (.v (.int .i64 v))])) (a : Ex) : E.Spec Tryz.prog 90 [exC a, .a (.bp k 0)] H fun x H' => x = .c (bC (decide (isVP a v))) ∧ H' = H := by
 refine Spec.enter Tryz.func90 rfl ?_
 refine AW.wk (Wk.keep 13 [(0, .c (exC a)), (1, .c (.a (.bp k 0)))] [] (H) rfl ⟨rfl, rfl, trivial⟩ trivial (fun _ _ h => h) rfl) ?_
 refine sR (Z16 (r := [_, _, _, _, _, _, _, _]) ?_)
 refine sB ?_
 refine sR (Z1 Fx.fl30_0 ?_)
 refine Z0 Fx.ty3 ?_
 refine Z8 ?_
 refine Z19 (fun g7 => ?_) (fun g7 => ?_)
 ·
  refine Z6 Fx.fl30_3 ?_
  refine Z5 Fx.ty3 ?_
  refine SeqK.rOn (g_load (r := .a _) rfl Fx.ty3 rfl (by (repeat rw [upd_ne _ _ (by first | assumption | exact Ne.symm (by assumption))]); first | assumption | exact upd_same _ _ _) rfl rfl rfl rfl) rfl rfl rfl ?_
  refine Z44 ?_
  refine Z4 ?_
  refine sB ?_
  refine AW.ret ?_
  exact f1 (q := ⟨bCe (by first | exact dI ⟨fun h => ⟨g7, h⟩, fun h => h.2⟩ | exact dF (fun h => g7 h.1)), rfl⟩)
 iterate 4 refine SeqK.off rfl rfl rfl rfl rfl rfl ?_
 refine Z7 ?_
 refine sB ?_
 refine AW.ret ?_
 exact f1 (q := ⟨bCe (by first | exact dI ⟨fun h => ⟨g7, h⟩, fun h => h.2⟩ | exact dF (fun h => g7 h.1)), rfl⟩)

set_option maxHeartbeats 8000000 in
set_option maxRecDepth 20000 in
theorem gives_any (H : Heap) (fl fr : FuncId) (lt rt : Int → Bool) (hfl : fnB Tryz.prog fl = true) (hfr : fnB Tryz.prog fr = true) (hl : ∀ n, Pure Tryz.prog fl [iC n] (.c (bC (lt n)))) (hr : ∀ n, Pure Tryz.prog fr [iC n] (.c (bC (rt n)))) (e : Ex) (v : Int) (key : Ex) (ho : okE e) : E.Spec Tryz.prog 65 [exC e, iC v, exC key, .a (.fn fl []), .a (.fn fr [])] H fun x H' => x = .c (bC (gvB e v key lt rt)) ∧ H' = H := by
 refine Spec.enter Tryz.func65 rfl ?_
 refine AW.wk (Wk.keep 59 [(0, .c (exC e)), (1, .c (iC v)), (2, .c (exC key)), (3, .c (.a (.fn fl []))), (4, .c (.a (.fn fr [])))] [] (H) rfl ⟨rfl, rfl, rfl, rfl, rfl, trivial⟩ trivial (fun _ _ h => h) rfl) ?_
 refine sR (Z16 (r := [_, _, _, _, _, _, _, _]) ?_)
 refine SeqK.newBox (r := [_]) rfl rfl rfl rfl rfl rfl (fun k6 hk6 => ?_)
 refine Z16 (r := [_, _, _, _, _, _, _, _]) ?_
 refine sB ?_
 refine sR (SeqK.q (q_mkFn rfl rfl rfl) rfl rfl rfl ?_)
 refine sB ?_
 refine AW.seq (sR (Z1 Fx.fl30_5 ?_))
 refine Z0 Fx.ty28 ?_
 refine Z14 Fx.un28 ?_
 refine Z49 ?_
 refine Z3 ?_
 refine AW.condD rfl ?_ ?_ <;> intro h16
 ·
  refine sR (sB ?_)
  refine AW.ret ?_
  exact fin_x (x := .c _) (H) (.tmp rfl .nil) rfl ((fun j o h => upd_sub hk6 j o h)) (⟨bCe (by rw [gvB, dif_neg (by rw [List.length_map] at h16; omega)]), rfl⟩)
 refine AW.skip (AW.seq ?_)
 have h2 : e.args.length = 2 := by rw [List.length_map] at h16; omega
 have hi0 : 0 < e.args.length := by omega
 have hi1 : 1 < e.args.length := by omega
 obtain ⟨_, ha⟩ := okE_iff.1 ho
 have hgv : gvB e v key lt rt = ((lt e.op && (decide (isVP e.args[0] v) && decide (e.args[1] = key))) || (rt e.op && (decide (isVP e.args[1] v) && decide (e.args[0] = key)))) := dif_pos h2
 refine AW.draw Fx.mo ?_
 refine Z18 ?_
 refine Z23 Fx.fl30_0 ?_
 refine Z20 Fx.ty3 ?_
 refine LexK.r (g_callV (f := fl) (cs := []) rfl rfl hfl rfl (hl _ _) rfl rfl rfl) rfl ?_
 refine LexK.qB (q_mvC rfl rfl) rfl rfl rfl (fun g21 => ?_) (fun g21 => ?_)
 ·
  refine Z29 ?_
  refine Z24 Fx.fl30_5 ?_
  refine Z21 Fx.ty28 ?_
  refine Z48 Fx.sl28 (idx_ex hi0) ?_
  refine Z39 (.g [_, _, _, _, _, _, _, _]) Fx.ty30 ?_
  refine LexK.rOn (g_callV (f := 90) (cs := [.bp k6 0]) rfl rfl Fx.fn90 rfl (isV_any _ k6 v (upd_same _ _ _) _) rfl rfl rfl) rfl rfl rfl ?_
  refine Z43 ?_
  refine LexK.qB (q_mvC rfl rfl) rfl rfl rfl (fun g29 => ?_) (fun g29 => ?_)
  ·
   refine Z24 Fx.fl30_5 ?_
   refine Z21 Fx.ty28 ?_
   refine Z48 Fx.sl28 (idx_ex hi1) ?_
   refine Z39 (.g [_, _, _, _, _, _, _, _]) Fx.ty30 ?_
   refine LexK.rOn (b_load (r := .g [_, _, _, _, _, _, _, _]) rfl Fx.ty30 rfl rfl rfl rfl rfl rfl) rfl rfl rfl ?_
   refine LexK.on (q_call _ rfl Fx.fn58 rfl (equal_any _ _ (ha _ (List.getElem_mem hi1))) rfl) rfl rfl rfl rfl rfl ?_
   refine Z43 ?_
   refine LexK.qB (q_mvC rfl rfl) rfl rfl rfl (fun g37 => ?_) (fun g37 => ?_)
   ·
    iterate 5 refine LexK.off rfl rfl rfl rfl rfl rfl ?_
    iterate 6 refine LexK.offU rfl rfl rfl rfl rfl ?_
    iterate 2 refine LexK.off rfl rfl rfl rfl rfl rfl ?_
    iterate 6 refine LexK.offU rfl rfl rfl rfl rfl ?_
    refine LexK.off rfl rfl rfl rfl rfl rfl ?_
    refine Z43 ?_
    refine Z36 ?_
    refine Z30 ?_
    refine AW.ret ?_
    exact fin_x (x := .c _) (H) (.tmp rfl .nil) rfl ((fun j o h => upd_sub hk6 j o h)) (⟨bCe (by rw [hgv]; simp [*]), rfl⟩)
   refine Z29 ?_
   refine Z24 Fx.fl30_0 ?_
   refine Z21 Fx.ty3 ?_
   refine LexK.rOn (g_callV (f := fr) (cs := []) rfl rfl hfr rfl (hr _ _) rfl rfl rfl) rfl rfl rfl ?_
   refine LexK.onB (q_mvC rfl rfl) rfl rfl rfl rfl rfl (fun g42 => ?_) (fun g42 => ?_)
   ·
    refine Z29 ?_
    refine Z24 Fx.fl30_5 ?_
    refine Z21 Fx.ty28 ?_
    refine Z48 Fx.sl28 (idx_ex hi1) ?_
    refine Z39 (.g [_, _, _, _, _, _, _, _]) Fx.ty30 ?_
    refine LexK.rOn (g_callV (f := 90) (cs := [.bp k6 0]) rfl rfl Fx.fn90 rfl (isV_any _ k6 v (upd_same _ _ _) _) rfl rfl rfl) rfl rfl rfl ?_
    refine LexK.on (q_pkT rfl rfl rfl) rfl rfl rfl rfl rfl ?_
    refine LexK.onB (q_mvC rfl rfl) rfl rfl rfl rfl rfl (fun g50 => ?_) (fun g50 => ?_)
    ·
     refine Z24 Fx.fl30_5 ?_
     refine Z21 Fx.ty28 ?_
     refine Z48 Fx.sl28 (idx_ex hi0) ?_
     refine Z39 (.g [_, _, _, _, _, _, _, _]) Fx.ty30 ?_
     refine LexK.rOn (b_load (r := .g [_, _, _, _, _, _, _, _]) rfl Fx.ty30 rfl rfl rfl rfl rfl rfl) rfl rfl rfl ?_
     refine LexK.on (q_call _ rfl Fx.fn58 rfl (equal_any _ _ (ha _ (List.getElem_mem hi0))) rfl) rfl rfl rfl rfl rfl ?_
     refine LexK.on (q_pkT rfl rfl rfl) rfl rfl rfl rfl rfl ?_
     refine Z31 ?_
     refine Z36 ?_
     refine Z30 ?_
     refine AW.ret ?_
     exact fin_x (x := .c _) (H) (.tmp rfl .nil) rfl ((fun j o h => upd_sub hk6 j o h)) (⟨bCe (by rw [hgv]; simp [*]), rfl⟩)
    iterate 6 refine LexK.off rfl rfl rfl rfl rfl rfl ?_
    refine LexK.on (q_pkF rfl rfl rfl) rfl rfl rfl rfl rfl ?_
    refine Z31 ?_
    refine Z36 ?_
    refine Z30 ?_
    refine AW.ret ?_
    exact fin_x (x := .c _) (H) (.tmp rfl .nil) rfl ((fun j o h => upd_sub hk6 j o h)) (⟨bCe (by rw [hgv]; simp [*]), rfl⟩)
   iterate 6 refine LexK.off rfl rfl rfl rfl rfl rfl ?_
   refine LexK.on (q_pkF rfl rfl rfl) rfl rfl rfl rfl rfl ?_
   refine Z29 ?_
   iterate 6 refine LexK.off rfl rfl rfl rfl rfl rfl ?_
   refine LexK.on (q_pkF rfl rfl rfl) rfl rfl rfl rfl rfl ?_
   refine Z31 ?_
   refine Z36 ?_
   refine Z30 ?_
   refine AW.ret ?_
   exact fin_x (x := .c _) (H) (.tmp rfl .nil) rfl ((fun j o h => upd_sub hk6 j o h)) (⟨bCe (by rw [hgv]; simp [*]), rfl⟩)
  iterate 6 refine LexK.off rfl rfl rfl rfl rfl rfl ?_
  refine Z31 ?_
  refine Z18 ?_
  refine Z29 ?_
  refine Z24 Fx.fl30_0 ?_
  refine Z21 Fx.ty3 ?_
  refine LexK.rOn (g_callV (f := fr) (cs := []) rfl rfl hfr rfl (hr _ _) rfl rfl rfl) rfl rfl rfl ?_
  refine LexK.onB (q_mvC rfl rfl) rfl rfl rfl rfl rfl (fun g42 => ?_) (fun g42 => ?_)
  ·
   refine Z29 ?_
   refine Z24 Fx.fl30_5 ?_
   refine Z21 Fx.ty28 ?_
   refine Z48 Fx.sl28 (idx_ex hi1) ?_
   refine Z39 (.g [_, _, _, _, _, _, _, _]) Fx.ty30 ?_
   refine LexK.rOn (g_callV (f := 90) (cs := [.bp k6 0]) rfl rfl Fx.fn90 rfl (isV_any _ k6 v (upd_same _ _ _) _) rfl rfl rfl) rfl rfl rfl ?_
   refine LexK.on (q_pkT rfl rfl rfl) rfl rfl rfl rfl rfl ?_
   refine LexK.onB (q_mvC rfl rfl) rfl rfl rfl rfl rfl (fun g50 => ?_) (fun g50 => ?_)
   ·
    refine Z24 Fx.fl30_5 ?_
    refine Z21 Fx.ty28 ?_
    refine Z48 Fx.sl28 (idx_ex hi0) ?_
    refine Z39 (.g [_, _, _, _, _, _, _, _]) Fx.ty30 ?_
    refine LexK.rOn (b_load (r := .g [_, _, _, _, _, _, _, _]) rfl Fx.ty30 rfl rfl rfl rfl rfl rfl) rfl rfl rfl ?_
    refine LexK.on (q_call _ rfl Fx.fn58 rfl (equal_any _ _ (ha _ (List.getElem_mem hi0))) rfl) rfl rfl rfl rfl rfl ?_
    refine LexK.on (q_pkT rfl rfl rfl) rfl rfl rfl rfl rfl ?_
    refine Z31 ?_
    refine Z36 ?_
    refine Z30 ?_
    refine AW.ret ?_
    exact fin_x (x := .c _) (H) (.tmp rfl .nil) rfl ((fun j o h => upd_sub hk6 j o h)) (⟨bCe (by rw [hgv]; simp [*]), rfl⟩)
   iterate 6 refine LexK.off rfl rfl rfl rfl rfl rfl ?_
   refine LexK.on (q_pkF rfl rfl rfl) rfl rfl rfl rfl rfl ?_
   refine Z31 ?_
   refine Z36 ?_
   refine Z30 ?_
   refine AW.ret ?_
   exact fin_x (x := .c _) (H) (.tmp rfl .nil) rfl ((fun j o h => upd_sub hk6 j o h)) (⟨bCe (by rw [hgv]; simp [*]), rfl⟩)
  iterate 6 refine LexK.off rfl rfl rfl rfl rfl rfl ?_
  refine LexK.on (q_pkF rfl rfl rfl) rfl rfl rfl rfl rfl ?_
  refine Z29 ?_
  iterate 6 refine LexK.off rfl rfl rfl rfl rfl rfl ?_
  refine LexK.on (q_pkF rfl rfl rfl) rfl rfl rfl rfl rfl ?_
  refine Z31 ?_
  refine Z36 ?_
  refine Z30 ?_
  refine AW.ret ?_
  exact fin_x (x := .c _) (H) (.tmp rfl .nil) rfl ((fun j o h => upd_sub hk6 j o h)) (⟨bCe (by rw [hgv]; simp [*]), rfl⟩)
 iterate 6 refine LexK.off rfl rfl rfl rfl rfl rfl ?_
 refine Z31 ?_
 refine Z18 ?_
 iterate 6 refine LexK.off rfl rfl rfl rfl rfl rfl ?_
 refine Z31 ?_
 refine Z18 ?_
 refine Z29 ?_
 refine Z24 Fx.fl30_0 ?_
 refine Z21 Fx.ty3 ?_
 refine LexK.rOn (g_callV (f := fr) (cs := []) rfl rfl hfr rfl (hr _ _) rfl rfl rfl) rfl rfl rfl ?_
 refine LexK.onB (q_mvC rfl rfl) rfl rfl rfl rfl rfl (fun g42 => ?_) (fun g42 => ?_)
 ·
  refine Z29 ?_
  refine Z24 Fx.fl30_5 ?_
  refine Z21 Fx.ty28 ?_
  refine Z48 Fx.sl28 (idx_ex hi1) ?_
  refine Z39 (.g [_, _, _, _, _, _, _, _]) Fx.ty30 ?_
  refine LexK.rOn (g_callV (f := 90) (cs := [.bp k6 0]) rfl rfl Fx.fn90 rfl (isV_any _ k6 v (upd_same _ _ _) _) rfl rfl rfl) rfl rfl rfl ?_
  refine LexK.on (q_pkT rfl rfl rfl) rfl rfl rfl rfl rfl ?_
  refine LexK.onB (q_mvC rfl rfl) rfl rfl rfl rfl rfl (fun g50 => ?_) (fun g50 => ?_)
  ·
   refine Z24 Fx.fl30_5 ?_
   refine Z21 Fx.ty28 ?_
   refine Z48 Fx.sl28 (idx_ex hi0) ?_
   refine Z39 (.g [_, _, _, _, _, _, _, _]) Fx.ty30 ?_
   refine LexK.rOn (b_load (r := .g [_, _, _, _, _, _, _, _]) rfl Fx.ty30 rfl rfl rfl rfl rfl rfl) rfl rfl rfl ?_
   refine LexK.on (q_call _ rfl Fx.fn58 rfl (equal_any _ _ (ha _ (List.getElem_mem hi0))) rfl) rfl rfl rfl rfl rfl ?_
   refine LexK.on (q_pkT rfl rfl rfl) rfl rfl rfl rfl rfl ?_
   refine Z31 ?_
   refine Z36 ?_
   refine Z30 ?_
   refine AW.ret ?_
   exact fin_x (x := .c _) (H) (.tmp rfl .nil) rfl ((fun j o h => upd_sub hk6 j o h)) (⟨bCe (by rw [hgv]; simp [*]), rfl⟩)
  iterate 6 refine LexK.off rfl rfl rfl rfl rfl rfl ?_
  refine LexK.on (q_pkF rfl rfl rfl) rfl rfl rfl rfl rfl ?_
  refine Z31 ?_
  refine Z36 ?_
  refine Z30 ?_
  refine AW.ret ?_
  exact fin_x (x := .c _) (H) (.tmp rfl .nil) rfl ((fun j o h => upd_sub hk6 j o h)) (⟨bCe (by rw [hgv]; simp [*]), rfl⟩)
 iterate 6 refine LexK.off rfl rfl rfl rfl rfl rfl ?_
 refine LexK.on (q_pkF rfl rfl rfl) rfl rfl rfl rfl rfl ?_
 refine Z29 ?_
 iterate 6 refine LexK.off rfl rfl rfl rfl rfl rfl ?_
 refine LexK.on (q_pkF rfl rfl rfl) rfl rfl rfl rfl rfl ?_
 refine Z31 ?_
 refine Z36 ?_
 refine Z30 ?_
 refine AW.ret ?_
 exact fin_x (x := .c _) (H) (.tmp rfl .nil) rfl ((fun j o h => upd_sub hk6 j o h)) (⟨bCe (by rw [hgv]; simp [*]), rfl⟩)

end Go.Proofs.YtihlgigaejhilaaGreatDoor.W
namespace Go.Proofs.YtihlgigaejhilaaGreatDoor.W
open Go.RowKit E
/-! the conjuncts that have a property are added -/
def hitF (gv ge : Ex → Bool) : List Ex → Nat → List (Int × Bool)
  | [], _ => []
  | e :: r, i => (if gv e = true then [((i : Int), ge e)] else []) ++ hitF gv ge r (i + 1)
theorem hitF_app {gv ge : Ex → Bool} : ∀ (a b : List Ex) (n : Nat), hitF gv ge (a ++ b) n = hitF gv ge a n ++ hitF gv ge b (n + a.length)
  | [], b, n => by simp [hitF]
  | e :: r, b, n => by
    rw [List.cons_append, hitF, hitF_app r b (n + 1), hitF, List.append_assoc, List.length_cons, show n + 1 + r.length = n + (r.length + 1) by omega]
theorem hitF_take {gv ge : Ex → Bool} {l : List Ex} {i : Nat} (hi : i < l.length) : hitF gv ge (l.take (i + 1)) 0 = hitF gv ge (l.take i) 0 ++ if gv l[i] = true then [((i : Int), ge l[i])] else [] := by
  rw [take_put hi, hitF_app, List.length_take, Nat.min_eq_left (by omega), Nat.zero_add]; simp [hitF]
theorem hitF_len {gv ge : Ex → Bool} : ∀ (l : List Ex) (n : Nat), (hitF gv ge l n).length ≤ l.length
  | [], _ => by simp [hitF]
  | e :: r, n => by
    have := hitF_len (gv := gv) (ge := ge) r (n + 1)
    rw [hitF, List.length_append, List.length_cons]
    split <;> simp <;> omega
theorem any_take {gv : Ex → Bool} {l : List Ex} {i : Nat} (hi : i < l.length) : (l.take (i + 1)).any gv = ((l.take i).any gv || gv l[i]) := by
  rw [take_put hi, List.any_append]; simp
theorem upd_swap {α : Type} (f : Nat → α) {i j : Nat} (x y : α) (h : i ≠ j) : upd (upd f i x) j y = upd (upd f j y) i x := by
  funext n
  by_cases e1 : n = i
  · subst e1; rw [upd_ne _ _ h, upd_same, upd_same]
  · by_cases e2 : n = j
    · subst e2; rw [upd_same, upd_ne _ _ e1, upd_same]
    · rw [upd_ne _ _ e2, upd_ne _ _ e1, upd_ne _ _ e1, upd_ne _ _ e2]
abbrev HU (H : Heap) (k8 kt : Nat) (zs : List (List E.T)) : Heap := upd (upd H k8 (some (.box [.ts kt .ne 2 zs]))) kt (some (.tip 103 2 zs.length))

set_option maxRecDepth 20000 in
theorem always_fn (e : Ex) : Pure Tryz.prog 56 [exC e] (.c (bC true)) := by
 intro H
 refine Spec.enter Tryz.func56 rfl ?_
 refine AW.wk (Wk.keep 3 [(0, .c (exC e))] [] (H) rfl ⟨rfl, trivial⟩ trivial (fun _ _ h => h) rfl) ?_
 refine sR (Z16 (r := [_, _, _, _, _, _, _, _]) ?_)
 refine sB ?_
 refine sR (sB ?_)
 refine AW.ret ?_
 exact f1 (q := ⟨rfl, rfl⟩)

set_option maxHeartbeats 8000000 in
set_option maxRecDepth 20000 in
theorem eqTo_any (H : Heap) (k : Nat) (f : Ex) (hk : H k = some (.box (exA f))) (e : Ex) (ho : okE e) : E.Spec Tryz.prog 57 [exC e, .a (.bp k 0)] H fun x H' => x = .c (bC (decide (e = f))) ∧ H' = H := by
 refine Spec.enter Tryz.func57 rfl ?_
 refine AW.wk (Wk.keep 7 [(0, .c (exC e)), (1, .c (.a (.bp k 0)))] [] (H) rfl ⟨rfl, rfl, trivial⟩ trivial (fun _ _ h => h) rfl) ?_
 refine sR (Z16 (r := [_, _, _, _, _, _, _, _]) ?_)
 refine sB ?_
 refine sR (Z12 (r := .g [_, _, _, _, _, _, _, _]) Fx.ty30 ?_)
 refine SeqK.r (g_load (r := .g [_, _, _, _, _, _, _, _]) rfl Fx.ty30 rfl (by (repeat rw [upd_ne _ _ (by first | assumption | exact Ne.symm (by assumption))]); first | assumption | exact upd_same _ _ _) rfl rfl rfl rfl) rfl ?_
 refine Z22 Fx.fn58 (equal_any e f ho) ?_
 refine sB ?_
 refine AW.ret ?_
 exact f1 (q := ⟨rfl, rfl⟩)

abbrev exaB (e : Ex) : Bool := decide (e.op = 15 ∨ e.op = 13)

set_option maxRecDepth 20000 in
theorem exact_fn (e : Ex) : Pure Tryz.prog 62 [exC e] (.c (bC (exaB e))) := by
 intro H
 refine Spec.enter Tryz.func62 rfl ?_
 refine AW.wk (Wk.keep 11 [(0, .c (exC e))] [] (H) rfl ⟨rfl, trivial⟩ trivial (fun _ _ h => h) rfl) ?_
 refine sR (Z16 (r := [_, _, _, _, _, _, _, _]) ?_)
 refine sB ?_
 refine sR (Z1 Fx.fl30_0 ?_)
 refine Z0 Fx.ty3 ?_
 refine Z8 ?_
 refine Z19 (fun g6 => ?_) (fun g6 => ?_)
 ·
  iterate 3 refine SeqK.off rfl rfl rfl rfl rfl rfl ?_
  refine Z4 ?_
  refine sB ?_
  refine AW.ret ?_
  exact f1 (q := ⟨bCe (by first | exact dT (.inl g6) | exact dI ⟨.inr, fun h => h.resolve_left g6⟩), rfl⟩)
 refine Z6 Fx.fl30_0 ?_
 refine Z5 Fx.ty3 ?_
 refine Z44 ?_
 refine Z7 ?_
 refine sB ?_
 refine AW.ret ?_
 exact f1 (q := ⟨bCe (by first | exact dT (.inl g6) | exact dI ⟨.inr, fun h => h.resolve_left g6⟩), rfl⟩)

set_option maxHeartbeats 8000000 in
set_option maxRecDepth 20000 in
theorem givesTo_any (H : Heap) (k1 k2 k3 k4 : Nat) (fl fr : FuncId) (lt rt : Int → Bool) (hfl : fnB Tryz.prog fl = true) (hfr : fnB Tryz.prog fr = true) (hl : ∀ n, Pure Tryz.prog fl [iC n] (.c (bC (lt n)))) (hr : ∀ n, Pure Tryz.prog fr [iC n] (.c (bC (rt n)))) (v : Int) (key : Ex) (h1 : H k1 = some (.box [.t (.v (.int .i64 v))])) (h2 : H k2 = some (.box (exA key))) (h3 : H k3 = some (.box [.fn fl []])) (h4 : H k4 = some (.box [.fn fr []])) (e : Ex) (ho : okE e) : E.Spec Tryz.prog 64 [exC e, .a (.bp k1 0), .a (.bp k2 0), .a (.bp k3 0), .a (.bp k4 0)] H fun x H' => x = .c (bC (gvB e v key lt rt)) ∧ H' = H := by
 refine Spec.enter Tryz.func64 rfl ?_
 refine AW.wk (Wk.keep 13 [(0, .c (exC e)), (1, .c (.a (.bp k1 0))), (2, .c (.a (.bp k2 0))), (3, .c (.a (.bp k3 0))), (4, .c (.a (.bp k4 0)))] [] (H) rfl ⟨rfl, rfl, rfl, rfl, rfl, trivial⟩ trivial (fun _ _ h => h) rfl) ?_
 refine sR (Z16 (r := [_, _, _, _, _, _, _, _]) ?_)
 refine sB ?_
 refine sR (Z12 (r := .g [_, _, _, _, _, _, _, _]) Fx.ty30 ?_)
 refine Z17 Fx.ty3 ?_
 refine SeqK.r (g_load (r := .g [_, _, _, _, _, _, _, _]) rfl Fx.ty30 rfl (by (repeat rw [upd_ne _ _ (by first | assumption | exact Ne.symm (by assumption))]); first | assumption | exact upd_same _ _ _) rfl rfl rfl rfl) rfl ?_
 refine Z17 Fx.ty122 ?_
 refine Z17 Fx.ty122 ?_
 refine Z53 Fx.fn65 (gives_any H fl fr lt rt hfl hfr hl hr e v key ho) ?_
 refine sB ?_
 refine AW.ret ?_
 exact f1 (q := ⟨rfl, rfl⟩)

set_option maxHeartbeats 8000000 in
set_option maxRecDepth 20000 in
theorem findU_any (H : Heap) (k5 k8 kt : Nat) (cj : List Ex) (us : List (Int × Bool)) (f1 f2 : FuncId) (c1 c2 : List A) (gv ge : Ex → Bool) (h5 : H k5 = some (.box [.t (.sl .un 8 (cj.map exT'))])) (h8 : H k8 = none) (ht : H kt = none) (n8t : k8 ≠ kt) (hf1 : fnB Tryz.prog f1 = true) (hf2 : fnB Tryz.prog f2 = true) (hc1 : ∀ x ∈ cj, FB f1 c1 H (exC x) (gv x)) (hc2 : ∀ x ∈ cj, FB f2 c2 H (exC x) (ge x)) (hl : us.length + cj.length ≤ 1000000000000) : E.Spec Tryz.prog 55 [.a (.fn f1 c1), .a (.fn f2 c2), .a (.bp k5 0), .a (.bp k8 0)] (HU H k8 kt (us.map usT)) fun x H' => x = .c (bC (cj.any gv)) ∧ ∃ k9, H k9 = none ∧ k8 ≠ k9 ∧ H' = HU H k8 k9 ((us ++ hitF gv ge cj 0).map usT) := by
 have n58 : k5 ≠ k8 := fun e => by rw [e, h8] at h5; cases h5
 have n5t : k5 ≠ kt := fun e => by rw [e, ht] at h5; cases h5
 refine Spec.enter Tryz.func55 rfl ?_
 refine AW.wk (Wk.keep 30 [(0, .c (.a (.fn f1 c1))), (1, .c (.a (.fn f2 c2))), (2, .c (.a (.bp k5 0))), (3, .c (.a (.bp k8 0)))] [] (upd (upd H k8 (some (.box [.ts kt .ne 2 (us.map usT)]))) kt (some (.tip 103 2 (us.map usT).length))) rfl ⟨rfl, rfl, rfl, rfl, trivial⟩ trivial (fun _ _ h => h) rfl) ?_
 refine sR (sB ?_)
 refine sR (sB ?_)
 refine AW.seq (sR (Z17 Fx.ty28 ?_))
 refine Z14 Fx.un28 ?_
 refine sM ?_
 refine Z3 (AW.block ?_)
 refine AW.loop (fun (i : Nat) s => ∃ (k9 : Nat) (zs : List (List E.T)) (sm : Bool), (i ≤ cj.length ∧ (H k9 = none ∧ k8 ≠ k9) ∧ sm = (cj.take i).any gv ∧ zs = (us ++ hitF gv ge (cj.take i) 0).map usT) ∧ s = ⟨30, sp [(0, .c (.a (.fn f1 c1))), (1, .c (.a (.fn f2 c2))), (3, .c (.a (.bp k8 0))), (7, .c (.a (.t (.v (.bool sm))))), (10, .c (exsC .un cj)), (11, iX .i64 (((cj.map exT').length : Nat) : Int)), (12, iX .i64 ((i : Nat) : Int))], lv [], upd (upd H k8 (some (.box [.ts k9 .ne 2 zs]))) k9 (some (.tip 103 2 zs.length))⟩) (fun i => cj.length - i) 0 ⟨_, by exact Wk.keep 30 _ _ _ rfl ⟨rfl, rfl, rfl, rfl, rfl, rfl, rfl, trivial⟩ trivial (fun _ _ h => h) rfl, kt, us.map usT, false, ⟨Nat.zero_le _, ⟨ht, n8t⟩, rfl, by simp [hitF]⟩, rfl⟩ (fun i s hs => ?_)
 obtain ⟨k9, zs, sm, ⟨hi0, ⟨hk9, n89⟩, hsm, hzs⟩, rfl⟩ := hs
 have hk9b : upd H k8 (some (.box [.ts k9 .ne 2 zs])) k9 = none := by rw [upd_ne _ _ n89.symm]; exact hk9
 refine sR (Z10 ?_)
 refine Z3 (AW.seq ?_)
 refine AW.condD rfl ?_ ?_ <;> intro h13
 ·
  have hi : i < cj.length := by rw [List.length_map] at h13; omega
  refine AW.skip (AW.seq (AW.block (sR (sM ?_))))
  refine Z9 Fx.sl28 (idx_ex hi) ?_
  refine Z11 (.g [_, _, _, _, _, _, _, _]) Fx.ty30 ?_
  refine Z25 (r := [_, _, _, _, _, _, _, _]) Fx.ze30 ?_
  refine sA ?_
  refine Z15 (r := [_, _, _, _, _, _, _, _]) Fx.ty30 ?_
  refine Z3 (sR (sM ?_))
  refine Z12 (r := .g [_, _, _, _, _, _, _, _]) Fx.ty30 ?_
  refine SeqK.r (g_callV (f := f1) (cs := c1) rfl rfl hf1 rfl (hc1 _ (List.getElem_mem hi) _ (fun j o h => upd_sub hk9b j o (upd_sub h8 j o h))) rfl rfl rfl) rfl ?_
  refine Z3 ?_
  refine AW.cond _ rfl (fun h19 => ?_) (fun h19 => ?_)
  ·
   refine sR (sB ?_)
   refine AW.drawO [0, 1, 2, 3, 4, 5, 6, 7, 8] Fx.mo (by kernel_rfl) ?_
   refine LexO.r rfl (by kernel_rfl) (g_load (r := .a _) rfl Fx.ty98 rfl (by (repeat rw [upd_ne _ _ (by first | assumption | exact Ne.symm (by assumption))]); first | assumption | exact upd_same _ _ _) rfl rfl rfl rfl) rfl ?_
   refine LexO.q rfl (by kernel_rfl) (q_mvC rfl rfl) rfl rfl rfl ?_
   refine LexO.q rfl (by kernel_rfl) (q_mvC rfl rfl) rfl rfl rfl ?_
   refine LexO.r rfl (by kernel_rfl) (b_load (r := .g [_, _, _, _, _, _, _, _]) rfl Fx.ty30 rfl rfl rfl rfl rfl rfl) rfl ?_
   refine LexO.r rfl (by kernel_rfl) (g_callV (f := f2) (cs := c2) rfl rfl hf2 rfl (hc2 _ (List.getElem_mem hi) _ (fun j o h => upd_sub hk9b j o (upd_sub h8 j o h))) rfl rfl rfl) rfl ?_
   refine LexO.q rfl (by kernel_rfl) (q_build2 (zs := [_, _]) (r := [_, _]) [(0, 1), (1, 1)] _ rfl Fx.ze103 rfl Fx.bp103 rfl rfl rfl rfl) rfl rfl rfl ?_
   refine LexO.q rfl (by kernel_rfl) (q_buildSlice _ rfl Fx.el98 rfl (by decide) rfl) rfl rfl rfl ?_
   refine LexO.app1 rfl (by kernel_rfl) (by kernel_rfl) (by kernel_rfl) rfl (hk9b) rfl Fx.el98 rfl rfl (by have h7 := congrArg List.length hzs; have h9 := hitF_len (gv := gv) (ge := ge) (cj.take i) 0; rw [List.length_take] at h9; simp only [List.length_map, List.length_append] at h7; simp only [List.length_cons, List.length_nil]; omega) rfl rfl (fun k27 hk27 => ?_)
   refine LexO.r rfl (by kernel_rfl) (g_store rfl rfl Fx.ty98 rfl rfl (by rw [upd_ne _ _ (upd_lt hk27).1.symm]; exact upd_same _ _ _) rfl rfl rfl) rfl ?_
   refine LexO.nil (by kernel_rfl) ?_
   refine AW.reg (Z2 ?_)
   refine sM ?_
   refine Z3 ?_
   exact ⟨i + 1, _, by exact Wk.keep 30 _ _ _ rfl ⟨rfl, rfl, rfl, rfl, rfl, rfl, rfl, trivial⟩ trivial (fun j o h => by show upd (upd (upd H k8 _) k27 _) k8 _ j = some o; rw [upd_swap _ _ _ (upd_lt hk27).1, upd_upd]; exact h) rfl, by omega, k27, zs ++ [usT ((i : Int), ge cj[i])], true, ⟨hi, ⟨(upd_lt hk27).2, (upd_lt hk27).1.symm⟩, by rw [any_take hi, h19, Bool.or_true], by rw [hzs, hitF_take hi, if_pos h19]; simp⟩, rfl⟩
  refine AW.skip (AW.reg (Z2 ?_))
  refine sM ?_
  refine Z3 ?_
  exact ⟨i + 1, _, by exact Wk.keep 30 _ _ _ rfl ⟨rfl, rfl, rfl, rfl, rfl, rfl, rfl, trivial⟩ trivial (fun _ _ h => h) rfl, by omega, k9, zs, sm, ⟨hi, ⟨hk9, n89⟩, by rw [any_take hi, h19, Bool.or_false]; exact hsm, by rw [hzs, hitF_take hi, if_neg (by rw [h19]; simp)]; simp⟩, rfl⟩
 refine AW.exit ?_
 refine eth_e ?_
 refine eth_e ?_
 refine exit_here ?_
 refine sR (sM ?_)
 refine sB ?_
 refine AW.ret ?_
 exact fin_x (x := .c _) (_) (.tmp rfl .nil) rfl (fun _ _ h => h) (⟨bCe (by rw [hsm, List.take_of_length_le (by rw [List.length_map] at h13; omega)]), k9, hk9, n89, by rw [hzs, List.take_of_length_le (by rw [List.length_map] at h13; omega)]⟩)

end Go.Proofs.YtihlgigaejhilaaGreatDoor.W
namespace Go.Proofs.YtihlgigaejhilaaGreatDoor.W
open Go.RowKit E
/-! what a plan uses -/
theorem nods_ge : ∀ (l : List Ex) (m n : Nat), n ≤ nods l m n
  | [], m, n => by rw [nods]; exact Nat.le_refl _
  | e :: r, m, n => by
    rw [nods]; split
    · exact Nat.le_trans (Nat.le_add_right _ _) (nods_ge r m _)
    · exact Nat.le_refl _
mutual
theorem cnj_nod : ∀ (e : Ex) (m : Nat), nod e m ≤ m → (cnj e).length ≤ nod e m
  | .mk op tb nm ix vk vn vs xs, m, h => by
    rw [nod] at h ⊢
    split at h
    · omega
    · rename_i hb
      rw [if_neg hb, cnj]
      have h1 := cnjs_nod xs m 1 h
      split
      · simp
      · split
        · rw [cnjs_flat]; omega
        · simp only [List.length_cons, List.length_nil]; omega
theorem cnjs_nod : ∀ (l : List Ex) (m n : Nat), nods l m n ≤ m → n + (l.flatMap cnj).length ≤ nods l m n
  | [], m, n, h => by rw [nods]; simp
  | e :: r, m, n, h => by
    rw [nods] at h ⊢
    split at h
    · rename_i hn
      rw [if_pos hn]
      have h2 := nods_ge r m (n + nod e (m - n))
      have h3 := cnj_nod e (m - n) (by omega)
      have h4 := cnjs_nod r m _ h
      rw [List.flatMap_cons, List.length_append]; omega
    · omega
end
/-- the conjuncts of a filter -/
def addC (cj : List Ex) : List Ex → List (Int × Bool) → Option (List (Int × Bool))
  | [], out => some out
  | f :: r, out => if (cj.any fun e => decide (e = f)) = true then addC cj r (out ++ hitF (fun e => decide (e = f)) (fun _ => true) cj 0) else none
abbrev colK (p : Pl) (i : Nat) : Int := if p.k = 2 then p.cols.getD i 0 else p.cols.getD 0 0
abbrev varK (d0 : List Tb) (b : Bd) (p : Pl) (i : Nat) : Int := (offM d0 (b.tabs.take p.src.toNat) : Int) + colK p i
abbrev ltK (p : Pl) (i : Nat) : Int → Bool := if p.k = 2 then sameB else if i = 0 then lowB else uppB
abbrev rtK (p : Pl) (i : Nat) : Int → Bool := if p.k = 2 then sameB else if i = 0 then uppB else lowB
abbrev geK (p : Pl) : Ex → Bool := if p.k = 3 then exaB else fun _ => true
abbrev gvK (d0 : List Tb) (b : Bd) (p : Pl) (i : Nat) (k : Ex) : Ex → Bool := fun e => gvB e (varK d0 b p i) k (ltK p i) (rtK p i)
/-- the keys of a leaf -/
def addK (d0 : List Tb) (b : Bd) (cj : List Ex) (p : Pl) : List Ex → Nat → List (Int × Bool) → Option (List (Int × Bool))
  | [], _, out => some out
  | k :: r, i, out => if k.op = 0 then addK d0 b cj p r (i + 1) out else if cj.any (gvK d0 b p i k) = true then addK d0 b cj p r (i + 1) (out ++ hitF (gvK d0 b p i k) (geK p) cj 0) else none
mutual
def usM (d0 : List Tb) (b : Bd) (cj : List Ex) : Pl → Option (List (Int × Bool))
  | .mk k src cols keys flt xs => (usMs d0 b cj xs []).bind fun o1 => (addC cj (cnj flt) o1).bind fun o2 => addK d0 b cj (.mk k src cols keys flt xs) keys 0 o2
def usMs (d0 : List Tb) (b : Bd) (cj : List Ex) : List Pl → List (Int × Bool) → Option (List (Int × Bool))
  | [], out => some out
  | e :: r, out => (usM d0 b cj e).bind fun l => usMs d0 b cj r (out ++ l)
end
mutual
def usN (n : Nat) : Pl → Nat
  | .mk _ _ _ keys flt xs => ((cnj flt).length + keys.length) * n + usNs n xs
def usNs (n : Nat) : List Pl → Nat
  | [] => 0
  | e :: r => usN n e + usNs n r
end
section
variable {d0 : List Tb} {b : Bd} {cj : List Ex}
theorem usM_eq (p : Pl) : usM d0 b cj p = (usMs d0 b cj p.args []).bind fun o1 => (addC cj (cnj p.flt) o1).bind fun o2 => addK d0 b cj p p.keys 0 o2 := by
  cases p; rw [usM]
theorem usN_eq (n : Nat) (p : Pl) : usN n p = ((cnj p.flt).length + p.keys.length) * n + usNs n p.args := by
  cases p; rw [usN]
theorem addC_le : ∀ (fs : List Ex) (us l : List (Int × Bool)), addC cj fs us = some l → l.length ≤ us.length + fs.length * cj.length
  | [], us, l, h => by rw [addC] at h; injection h with h; rw [h]; omega
  | f :: r, us, l, h => by
    rw [addC] at h
    split at h
    · have h1 := addC_le r _ l h
      have h2 := hitF_len (gv := fun e => decide (e = f)) (ge := fun _ => true) cj 0
      rw [List.length_append] at h1
      rw [List.length_cons, Nat.add_mul, Nat.one_mul]; omega
    · cases h
theorem addK_le {p : Pl} : ∀ (ks : List Ex) (i : Nat) (us l : List (Int × Bool)), addK d0 b cj p ks i us = some l → l.length ≤ us.length + ks.length * cj.length
  | [], i, us, l, h => by rw [addK] at h; injection h with h; rw [h]; omega
  | k :: r, i, us, l, h => by
    rw [addK] at h
    rw [List.length_cons, Nat.add_mul, Nat.one_mul]
    split at h
    · have h1 := addK_le r _ _ l h; omega
    · split at h
      · have h1 := addK_le r _ _ l h
        have h2 := hitF_len (gv := gvK d0 b p i k) (ge := geK p) cj 0
        rw [List.length_append] at h1; omega
      · cases h
mutual
theorem usM_le : ∀ (p : Pl) (l : List (Int × Bool)), usM d0 b cj p = some l → l.length ≤ usN cj.length p
  | .mk k src cols keys flt xs, l, h => by
    rw [usM] at h
    cases h1 : usMs d0 b cj xs [] with
    | none => rw [h1] at h; cases h
    | some o1 =>
      rw [h1, Option.bind_some] at h
      cases h2 : addC cj (cnj flt) o1 with
      | none => rw [h2] at h; cases h
      | some o2 =>
        rw [h2, Option.bind_some] at h
        have e1 := usMs_le xs [] o1 h1
        have e2 := addC_le _ _ _ h2
        have e3 := addK_le _ _ _ _ h
        rw [usN, Nat.add_mul]; simp only [List.length_nil] at e1; omega
theorem usMs_le : ∀ (xs : List Pl) (us l : List (Int × Bool)), usMs d0 b cj xs us = some l → l.length ≤ us.length + usNs cj.length xs
  | [], us, l, h => by rw [usMs] at h; injection h with h; rw [h]; omega
  | e :: r, us, l, h => by
    rw [usMs] at h
    cases h1 : usM d0 b cj e with
    | none => rw [h1] at h; cases h
    | some o1 =>
      rw [h1, Option.bind_some] at h
      have e1 := usM_le e o1 h1
      have e2 := usMs_le r _ l h
      rw [List.length_append] at e2
      rw [usNs]; omega
end
theorem usMs_go {l : List Pl} {i : Nat} {us x : List (Int × Bool)} (hi : i < l.length) (h : usM d0 b cj l[i] = some x) : usMs d0 b cj (l.drop i) us = usMs d0 b cj (l.drop (i + 1)) (us ++ x) := by
  rw [List.drop_eq_getElem_cons hi, usMs, h, Option.bind_some]
theorem usMs_no {l : List Pl} {i : Nat} {us : List (Int × Bool)} (hi : i < l.length) (h : usM d0 b cj l[i] = none) : usMs d0 b cj (l.drop i) us = none := by
  rw [List.drop_eq_getElem_cons hi, usMs, h]; rfl
theorem usNs_go {n : Nat} {l : List Pl} {i : Nat} (hi : i < l.length) : usNs n (l.drop i) = usN n l[i] + usNs n (l.drop (i + 1)) := by
  rw [List.drop_eq_getElem_cons hi, usNs]
theorem addC_go {l : List Ex} {i : Nat} {us : List (Int × Bool)} (hi : i < l.length) (h : (cj.any fun e => decide (e = l[i])) = true) : addC cj (l.drop i) us = addC cj (l.drop (i + 1)) (us ++ hitF (fun e => decide (e = l[i])) (fun _ => true) cj 0) := by
  rw [List.drop_eq_getElem_cons hi, addC, if_pos h]
theorem addC_no {l : List Ex} {i : Nat} {us : List (Int × Bool)} (hi : i < l.length) (h : (cj.any fun e => decide (e = l[i])) = false) : addC cj (l.drop i) us = none := by
  rw [List.drop_eq_getElem_cons hi, addC, if_neg (by rw [h]; simp)]
theorem addK_skip {p : Pl} {l : List Ex} {i : Nat} {us : List (Int × Bool)} (hi : i < l.length) (h : l[i].op = 0) : addK d0 b cj p (l.drop i) i us = addK d0 b cj p (l.drop (i + 1)) (i + 1) us := by
  rw [List.drop_eq_getElem_cons hi, addK, if_pos h]
theorem addK_go {p : Pl} {l : List Ex} {i : Nat} {us : List (Int × Bool)} (hi : i < l.length) (h0 : ¬ l[i].op = 0) (h : cj.any (gvK d0 b p i l[i]) = true) : addK d0 b cj p (l.drop i) i us = addK d0 b cj p (l.drop (i + 1)) (i + 1) (us ++ hitF (gvK d0 b p i l[i]) (geK p) cj 0) := by
  rw [List.drop_eq_getElem_cons hi, addK, if_neg h0, if_pos h]
theorem addK_no {p : Pl} {l : List Ex} {i : Nat} {us : List (Int × Bool)} (hi : i < l.length) (h0 : ¬ l[i].op = 0) (h : cj.any (gvK d0 b p i l[i]) = false) : addK d0 b cj p (l.drop i) i us = none := by
  rw [List.drop_eq_getElem_cons hi, addK, if_neg h0, if_neg (by rw [h]; simp)]
theorem mul_go {m i n : Nat} (h : i < m) : (m - i) * n = n + (m - (i + 1)) * n := by
  rw [show m - i = (m - (i + 1)) + 1 by omega, Nat.add_mul, Nat.one_mul, Nat.add_comm]
end
/-- what the shape of a part says of its keys -/
structure nfP (d0 : List Tb) (b : Bd) (p : Pl) : Prop where
  k : p.k = 2 ∨ p.k = 3
  src : 0 ≤ p.src ∧ p.src < b.tabs.length
  c0 : 0 < p.cols.length
  c2 : p.k = 2 → p.keys.length = p.cols.length
  cc : ∀ j (h : j < p.cols.length), 0 ≤ p.cols[j] ∧ p.cols[j] < ncol d0 (tabI b.tabs p.src)
theorem nfP_of {d0 : List Tb} {b : Bd} {p : Pl} {l : List Int} (h : shB d0 b p l = true) (hk : 0 < p.keys.length) : nfP d0 b p := by
  by_cases hl : lfK p
  · rw [shB_leaf hl] at h
    obtain ⟨h1, h2, h3, h4⟩ := of_decide_eq_true h
    unfold lf4 at h4
    rcases hl with e | e | e
    · rw [if_pos e] at h4; omega
    · rw [if_neg (by omega), if_pos e] at h4
      exact ⟨.inl e, h1.1, h4.1, fun _ => h4.2.1, fun j hj => (h2 j hj).1⟩
    · rw [if_neg (by omega), if_neg (by omega)] at h4
      exact ⟨.inr e, h1.1, by omega, fun e2 => by omega, fun j hj => (h2 j hj).1⟩
  · by_cases hn : npP p
    · have := hn.2.2.2; omega
    · rw [shB_no hl hn] at h; cases h
theorem sh_arg {d0 : List Tb} {b : Bd} {p a : Pl} {l : List Int} (h : shB d0 b p l = true) (ha : a ∈ p.args) : ∃ l', shB d0 b a l' = true := by
  obtain ⟨i, hi, rfl⟩ := List.mem_iff_getElem.1 ha
  by_cases hl : lfK p
  · rw [shB_leaf hl] at h
    have := (of_decide_eq_true h).1.2.1; omega
  · by_cases hn : npP p
    · by_cases h4 : p.k = 4
      · by_cases h5 : p.args.length = 1
        · rw [shB_4 hn h4 h5, Bool.and_eq_true, Bool.and_eq_true] at h
          obtain rfl : i = 0 := by omega
          exact ⟨_, h.2.1⟩
        · rw [shB_4n hn h4 h5] at h; cases h
      · by_cases h5 : p.args.length = 2
        · rw [shB_5 hn h4 h5, Bool.and_eq_true, Bool.and_eq_true] at h
          rcases Nat.lt_or_ge 0 i with h0 | h0
          · obtain rfl : i = 1 := by omega
            exact ⟨_, h.2.2⟩
          · obtain rfl : i = 0 := by omega
            exact ⟨_, h.2.1⟩
        · rw [shB_5n hn h4 h5] at h; cases h
    · rw [shB_no hl hn] at h; cases h
theorem few_flt {d : Nat} {p : Pl} (h : fewB d p = true) : (cnj p.flt).length ≤ 400 := by
  cases d with
  | zero => rw [fewB] at h; cases h
  | succ d =>
    rw [fewB, Bool.and_eq_true] at h
    have h1 := (of_decide_eq_true h.1).2.2.2
    exact Nat.le_trans (cnj_nod _ _ h1) h1
theorem few_arg {d : Nat} {p a : Pl} (h : fewB d p = true) (ha : a ∈ p.args) : ∃ d', fewB d' a = true := by
  cases d with
  | zero => rw [fewB] at h; cases h
  | succ d =>
    rw [fewB, Bool.and_eq_true, Bool.and_eq_true, List.all_eq_true, List.all_eq_true] at h
    exact ⟨d, h.2.2 a ha⟩
theorem usN_arg {n : Nat} {p a : Pl} (ha : a ∈ p.args) : usN n a ≤ usN n p := by
  have key : ∀ l : List Pl, a ∈ l → usN n a ≤ usNs n l := by
    intro l
    induction l with
    | nil => intro h; cases h
    | cons x r ih =>
      intro h
      rw [usNs]
      rcases List.mem_cons.1 h with e | e
      · rw [e]; omega
      · have := ih e; omega
  rw [usN_eq n p]
  have := key _ ha; omega

end Go.Proofs.YtihlgigaejhilaaGreatDoor.W
namespace Go.Proofs.YtihlgigaejhilaaGreatDoor.W
open Go.RowKit E
/-! uses -/
structure okU (d0 : List Tb) (b : Bd) (cj : List Ex) (p : Pl) : Prop where
  ok : okP p
  few : ∃ d, fewB d p = true
  sh : ∃ l, shB d0 b p l = true
  n : usN cj.length p ≤ 1000000000000
theorem okU.arg {d0 : List Tb} {b : Bd} {cj : List Ex} {p a : Pl} (h : okU d0 b cj p) (ha : a ∈ p.args) : okU d0 b cj a :=
  ⟨(okP_iff.1 h.ok).2 a ha, h.few.elim fun d hd => few_arg hd ha, h.sh.elim fun l hl => sh_arg hl ha, Nat.le_trans (usN_arg ha) h.n⟩
abbrev usX (d0 : List Tb) (b : Bd) (cj : List Ex) (p : Pl) : X := .tup [ussC .un ((usM d0 b cj p).getD []), bC (usM d0 b cj p).isSome]
abbrev US (d0 : List Tb) (b : Bd) (kx : Nat) (cj : List Ex) (p : Pl) : Prop := ∀ H : Heap, H kx = some (.box (stA d0 b)) → E.Spec Tryz.prog 35 [.a (.bp kx 0), plC p, exsC .un cj] H fun x H' => x = usX d0 b cj p ∧ H' = H
theorem updM {f g : Heap} {a : Nat} {x : Option AO} (h : ∀ j o, f j = some o → g j = some o) : ∀ j o, upd f a x j = some o → upd g a x j = some o := fun j o q => by
  by_cases e : j = a
  · subst e; rw [upd_same] at q ⊢; exact q
  · rw [upd_ne _ _ e] at q ⊢; exact h j o q
theorem usX_no {d0 : List Tb} {b : Bd} {cj : List Ex} {p : Pl} (h : usM d0 b cj p = none) : X.tup [ussC .un [], bC false] = usX d0 b cj p := by rw [usX, h]; rfl
theorem usX_yes {d0 : List Tb} {b : Bd} {cj : List Ex} {p : Pl} {us : List (Int × Bool)} (h : usM d0 b cj p = some us) : X.tup [ussC .un us, bC true] = usX d0 b cj p := by rw [usX, h]; rfl

theorem lt4 {f : Heap} {a b c d e : Nat} {x y z u : AO} (h : upd (upd (upd (upd f a (some x)) b (some y)) c (some z)) d (some u) e = none) : f e = none := (upd_lt (upd_lt (upd_lt (upd_lt h).2).2).2).2

set_option maxHeartbeats 16000000 in
set_option maxRecDepth 20000 in
theorem uses_of (H : Heap) (kx : Nat) (d0 : List Tb) (b : Bd) (hx : H kx = some (.box (stA d0 b))) (hb : okB d0 b) (cj : List Ex) (hcj : ∀ e ∈ cj, okE e) (p : Pl) (hu : okU d0 b cj p) (ih : ∀ a ∈ p.args, US d0 b kx cj a) : E.Spec Tryz.prog 35 [.a (.bp kx 0), plC p, exsC .un cj] H fun x H' => x = usX d0 b cj p ∧ H' = H := by
 refine Spec.enter Tryz.func35 rfl ?_
 refine AW.wk (Wk.keep 103 [(0, .c (.a (.bp kx 0))), (1, .c (plC p)), (2, .c (exsC .un cj))] [] (H) rfl ⟨rfl, rfl, rfl, trivial⟩ trivial (fun _ _ h => h) rfl) ?_
 refine sR (Z16 (r := [_, _, _, _, _, _, _, _, _, _, _, _, _]) ?_)
 refine SeqK.newBox (r := [_]) rfl rfl rfl rfl rfl rfl (fun k5 hk5 => ?_)
 refine sA ?_
 refine sB ?_
 refine AW.seq ?_
 obtain ⟨ho, ⟨d9, hfw⟩, ⟨l9, hsh⟩, hun⟩ := hu
 obtain ⟨⟨k1, k2, k3, kf, kk⟩, kA⟩ := okP_iff.1 ho
 have hft := few_flt hfw
 rw [usN_eq] at hun
 have hpe := usM_eq (d0 := d0) (b := b) (cj := cj) p
 refine AW.reg (Z25 (r := [_]) Fx.ze98 ?_)
 refine Z3 (AW.seq (sR (Z1 Fx.fl35_5 ?_)))
 refine Z0 Fx.ty33 ?_
 refine Z14 Fx.un33 ?_
 refine sM ?_
 refine Z3 (AW.block ?_)
 refine AW.tipL 8 0 103 2 rfl rfl (fun kt hkt => ?_)
 refine AW.exp 8 rfl (fun _ _ _ _ h => by cases h) (fun k8 hk8b => ?_)
 obtain ⟨n8t, hk8⟩ := upd_lt hk8b
 rw [upd_swap _ _ _ n8t.symm]
 refine AW.loop (fun (i : Nat) s => ∃ (k9 : Nat) (us : List (Int × Bool)), (i ≤ p.args.length ∧ ((upd H k5 (some (.box [.t (.sl .un 8 (cj.map exT'))]))) k9 = none ∧ k8 ≠ k9) ∧ us.length + usNs cj.length (p.args.drop i) + ((cnj p.flt).length + p.keys.length) * cj.length ≤ 1000000000000 ∧ usMs d0 b cj (p.args.drop i) us = usMs d0 b cj p.args []) ∧ s = ⟨103, sp [(0, .c (.a (.bp kx 0))), (4, .lp 4 0), (5, .c (.a (.bp k5 0))), (6, .c (.a (.t (.v (.slice none 0 0))))), (7, .c (bC false)), (8, .c (.a (.bp k8 0))), (25, .c (plsC .un p.args)), (26, iX .i64 (((p.args.map plT').length : Nat) : Int)), (27, iX .i64 ((i : Nat) : Int))], lv [(4, .box (zPl p))], upd (upd (upd H k5 (some (.box [.t (.sl .un 8 (cj.map exT'))]))) k8 (some (.box [.ts k9 .ne 2 (us.map usT)]))) k9 (some (.tip 103 2 (us.map usT).length))⟩) (fun i => p.args.length - i) 0 ⟨_, by exact Wk.keep 103 _ _ _ rfl ⟨rfl, rfl, rfl, rfl, rfl, rfl, rfl, rfl, rfl, trivial⟩ ⟨rfl, trivial⟩ (fun _ _ h => h) rfl, kt, [], ⟨Nat.zero_le _, ⟨hkt, n8t⟩, by simpa using (by omega : usNs cj.length p.args + ((cnj p.flt).length + p.keys.length) * cj.length ≤ 1000000000000), rfl⟩, rfl⟩ (fun i s hs => ?_)
 obtain ⟨k9, us, ⟨hi0, ⟨hk9, n89⟩, hB, hI⟩, rfl⟩ := hs
 have hk9b : upd (upd H k5 (some (.box [.t (.sl .un 8 (cj.map exT'))]))) k8 (some (.box [.ts k9 .ne 2 (us.map usT)])) k9 = none := by rw [upd_ne _ _ n89.symm]; exact hk9
 have n85 := (upd_lt hk8).1.symm
 have n95 := (upd_lt hk9).1.symm
 refine sR (Z10 ?_)
 refine Z3 (AW.seq ?_)
 refine AW.condD rfl ?_ ?_ <;> intro h28
 ·
  have hi : i < p.args.length := by rw [List.length_map] at h28; omega
  have hng := usNs_go (n := cj.length) hi
  refine AW.skip (AW.seq (AW.block (sR (Z9 Fx.sl33 (idx_pl hi) ?_))))
  refine Z11 (.g [_, _, _, _, _, _, _, _, _, _, _, _, _]) Fx.ty35 ?_
  refine Z25 (r := [_, _, _, _, _, _, _, _, _, _, _, _, _]) Fx.ze35 ?_
  refine Z15 (r := [_, _, _, _, _, _, _, _, _, _, _, _, _]) Fx.ty35 ?_
  refine Z3 (sR (sM ?_))
  refine Z12 (r := .g [_, _, _, _, _, _, _, _, _, _, _, _, _]) Fx.ty35 ?_
  refine Z17 Fx.ty28 ?_
  refine Z53 Fx.fn35 (ih p.args[i] (List.getElem_mem hi) _ ((fun j o h => upd_sub hk9b j o (upd_sub hk8 j o (upd_sub hk5 j o h))) _ _ hx)) ?_
  refine SeqK.q (q_mvT rfl rfl) rfl rfl rfl ?_
  refine Z47 ?_
  refine Z47 ?_
  refine sA ?_
  refine sB ?_
  refine AW.seq (sR (sM ?_))
  refine Z33 ?_
  refine Z3 ?_
  refine AW.cond _ rfl (fun h39 => ?_) (fun h39 => ?_)
  ·
   have hno : usM d0 b cj p.args[i] = none := by cases hq : usM d0 b cj p.args[i] with
    | none => rfl
    | some _ => rw [hq] at h39; cases h39
   refine AW.seq ?_
   have hnone : usM d0 b cj p = none := by rw [hpe, ← hI, usMs_no hi hno]; rfl
   refine AW.reg (sA ?_)
   refine sB ?_
   refine AW.xw 6 rfl (XW.nilU (sz := 2)) ?_
   refine AW.ret ?_
   exact fin_x (x := .tup [_, _]) (H) (.tmp rfl (.tmp rfl .nil)) rfl ((fun j o h => upd_sub hk9b j o (upd_sub hk8 j o (upd_sub hk5 j o h)))) (⟨usX_no hnone, rfl⟩)
  have hso : usM d0 b cj p.args[i] = some ((usM d0 b cj p.args[i]).getD []) := by cases hq : usM d0 b cj p.args[i] with
   | none => rw [hq] at h39; cases h39
   | some _ => rfl
  have hle := usM_le _ _ hso
  refine AW.skip (AW.reg (Z17 Fx.ty98 ?_))
  refine sM ?_
  refine SeqK.app1 rfl (hk9b) rfl Fx.el98 rfl rfl (by rw [List.length_map, List.length_map]; omega) rfl rfl (fun k42 hk42 => ?_)
  refine SeqK.r (g_store rfl rfl Fx.ty98 rfl rfl (by rw [upd_ne _ _ (upd_lt hk42).1.symm]; exact upd_same _ _ _) rfl rfl rfl) rfl ?_
  refine Z3 (AW.reg (Z2 ?_))
  refine sM ?_
  refine Z3 ?_
  exact ⟨i + 1, _, by exact Wk.keep 103 _ _ _ rfl ⟨rfl, rfl, rfl, rfl, rfl, rfl, rfl, rfl, rfl, trivial⟩ ⟨rfl, trivial⟩ (fun j o h => by rw [List.map_append] at h; show upd (upd (upd (upd H k5 (some (.box [.t (.sl .un 8 (cj.map exT'))]))) k8 _) k42 _) k8 _ j = some o; rw [upd_swap _ _ _ (upd_lt hk42).1, upd_upd]; exact h) rfl, by omega, k42, us ++ ((usM d0 b cj p.args[i]).getD []), ⟨hi, ⟨(upd_lt hk42).2, (upd_lt hk42).1.symm⟩, by rw [List.length_append]; omega, by rw [← hI, usMs_go hi hso]⟩, rfl⟩
 refine AW.exit ?_
 refine eth_e ?_
 refine eth_e ?_
 refine exit_here ?_
 refine AW.seq ?_
 obtain rfl : i = p.args.length := by rw [List.length_map] at h28; omega
 have hA : usMs d0 b cj p.args [] = some us := by rw [← hI, List.drop_length, usMs]
 have hI2 : (addC cj ((cnj p.flt).drop 0) us).bind (fun o2 => addK d0 b cj p p.keys 0 o2) = usM d0 b cj p := by rw [hpe, hA]; rfl
 have hB2 : us.length + ((cnj p.flt).length - 0) * cj.length + p.keys.length * cj.length ≤ 1000000000000 := by rw [Nat.add_mul] at hB; rw [Nat.sub_zero]; omega
 refine AW.reg (SeqK.q (q_mkFn rfl rfl rfl) rfl rfl rfl ?_)
 refine sB ?_
 refine sR (sB ?_)
 refine AW.seq (AW.seq (AW.xw 14 rfl XW.fn0 ?_))
 refine AW.reg (Z1 Fx.fl35_4 ?_)
 refine Z12 (r := .g [_, _, _, _, _, _, _, _]) Fx.ty30 ?_
 refine SeqK.q (q_call _ rfl Fx.fn18 rfl (conj_any p.flt kf (by omega)) rfl) rfl rfl rfl ?_
 refine Z14 Fx.un28 ?_
 refine sM ?_
 refine Z3 (AW.block ?_)
 refine AW.loop (fun (i : Nat) s => ∃ (k9 : Nat) (us : List (Int × Bool)), (i ≤ (cnj p.flt).length ∧ ((upd H k5 (some (.box [.t (.sl .un 8 (cj.map exT'))]))) k9 = none ∧ k8 ≠ k9) ∧ us.length + ((cnj p.flt).length - i) * cj.length + p.keys.length * cj.length ≤ 1000000000000 ∧ (addC cj ((cnj p.flt).drop i) us).bind (fun o2 => addK d0 b cj p p.keys 0 o2) = usM d0 b cj p) ∧ s = ⟨103, sp [(0, .c (.a (.bp kx 0))), (4, .lp 4 0), (5, .c (.a (.bp k5 0))), (6, .c (.a (.t (.v (.slice none 0 0))))), (7, .c (bC false)), (8, .c (.a (.bp k8 0))), (13, .c (.a (.fn 55 [.bp k5 0, .bp k8 0]))), (14, .c (.a (.fn 56 []))), (47, .c (exsC .un (cnj p.flt))), (48, iX .i64 ((((cnj p.flt).map exT').length : Nat) : Int)), (49, iX .i64 ((i : Nat) : Int))], lv [(4, .box (zPl p))], upd (upd (upd H k5 (some (.box [.t (.sl .un 8 (cj.map exT'))]))) k8 (some (.box [.ts k9 .ne 2 (us.map usT)]))) k9 (some (.tip 103 2 (us.map usT).length))⟩) (fun i => (cnj p.flt).length - i) 0 ⟨_, by exact Wk.keep 103 _ _ _ rfl ⟨rfl, rfl, rfl, rfl, rfl, rfl, rfl, rfl, rfl, rfl, rfl, trivial⟩ ⟨rfl, trivial⟩ (fun _ _ h => h) rfl, k9, us, ⟨Nat.zero_le _, ⟨hk9, n89⟩, hB2, hI2⟩, rfl⟩ (fun i s hs => ?_)
 obtain ⟨k9, us, ⟨hi0, ⟨hk9, n89⟩, hB, hI⟩, rfl⟩ := hs
 have hk9b : upd (upd H k5 (some (.box [.t (.sl .un 8 (cj.map exT'))]))) k8 (some (.box [.ts k9 .ne 2 (us.map usT)])) k9 = none := by rw [upd_ne _ _ n89.symm]; exact hk9
 have n85 := (upd_lt hk8).1.symm
 have n95 := (upd_lt hk9).1.symm
 refine sR (Z10 ?_)
 refine Z3 (AW.seq ?_)
 refine AW.condD rfl ?_ ?_ <;> intro h50
 ·
  have hi : i < (cnj p.flt).length := by rw [List.length_map] at h50; omega
  have hmg := mul_go (n := cj.length) hi
  refine AW.skip (AW.seq (AW.block (sR (Z9 Fx.sl28 (idx_ex hi) ?_))))
  refine Z11 (.g [_, _, _, _, _, _, _, _]) Fx.ty30 ?_
  refine SeqK.newAlloc (r := [_, _, _, _, _, _, _, _]) rfl rfl rfl Fx.ze30 rfl rfl rfl (fun k16 hk16 => ?_)
  refine Z50 Fx.ty30 ?_
  refine Z3 (AW.seq ?_)
  obtain ⟨r16, r168, r169⟩ := lt3 hk16
  rw [upd_upd, ← rot (a := k16) r168 r169]
  refine AW.reg (sM ?_)
  refine SeqK.q (q_mkFn rfl rfl rfl) rfl rfl rfl ?_
  refine sM ?_
  refine SeqK.callV (f := 55) (cs := [.bp k5 0, .bp k8 0]) rfl rfl rfl rfl rfl Fx.fn55 rfl (findU_any (upd (upd H k5 (some (.box [.t (.sl .un 8 (cj.map exT'))]))) k16 (some (.box (zEx (cnj p.flt)[i])))) k5 k8 k9 cj us 57 56 [.bp k16 0] [] (fun e => decide (e = (cnj p.flt)[i])) (fun _ => true) (upd_sub r16 _ _ (upd_same _ _ _)) (by rw [upd_ne _ _ r168.symm]; exact hk8) (by rw [upd_ne _ _ r169.symm]; exact hk9) n89 Fx.fn57 Fx.fn56 (fun x hxm H1 h1 => eqTo_any H1 k16 (cnj p.flt)[i] (h1 _ _ (upd_same _ _ _)) x (hcj x hxm)) (fun x _ H1 _ => always_fn x H1) (by omega)) (fun _ _ h => by rw [h.1]; rfl) (fun x56 H56 q56 => ?_)
  obtain ⟨rfl, k56, hk56, n86, hHs⟩ := q56
  subst hHs
  have v8 : (upd (upd H k5 (some (.box [.t (.sl .un 8 (cj.map exT'))]))) k16 (some (.box (zEx (cnj p.flt)[i])))) k8 = none := by rw [upd_ne _ _ r168.symm]; exact hk8
  have w56 : ∀ x, upd (upd (upd H k5 (some (.box [.t (.sl .un 8 (cj.map exT'))]))) k16 (some (.box (zEx (cnj p.flt)[i])))) k8 x k56 = none := fun x => by rw [upd_ne _ _ n86.symm]; exact hk56
  refine Z33 ?_
  refine Z3 ?_
  refine AW.cond _ rfl (fun h57 => ?_) (fun h57 => ?_)
  ·
   refine AW.seq ?_
   have hnone : usM d0 b cj p = none := by rw [← hI, addC_no hi (by simpa using h57)]; rfl
   refine AW.reg (sA ?_)
   refine sB ?_
   refine AW.xw 6 rfl (XW.nilU (sz := 2)) ?_
   refine AW.ret ?_
   exact fin_x (x := .tup [_, _]) (H) (.tmp rfl (.tmp rfl .nil)) rfl ((fun j o h => upd_sub (w56 _) j o (upd_sub v8 j o (upd_sub r16 j o (upd_sub hk5 j o h))))) (⟨usX_no hnone, rfl⟩)
  refine AW.skip (AW.reg (Z2 ?_))
  refine sM ?_
  refine Z3 ?_
  exact ⟨i + 1, _, by exact Wk.keep 103 _ _ _ rfl ⟨rfl, rfl, rfl, rfl, rfl, rfl, rfl, rfl, rfl, rfl, rfl, trivial⟩ ⟨rfl, trivial⟩ (updM (updM (upd_sub r16))) rfl, by omega, k56, us ++ hitF (fun e => decide (e = (cnj p.flt)[i])) (fun _ => true) cj 0, ⟨hi, ⟨(upd_lt hk56).2, n86⟩, by rw [List.length_append]; have h9 := hitF_len (gv := fun e => decide (e = (cnj p.flt)[i])) (ge := fun _ => true) cj 0; omega, by rw [← hI, addC_go hi (by simpa using h57)]⟩, rfl⟩
 refine AW.exit ?_
 refine eth_e ?_
 refine eth_e ?_
 refine exit_here ?_
 refine AW.seq (AW.seq ?_)
 obtain rfl : i = (cnj p.flt).length := by rw [List.length_map] at h50; omega
 have hI3 : addK d0 b cj p (p.keys.drop 0) 0 us = usM d0 b cj p := by rw [← hI, List.drop_length, addC]; rfl
 have hB3 : us.length + (p.keys.length - 0) * cj.length ≤ 1000000000000 := by rw [Nat.sub_zero]; omega
 refine AW.reg (Z1 Fx.fl35_3 ?_)
 refine Z0 Fx.ty28 ?_
 refine Z14 Fx.un28 ?_
 refine sM ?_
 refine Z3 (AW.block ?_)
 refine AW.loop (fun (i : Nat) s => ∃ (k9 : Nat) (us : List (Int × Bool)), (i ≤ p.keys.length ∧ ((upd H k5 (some (.box [.t (.sl .un 8 (cj.map exT'))]))) k9 = none ∧ k8 ≠ k9) ∧ us.length + (p.keys.length - i) * cj.length ≤ 1000000000000 ∧ addK d0 b cj p (p.keys.drop i) i us = usM d0 b cj p) ∧ s = ⟨103, sp [(0, .c (.a (.bp kx 0))), (4, .lp 4 0), (5, .c (.a (.bp k5 0))), (6, .c (.a (.t (.v (.slice none 0 0))))), (7, .c (bC false)), (8, .c (.a (.bp k8 0))), (13, .c (.a (.fn 55 [.bp k5 0, .bp k8 0]))), (14, .c (.a (.fn 56 []))), (60, .c (exsC .un p.keys)), (61, iX .i64 (((p.keys.map exT').length : Nat) : Int)), (62, iX .i64 ((i : Nat) : Int))], lv [(4, .box (zPl p))], upd (upd (upd H k5 (some (.box [.t (.sl .un 8 (cj.map exT'))]))) k8 (some (.box [.ts k9 .ne 2 (us.map usT)]))) k9 (some (.tip 103 2 (us.map usT).length))⟩) (fun i => p.keys.length - i) 0 ⟨_, by exact Wk.keep 103 _ _ _ rfl ⟨rfl, rfl, rfl, rfl, rfl, rfl, rfl, rfl, rfl, rfl, rfl, trivial⟩ ⟨rfl, trivial⟩ (fun _ _ h => h) rfl, k9, us, ⟨Nat.zero_le _, ⟨hk9, n89⟩, hB3, hI3⟩, rfl⟩ (fun i s hs => ?_)
 obtain ⟨k9, us, ⟨hi0, ⟨hk9, n89⟩, hB, hI⟩, rfl⟩ := hs
 have hk9b : upd (upd H k5 (some (.box [.t (.sl .un 8 (cj.map exT'))]))) k8 (some (.box [.ts k9 .ne 2 (us.map usT)])) k9 = none := by rw [upd_ne _ _ n89.symm]; exact hk9
 have n85 := (upd_lt hk8).1.symm
 have n95 := (upd_lt hk9).1.symm
 refine sR (Z10 ?_)
 refine Z3 (AW.seq ?_)
 refine AW.condD rfl ?_ ?_ <;> intro h63
 ·
  have hi : i < p.keys.length := by rw [List.length_map] at h63; omega
  have hmg := mul_go (n := cj.length) hi
  have nf := nfP_of hsh (by omega)
  have hc0 := nf.c0
  have hcc0 := nf.cc 0 hc0
  have hnc := ncol_le hb.hc (tabI b.tabs p.src)
  have hof := hb.off p.src.toNat
  refine AW.skip (AW.seq (AW.block (sR (sM ?_))))
  refine Z9 Fx.sl28 (idx_ex hi) ?_
  refine Z11 (.g [_, _, _, _, _, _, _, _]) Fx.ty30 ?_
  refine SeqK.newAlloc (r := [_, _, _, _, _, _, _, _]) rfl rfl rfl Fx.ze30 rfl rfl rfl (fun k18 hk18 => ?_)
  refine sA ?_
  refine Z50 Fx.ty30 ?_
  refine Z3 (AW.seq (AW.seq ?_))
  obtain ⟨r18, r188, r189⟩ := lt3 hk18
  rw [upd_upd]
  refine AW.reg (SeqK.q (q_fieldH _ rfl Fx.fl30_0 rfl rfl) rfl rfl rfl ?_)
  refine Z17 Fx.ty3 ?_
  refine Z8 ?_
  refine Z3 ?_
  refine AW.condD rfl ?_ ?_ <;> intro h69
  ·
   refine AW.exit ?_
   refine eth_e ?_
   refine exit_here ?_
   refine AW.reg (Z2 ?_)
   refine sM ?_
   refine Z3 ?_
   exact ⟨i + 1, _, by exact Wk.keep 103 _ _ _ rfl ⟨rfl, rfl, rfl, rfl, rfl, rfl, rfl, rfl, rfl, rfl, rfl, trivial⟩ ⟨rfl, trivial⟩ (upd_sub hk18) rfl, by omega, k9, us, ⟨hi, ⟨hk9, n89⟩, by omega, by rw [← hI, addK_skip hi h69]⟩, rfl⟩
  refine AW.skip (sR (sM ?_))
  refine Z25 (r := [_]) Fx.ze122 ?_
  refine Z25 (r := [_]) Fx.ze122 ?_
  refine Z15 (r := [_]) Fx.ty122 ?_
  refine Z15 (r := [_]) Fx.ty122 ?_
  refine sB ?_
  refine sR (Z1 Fx.fl35_2 ?_)
  refine Z0 Fx.ty24 ?_
  refine Z9 Fx.sl24 (idx_map (f := i64T) hc0) ?_
  refine Z11 (.a _) Fx.ty3 ?_
  refine sB ?_
  refine AW.seq (AW.block (sR (Z1 Fx.fl35_0 ?_)))
  refine Z0 Fx.ty3 ?_
  refine Z8 ?_
  refine sB ?_
  refine AW.condD rfl ?_ ?_ <;> intro h75
  ·
   have hic : i < p.cols.length := by rw [← nf.c2 h75]; exact hi
   have hcci := nf.cc i hic
   have hck : colK p i = p.cols[i] := by rw [colK, if_pos h75, List.getD_eq_getElem?_getD, List.getElem?_eq_getElem hic]; rfl
   refine AW.reg (Z1 Fx.fl35_2 ?_)
   refine Z0 Fx.ty24 ?_
   refine sM ?_
   refine Z9 Fx.sl24 (idx_map (f := i64T) hic) ?_
   refine Z11 (.a _) Fx.ty3 ?_
   refine sB ?_
   refine AW.seq (sR (Z1 Fx.fl35_0 ?_))
   refine Z0 Fx.ty3 ?_
   refine Z8 ?_
   refine Z3 ?_
   refine AW.condD rfl ?_ ?_ <;> intro h89
   ·
    omega
   refine AW.skip (sR (sM ?_))
   refine Z1 Fx.fl35_1 ?_
   refine Z0 Fx.ty3 ?_
   refine SeqK.r (g_call rfl Fx.fn63 rfl (first_any _ kx d0 b (upd_sub hk18 _ _ ((fun j o h => upd_sub hk9b j o (upd_sub hk8 j o (upd_sub hk5 j o h))) _ _ hx)) hb p.src ⟨nf.src.1, by have := nf.src.2; omega⟩) rfl rfl rfl) rfl ?_
   refine sM ?_
   refine SeqK.q (q_add _ rfl rfl rfl ((by rw [w64 (by omega) (by omega)]; show _ = (offM d0 (b.tabs.take p.src.toNat) : Int) + colK p i; omega : IntKind.i64.wrap _ = varK d0 b p i))) rfl rfl rfl ?_
   refine SeqK.newAlloc (r := [_]) rfl rfl rfl Fx.ze3 rfl rfl rfl (fun k23 hk23 => ?_)
   refine Z50 Fx.ty3 ?_
   refine Z3 (AW.seq ?_)
   rw [upd_upd (k := k23)]
   refine AW.xwL 19 rfl (.cons XW.fn0 .nil) ?_
   refine AW.xwL 20 rfl (.cons XW.fn0 .nil) ?_
   refine AW.exp 19 rfl (fun _ _ _ _ h => by cases h) (fun k19 hk19 => ?_)
   refine AW.exp 20 rfl (fun _ _ _ _ h => by cases h) (fun k20 hk20 => ?_)
   obtain ⟨a1, a2⟩ := upd_lt hk23
   obtain ⟨a3, a4, a5⟩ := lt3 a2
   obtain ⟨b1, b2⟩ := upd_lt hk19
   obtain ⟨b3, b4⟩ := upd_lt b2
   obtain ⟨b5, b6, b7⟩ := lt3 b4
   obtain ⟨c1, c2⟩ := upd_lt hk20
   obtain ⟨c3, c4⟩ := upd_lt c2
   obtain ⟨c5, c6⟩ := upd_lt c4
   obtain ⟨c7, c8, c9⟩ := lt3 c6
   rw [← rot (a := k18) r188 r189, ← rot (a := k23) a4 a5, ← rot (a := k19) b6 b7, ← rot (a := k20) c8 c9]
   have s23 : upd (upd H k5 (some (.box [.t (.sl .un 8 (cj.map exT'))]))) k18 (some (.box (zEx p.keys[i]))) k23 = none := by rw [upd_ne _ _ a1]; exact a3
   have s19 : upd (upd (upd H k5 (some (.box [.t (.sl .un 8 (cj.map exT'))]))) k18 (some (.box (zEx p.keys[i])))) k23 (some (.box [.t (.v (.int .i64 (varK d0 b p i)))])) k19 = none := by rw [upd_ne _ _ b1, upd_ne _ _ b3]; exact b5
   have s20 : ∀ x, upd (upd (upd (upd H k5 (some (.box [.t (.sl .un 8 (cj.map exT'))]))) k18 (some (.box (zEx p.keys[i])))) k23 (some (.box [.t (.v (.int .i64 (varK d0 b p i)))]))) k19 x k20 = none := fun x => by rw [upd_ne _ _ c1, upd_ne _ _ c3, upd_ne _ _ c5]; exact c7
   have s20 := s20 (some (.box [.fn 59 []]))
   have u8 : (upd (upd (upd (upd (upd H k5 (some (.box [.t (.sl .un 8 (cj.map exT'))]))) k18 (some (.box (zEx p.keys[i])))) k23 (some (.box [.t (.v (.int .i64 (varK d0 b p i)))]))) k19 (some (.box [.fn 59 []]))) k20 (some (.box [.fn 59 []]))) k8 = none := by rw [upd_ne _ _ c8.symm, upd_ne _ _ b6.symm, upd_ne _ _ a4.symm, upd_ne _ _ r188.symm]; exact hk8
   have u9 : (upd (upd (upd (upd (upd H k5 (some (.box [.t (.sl .un 8 (cj.map exT'))]))) k18 (some (.box (zEx p.keys[i])))) k23 (some (.box [.t (.v (.int .i64 (varK d0 b p i)))]))) k19 (some (.box [.fn 59 []]))) k20 (some (.box [.fn 59 []]))) k9 = none := by rw [upd_ne _ _ c9.symm, upd_ne _ _ b7.symm, upd_ne _ _ a5.symm, upd_ne _ _ r189.symm]; exact hk9
   refine AW.reg (sM ?_)
   refine SeqK.q (q_mkFn rfl rfl rfl) rfl rfl rfl ?_
   refine sM ?_
   refine SeqK.callV (f := 55) (cs := [.bp k5 0, .bp k8 0]) rfl rfl rfl rfl rfl Fx.fn55 rfl (findU_any (upd (upd (upd (upd (upd H k5 (some (.box [.t (.sl .un 8 (cj.map exT'))]))) k18 (some (.box (zEx p.keys[i])))) k23 (some (.box [.t (.v (.int .i64 (varK d0 b p i)))]))) k19 (some (.box [.fn 59 []]))) k20 (some (.box [.fn 59 []]))) k5 k8 k9 cj us 64 56 [.bp k23 0, .bp k18 0, .bp k19 0, .bp k20 0] [] (gvK d0 b p i p.keys[i]) (geK p) ((fun j o h => upd_sub s20 j o (upd_sub s19 j o (upd_sub s23 j o (upd_sub r18 j o h)))) _ _ (upd_same _ _ _)) u8 u9 n89 Fx.fn64 Fx.fn56 (fun x hxm H1 h1 => by
    have e1 : ltK p i = sameB := if_pos h75
    have e2 : rtK p i = sameB := if_pos h75
    show E.Spec Tryz.prog 64 _ H1 fun y H'' => y = .c (bC (gvB x (varK d0 b p i) p.keys[i] (ltK p i) (rtK p i))) ∧ H'' = H1
    rw [e1, e2]
    exact givesTo_any H1 k23 k18 k19 k20 59 59 sameB sameB Fx.fn59 Fx.fn59 same_fn same_fn (varK d0 b p i) p.keys[i] (h1 _ _ (upd_sub s20 _ _ (upd_sub s19 _ _ (upd_same _ _ _)))) (h1 _ _ (upd_sub s20 _ _ (upd_sub s19 _ _ (upd_sub s23 _ _ (upd_same _ _ _))))) (h1 _ _ (upd_sub s20 _ _ (upd_same _ _ _))) (h1 _ _ (upd_same _ _ _)) x (hcj x hxm)) (fun x hxm H1 h1 => by
    show E.Spec Tryz.prog 56 _ H1 fun y H'' => y = .c (bC (geK p x)) ∧ H'' = H1
    rw [show geK p = fun _ => true from if_neg h89]
    exact always_fn x H1) (by omega)) (fun _ _ h => by rw [h.1]; rfl) (fun x99 H99 q99 => ?_)
   obtain ⟨rfl, k99, hk99, n86, hHs⟩ := q99
   subst hHs
   have f99 := (lt4 hk99)
   have w99 : ∀ x, upd (upd (upd (upd (upd (upd H k5 (some (.box [.t (.sl .un 8 (cj.map exT'))]))) k18 (some (.box (zEx p.keys[i])))) k23 (some (.box [.t (.v (.int .i64 (varK d0 b p i)))]))) k19 (some (.box [.fn 59 []]))) k20 (some (.box [.fn 59 []]))) k8 x k99 = none := fun x => by rw [upd_ne _ _ n86.symm]; exact hk99
   refine Z33 ?_
   refine Z3 ?_
   refine AW.cond _ rfl (fun h100 => ?_) (fun h100 => ?_)
   ·
    refine AW.seq ?_
    have hnone : usM d0 b cj p = none := by rw [← hI, addK_no hi h69 (by simpa using h100)]
    refine AW.reg (sA ?_)
    refine sB ?_
    refine AW.xw 6 rfl (XW.nilU (sz := 2)) ?_
    refine AW.ret ?_
    exact fin_x (x := .tup [_, _]) (H) (.tmp rfl (.tmp rfl .nil)) rfl ((fun j o h => upd_sub (w99 _) j o (upd_sub u8 j o ((fun j o h => upd_sub s20 j o (upd_sub s19 j o (upd_sub s23 j o (upd_sub r18 j o h)))) j o (upd_sub hk5 j o h))))) (⟨usX_no hnone, rfl⟩)
   refine AW.skip (AW.reg (Z2 ?_))
   refine sM ?_
   refine Z3 ?_
   exact ⟨i + 1, _, by exact Wk.keep 103 _ _ _ rfl ⟨rfl, rfl, rfl, rfl, rfl, rfl, rfl, rfl, rfl, rfl, rfl, trivial⟩ ⟨rfl, trivial⟩ (updM (updM (fun j o h => upd_sub s20 j o (upd_sub s19 j o (upd_sub s23 j o (upd_sub r18 j o h)))))) rfl, by omega, k99, us ++ hitF (gvK d0 b p i p.keys[i]) (geK p) cj 0, ⟨hi, ⟨f99, n86⟩, by rw [List.length_append]; have h9 := hitF_len (gv := gvK d0 b p i p.keys[i]) (ge := geK p) cj 0; omega, by rw [← hI, addK_go hi h69 (by simpa using h100)]⟩, rfl⟩
  have hck : colK p i = p.cols[0] := by rw [colK, if_neg h75, List.getD_eq_getElem?_getD, List.getElem?_eq_getElem hc0]; rfl
  refine sR (sM ?_)
  refine Z8 ?_
  refine sB ?_
  refine AW.condD rfl ?_ ?_ <;> intro h84
  ·
   have hi00 : i = 0 := by omega
   refine AW.reg (Z15 (r := [_]) Fx.ty122 ?_)
   refine Z15 (r := [_]) Fx.ty122 ?_
   refine Z3 (AW.seq (sR (Z1 Fx.fl35_0 ?_)))
   refine Z0 Fx.ty3 ?_
   refine Z8 ?_
   refine Z3 ?_
   refine AW.condD rfl ?_ ?_ <;> intro h89
   ·
    refine AW.reg (sB ?_)
    refine AW.xw 21 rfl XW.fn0 ?_
    refine sR (sM ?_)
    refine Z1 Fx.fl35_1 ?_
    refine Z0 Fx.ty3 ?_
    refine SeqK.r (g_call rfl Fx.fn63 rfl (first_any _ kx d0 b (upd_sub hk18 _ _ ((fun j o h => upd_sub hk9b j o (upd_sub hk8 j o (upd_sub hk5 j o h))) _ _ hx)) hb p.src ⟨nf.src.1, by have := nf.src.2; omega⟩) rfl rfl rfl) rfl ?_
    refine sM ?_
    refine SeqK.q (q_add _ rfl rfl rfl ((by rw [w64 (by omega) (by omega)]; show _ = (offM d0 (b.tabs.take p.src.toNat) : Int) + colK p i; omega : IntKind.i64.wrap _ = varK d0 b p i))) rfl rfl rfl ?_
    refine SeqK.newAlloc (r := [_]) rfl rfl rfl Fx.ze3 rfl rfl rfl (fun k23 hk23 => ?_)
    refine Z50 Fx.ty3 ?_
    refine Z3 (AW.seq ?_)
    rw [upd_upd (k := k23)]
    refine AW.xwL 19 rfl (.cons XW.fn0 .nil) ?_
    refine AW.xwL 20 rfl (.cons XW.fn0 .nil) ?_
    refine AW.exp 19 rfl (fun _ _ _ _ h => by cases h) (fun k19 hk19 => ?_)
    refine AW.exp 20 rfl (fun _ _ _ _ h => by cases h) (fun k20 hk20 => ?_)
    obtain ⟨a1, a2⟩ := upd_lt hk23
    obtain ⟨a3, a4, a5⟩ := lt3 a2
    obtain ⟨b1, b2⟩ := upd_lt hk19
    obtain ⟨b3, b4⟩ := upd_lt b2
    obtain ⟨b5, b6, b7⟩ := lt3 b4
    obtain ⟨c1, c2⟩ := upd_lt hk20
    obtain ⟨c3, c4⟩ := upd_lt c2
    obtain ⟨c5, c6⟩ := upd_lt c4
    obtain ⟨c7, c8, c9⟩ := lt3 c6
    rw [← rot (a := k18) r188 r189, ← rot (a := k23) a4 a5, ← rot (a := k19) b6 b7, ← rot (a := k20) c8 c9]
    have s23 : upd (upd H k5 (some (.box [.t (.sl .un 8 (cj.map exT'))]))) k18 (some (.box (zEx p.keys[i]))) k23 = none := by rw [upd_ne _ _ a1]; exact a3
    have s19 : upd (upd (upd H k5 (some (.box [.t (.sl .un 8 (cj.map exT'))]))) k18 (some (.box (zEx p.keys[i])))) k23 (some (.box [.t (.v (.int .i64 (varK d0 b p i)))])) k19 = none := by rw [upd_ne _ _ b1, upd_ne _ _ b3]; exact b5
    have s20 : ∀ x, upd (upd (upd (upd H k5 (some (.box [.t (.sl .un 8 (cj.map exT'))]))) k18 (some (.box (zEx p.keys[i])))) k23 (some (.box [.t (.v (.int .i64 (varK d0 b p i)))]))) k19 x k20 = none := fun x => by rw [upd_ne _ _ c1, upd_ne _ _ c3, upd_ne _ _ c5]; exact c7
    have s20 := s20 (some (.box [.fn 60 []]))
    have u8 : (upd (upd (upd (upd (upd H k5 (some (.box [.t (.sl .un 8 (cj.map exT'))]))) k18 (some (.box (zEx p.keys[i])))) k23 (some (.box [.t (.v (.int .i64 (varK d0 b p i)))]))) k19 (some (.box [.fn 60 []]))) k20 (some (.box [.fn 61 []]))) k8 = none := by rw [upd_ne _ _ c8.symm, upd_ne _ _ b6.symm, upd_ne _ _ a4.symm, upd_ne _ _ r188.symm]; exact hk8
    have u9 : (upd (upd (upd (upd (upd H k5 (some (.box [.t (.sl .un 8 (cj.map exT'))]))) k18 (some (.box (zEx p.keys[i])))) k23 (some (.box [.t (.v (.int .i64 (varK d0 b p i)))]))) k19 (some (.box [.fn 60 []]))) k20 (some (.box [.fn 61 []]))) k9 = none := by rw [upd_ne _ _ c9.symm, upd_ne _ _ b7.symm, upd_ne _ _ a5.symm, upd_ne _ _ r189.symm]; exact hk9
    refine AW.reg (sM ?_)
    refine SeqK.q (q_mkFn rfl rfl rfl) rfl rfl rfl ?_
    refine sM ?_
    refine SeqK.callV (f := 55) (cs := [.bp k5 0, .bp k8 0]) rfl rfl rfl rfl rfl Fx.fn55 rfl (findU_any (upd (upd (upd (upd (upd H k5 (some (.box [.t (.sl .un 8 (cj.map exT'))]))) k18 (some (.box (zEx p.keys[i])))) k23 (some (.box [.t (.v (.int .i64 (varK d0 b p i)))]))) k19 (some (.box [.fn 60 []]))) k20 (some (.box [.fn 61 []]))) k5 k8 k9 cj us 64 62 [.bp k23 0, .bp k18 0, .bp k19 0, .bp k20 0] [] (gvK d0 b p i p.keys[i]) (geK p) ((fun j o h => upd_sub s20 j o (upd_sub s19 j o (upd_sub s23 j o (upd_sub r18 j o h)))) _ _ (upd_same _ _ _)) u8 u9 n89 Fx.fn64 Fx.fn62 (fun x hxm H1 h1 => by
     have e1 : ltK p i = lowB := (if_neg h75).trans (if_pos hi00)
     have e2 : rtK p i = uppB := (if_neg h75).trans (if_pos hi00)
     show E.Spec Tryz.prog 64 _ H1 fun y H'' => y = .c (bC (gvB x (varK d0 b p i) p.keys[i] (ltK p i) (rtK p i))) ∧ H'' = H1
     rw [e1, e2]
     exact givesTo_any H1 k23 k18 k19 k20 60 61 lowB uppB Fx.fn60 Fx.fn61 low_fn upp_fn (varK d0 b p i) p.keys[i] (h1 _ _ (upd_sub s20 _ _ (upd_sub s19 _ _ (upd_same _ _ _)))) (h1 _ _ (upd_sub s20 _ _ (upd_sub s19 _ _ (upd_sub s23 _ _ (upd_same _ _ _))))) (h1 _ _ (upd_sub s20 _ _ (upd_same _ _ _))) (h1 _ _ (upd_same _ _ _)) x (hcj x hxm)) (fun x hxm H1 h1 => by
     show E.Spec Tryz.prog 62 _ H1 fun y H'' => y = .c (bC (geK p x)) ∧ H'' = H1
     rw [show geK p = exaB from if_pos h89]
     exact exact_fn x H1) (by omega)) (fun _ _ h => by rw [h.1]; rfl) (fun x99 H99 q99 => ?_)
    obtain ⟨rfl, k99, hk99, n86, hHs⟩ := q99
    subst hHs
    have f99 := (lt4 hk99)
    have w99 : ∀ x, upd (upd (upd (upd (upd (upd H k5 (some (.box [.t (.sl .un 8 (cj.map exT'))]))) k18 (some (.box (zEx p.keys[i])))) k23 (some (.box [.t (.v (.int .i64 (varK d0 b p i)))]))) k19 (some (.box [.fn 60 []]))) k20 (some (.box [.fn 61 []]))) k8 x k99 = none := fun x => by rw [upd_ne _ _ n86.symm]; exact hk99
    refine Z33 ?_
    refine Z3 ?_
    refine AW.cond _ rfl (fun h100 => ?_) (fun h100 => ?_)
    ·
     refine AW.seq ?_
     have hnone : usM d0 b cj p = none := by rw [← hI, addK_no hi h69 (by simpa using h100)]
     refine AW.reg (sA ?_)
     refine sB ?_
     refine AW.xw 6 rfl (XW.nilU (sz := 2)) ?_
     refine AW.ret ?_
     exact fin_x (x := .tup [_, _]) (H) (.tmp rfl (.tmp rfl .nil)) rfl ((fun j o h => upd_sub (w99 _) j o (upd_sub u8 j o ((fun j o h => upd_sub s20 j o (upd_sub s19 j o (upd_sub s23 j o (upd_sub r18 j o h)))) j o (upd_sub hk5 j o h))))) (⟨usX_no hnone, rfl⟩)
    refine AW.skip (AW.reg (Z2 ?_))
    refine sM ?_
    refine Z3 ?_
    exact ⟨i + 1, _, by exact Wk.keep 103 _ _ _ rfl ⟨rfl, rfl, rfl, rfl, rfl, rfl, rfl, rfl, rfl, rfl, rfl, trivial⟩ ⟨rfl, trivial⟩ (updM (updM (fun j o h => upd_sub s20 j o (upd_sub s19 j o (upd_sub s23 j o (upd_sub r18 j o h)))))) rfl, by omega, k99, us ++ hitF (gvK d0 b p i p.keys[i]) (geK p) cj 0, ⟨hi, ⟨f99, n86⟩, by rw [List.length_append]; have h9 := hitF_len (gv := gvK d0 b p i p.keys[i]) (ge := geK p) cj 0; omega, by rw [← hI, addK_go hi h69 (by simpa using h100)]⟩, rfl⟩
   exact absurd (nf.k.resolve_left h75) h89
  have hi00 : ¬ i = 0 := by omega
  refine AW.reg (Z15 (r := [_]) Fx.ty122 ?_)
  refine Z15 (r := [_]) Fx.ty122 ?_
  refine Z3 (AW.seq (sR (Z1 Fx.fl35_0 ?_)))
  refine Z0 Fx.ty3 ?_
  refine Z8 ?_
  refine Z3 ?_
  refine AW.condD rfl ?_ ?_ <;> intro h89
  ·
   refine AW.reg (sB ?_)
   refine AW.xw 21 rfl XW.fn0 ?_
   refine sR (sM ?_)
   refine Z1 Fx.fl35_1 ?_
   refine Z0 Fx.ty3 ?_
   refine SeqK.r (g_call rfl Fx.fn63 rfl (first_any _ kx d0 b (upd_sub hk18 _ _ ((fun j o h => upd_sub hk9b j o (upd_sub hk8 j o (upd_sub hk5 j o h))) _ _ hx)) hb p.src ⟨nf.src.1, by have := nf.src.2; omega⟩) rfl rfl rfl) rfl ?_
   refine sM ?_
   refine SeqK.q (q_add _ rfl rfl rfl ((by rw [w64 (by omega) (by omega)]; show _ = (offM d0 (b.tabs.take p.src.toNat) : Int) + colK p i; omega : IntKind.i64.wrap _ = varK d0 b p i))) rfl rfl rfl ?_
   refine SeqK.newAlloc (r := [_]) rfl rfl rfl Fx.ze3 rfl rfl rfl (fun k23 hk23 => ?_)
   refine Z50 Fx.ty3 ?_
   refine Z3 (AW.seq ?_)
   rw [upd_upd (k := k23)]
   refine AW.xwL 19 rfl (.cons XW.fn0 .nil) ?_
   refine AW.xwL 20 rfl (.cons XW.fn0 .nil) ?_
   refine AW.exp 19 rfl (fun _ _ _ _ h => by cases h) (fun k19 hk19 => ?_)
   refine AW.exp 20 rfl (fun _ _ _ _ h => by cases h) (fun k20 hk20 => ?_)
   obtain ⟨a1, a2⟩ := upd_lt hk23
   obtain ⟨a3, a4, a5⟩ := lt3 a2
   obtain ⟨b1, b2⟩ := upd_lt hk19
   obtain ⟨b3, b4⟩ := upd_lt b2
   obtain ⟨b5, b6, b7⟩ := lt3 b4
   obtain ⟨c1, c2⟩ := upd_lt hk20
   obtain ⟨c3, c4⟩ := upd_lt c2
   obtain ⟨c5, c6⟩ := upd_lt c4
   obtain ⟨c7, c8, c9⟩ := lt3 c6
   rw [← rot (a := k18) r188 r189, ← rot (a := k23) a4 a5, ← rot (a := k19) b6 b7, ← rot (a := k20) c8 c9]
   have s23 : upd (upd H k5 (some (.box [.t (.sl .un 8 (cj.map exT'))]))) k18 (some (.box (zEx p.keys[i]))) k23 = none := by rw [upd_ne _ _ a1]; exact a3
   have s19 : upd (upd (upd H k5 (some (.box [.t (.sl .un 8 (cj.map exT'))]))) k18 (some (.box (zEx p.keys[i])))) k23 (some (.box [.t (.v (.int .i64 (varK d0 b p i)))])) k19 = none := by rw [upd_ne _ _ b1, upd_ne _ _ b3]; exact b5
   have s20 : ∀ x, upd (upd (upd (upd H k5 (some (.box [.t (.sl .un 8 (cj.map exT'))]))) k18 (some (.box (zEx p.keys[i])))) k23 (some (.box [.t (.v (.int .i64 (varK d0 b p i)))]))) k19 x k20 = none := fun x => by rw [upd_ne _ _ c1, upd_ne _ _ c3, upd_ne _ _ c5]; exact c7
   have s20 := s20 (some (.box [.fn 61 []]))
   have u8 : (upd (upd (upd (upd (upd H k5 (some (.box [.t (.sl .un 8 (cj.map exT'))]))) k18 (some (.box (zEx p.keys[i])))) k23 (some (.box [.t (.v (.int .i64 (varK d0 b p i)))]))) k19 (some (.box [.fn 61 []]))) k20 (some (.box [.fn 60 []]))) k8 = none := by rw [upd_ne _ _ c8.symm, upd_ne _ _ b6.symm, upd_ne _ _ a4.symm, upd_ne _ _ r188.symm]; exact hk8
   have u9 : (upd (upd (upd (upd (upd H k5 (some (.box [.t (.sl .un 8 (cj.map exT'))]))) k18 (some (.box (zEx p.keys[i])))) k23 (some (.box [.t (.v (.int .i64 (varK d0 b p i)))]))) k19 (some (.box [.fn 61 []]))) k20 (some (.box [.fn 60 []]))) k9 = none := by rw [upd_ne _ _ c9.symm, upd_ne _ _ b7.symm, upd_ne _ _ a5.symm, upd_ne _ _ r189.symm]; exact hk9
   refine AW.reg (sM ?_)
   refine SeqK.q (q_mkFn rfl rfl rfl) rfl rfl rfl ?_
   refine sM ?_
   refine SeqK.callV (f := 55) (cs := [.bp k5 0, .bp k8 0]) rfl rfl rfl rfl rfl Fx.fn55 rfl (findU_any (upd (upd (upd (upd (upd H k5 (some (.box [.t (.sl .un 8 (cj.map exT'))]))) k18 (some (.box (zEx p.keys[i])))) k23 (some (.box [.t (.v (.int .i64 (varK d0 b p i)))]))) k19 (some (.box [.fn 61 []]))) k20 (some (.box [.fn 60 []]))) k5 k8 k9 cj us 64 62 [.bp k23 0, .bp k18 0, .bp k19 0, .bp k20 0] [] (gvK d0 b p i p.keys[i]) (geK p) ((fun j o h => upd_sub s20 j o (upd_sub s19 j o (upd_sub s23 j o (upd_sub r18 j o h)))) _ _ (upd_same _ _ _)) u8 u9 n89 Fx.fn64 Fx.fn62 (fun x hxm H1 h1 => by
    have e1 : ltK p i = uppB := (if_neg h75).trans (if_neg hi00)
    have e2 : rtK p i = lowB := (if_neg h75).trans (if_neg hi00)
    show E.Spec Tryz.prog 64 _ H1 fun y H'' => y = .c (bC (gvB x (varK d0 b p i) p.keys[i] (ltK p i) (rtK p i))) ∧ H'' = H1
    rw [e1, e2]
    exact givesTo_any H1 k23 k18 k19 k20 61 60 uppB lowB Fx.fn61 Fx.fn60 upp_fn low_fn (varK d0 b p i) p.keys[i] (h1 _ _ (upd_sub s20 _ _ (upd_sub s19 _ _ (upd_same _ _ _)))) (h1 _ _ (upd_sub s20 _ _ (upd_sub s19 _ _ (upd_sub s23 _ _ (upd_same _ _ _))))) (h1 _ _ (upd_sub s20 _ _ (upd_same _ _ _))) (h1 _ _ (upd_same _ _ _)) x (hcj x hxm)) (fun x hxm H1 h1 => by
    show E.Spec Tryz.prog 62 _ H1 fun y H'' => y = .c (bC (geK p x)) ∧ H'' = H1
    rw [show geK p = exaB from if_pos h89]
    exact exact_fn x H1) (by omega)) (fun _ _ h => by rw [h.1]; rfl) (fun x99 H99 q99 => ?_)
   obtain ⟨rfl, k99, hk99, n86, hHs⟩ := q99
   subst hHs
   have f99 := (lt4 hk99)
   have w99 : ∀ x, upd (upd (upd (upd (upd (upd H k5 (some (.box [.t (.sl .un 8 (cj.map exT'))]))) k18 (some (.box (zEx p.keys[i])))) k23 (some (.box [.t (.v (.int .i64 (varK d0 b p i)))]))) k19 (some (.box [.fn 61 []]))) k20 (some (.box [.fn 60 []]))) k8 x k99 = none := fun x => by rw [upd_ne _ _ n86.symm]; exact hk99
   refine Z33 ?_
   refine Z3 ?_
   refine AW.cond _ rfl (fun h100 => ?_) (fun h100 => ?_)
   ·
    refine AW.seq ?_
    have hnone : usM d0 b cj p = none := by rw [← hI, addK_no hi h69 (by simpa using h100)]
    refine AW.reg (sA ?_)
    refine sB ?_
    refine AW.xw 6 rfl (XW.nilU (sz := 2)) ?_
    refine AW.ret ?_
    exact fin_x (x := .tup [_, _]) (H) (.tmp rfl (.tmp rfl .nil)) rfl ((fun j o h => upd_sub (w99 _) j o (upd_sub u8 j o ((fun j o h => upd_sub s20 j o (upd_sub s19 j o (upd_sub s23 j o (upd_sub r18 j o h)))) j o (upd_sub hk5 j o h))))) (⟨usX_no hnone, rfl⟩)
   refine AW.skip (AW.reg (Z2 ?_))
   refine sM ?_
   refine Z3 ?_
   exact ⟨i + 1, _, by exact Wk.keep 103 _ _ _ rfl ⟨rfl, rfl, rfl, rfl, rfl, rfl, rfl, rfl, rfl, rfl, rfl, trivial⟩ ⟨rfl, trivial⟩ (updM (updM (fun j o h => upd_sub s20 j o (upd_sub s19 j o (upd_sub s23 j o (upd_sub r18 j o h)))))) rfl, by omega, k99, us ++ hitF (gvK d0 b p i p.keys[i]) (geK p) cj 0, ⟨hi, ⟨f99, n86⟩, by rw [List.length_append]; have h9 := hitF_len (gv := gvK d0 b p i p.keys[i]) (ge := geK p) cj 0; omega, by rw [← hI, addK_go hi h69 (by simpa using h100)]⟩, rfl⟩
  exact absurd (nf.k.resolve_left h75) h89
 refine AW.exit ?_
 refine eth_e ?_
 refine eth_e ?_
 refine exit_here ?_
 refine AW.seq ?_
 obtain rfl : i = p.keys.length := by rw [List.length_map] at h63; omega
 have hfin : usM d0 b cj p = some us := by rw [← hI, List.drop_length, addK]
 refine AW.reg (Z17 Fx.ty98 ?_)
 refine sA ?_
 refine sB ?_
 refine AW.xw 6 rfl (XW.ts.trans XW.un) ?_
 refine AW.ret ?_
 exact fin_x (x := .tup [_, _]) (H) (.tmp rfl (.tmp rfl .nil)) rfl ((fun j o h => upd_sub hk9b j o (upd_sub hk8 j o (upd_sub hk5 j o h)))) (⟨usX_yes hfin, rfl⟩)

end Go.Proofs.YtihlgigaejhilaaGreatDoor.W
namespace Go.Proofs.YtihlgigaejhilaaGreatDoor.W
open Go.RowKit E
/-! valid plans -/
theorem uses_any (kx : Nat) (d0 : List Tb) (b : Bd) (hb : okB d0 b) (cj : List Ex) (hcj : ∀ e ∈ cj, okE e) (p : Pl) : okU d0 b cj p → US d0 b kx cj p := by
  induction p using Pl.rec' with
  | h p ih => exact fun hu H hx => uses_of H kx d0 b hx hb cj hcj p hu fun a ha => ih a ha (hu.arg ha)
theorem few_src : ∀ (d : Nat) (p : Pl), fewB d p = true → (srM p).length ≤ 3 ^ d
  | 0, p, h => by rw [fewB] at h; cases h
  | d + 1, p, h => by
    by_cases hl : lfK p
    · rw [srM_leaf hl, List.length_singleton]; exact Nat.one_le_pow _ _ (by omega)
    · rw [srM_in hl]
      rw [fewB, Bool.and_eq_true, Bool.and_eq_true, List.all_eq_true, List.all_eq_true] at h
      have h3 := (of_decide_eq_true h.1).2.2.1
      have key : ∀ l : List Pl, (∀ a ∈ l, fewB d a = true) → (l.flatMap srM).length ≤ l.length * 3 ^ d := by
        intro l
        induction l with
        | nil => simp
        | cons a r ih =>
          intro hr
          have h1 := few_src d a (hr a (by simp))
          have h2 := ih fun x hx => hr x (by simp [hx])
          rw [List.flatMap_cons, List.length_append, List.length_cons, Nat.add_mul, Nat.one_mul]; omega
      have h4 := key p.args h.2.2
      have h5 : p.args.length * 3 ^ d ≤ 3 * 3 ^ d := Nat.mul_le_mul_right _ h3
      rw [Nat.pow_succ]; omega
theorem few_us (n : Nat) : ∀ (d : Nat) (p : Pl), fewB d p = true → usN n p ≤ 410 * n * 4 ^ d
  | 0, p, h => by rw [fewB] at h; cases h
  | d + 1, p, h => by
    have hf := few_flt h
    rw [fewB, Bool.and_eq_true, Bool.and_eq_true, List.all_eq_true, List.all_eq_true] at h
    have h2 := (of_decide_eq_true h.1).2.1
    have h3 := (of_decide_eq_true h.1).2.2.1
    have key : ∀ l : List Pl, (∀ a ∈ l, fewB d a = true) → usNs n l ≤ l.length * (410 * n * 4 ^ d) := by
      intro l
      induction l with
      | nil => intro _; rw [usNs]; omega
      | cons a r ih =>
        intro hr
        have h1 := few_us n d a (hr a (by simp))
        have h2 := ih fun x hx => hr x (by simp [hx])
        rw [usNs, List.length_cons, Nat.add_mul, Nat.one_mul]; omega
    have h4 := key p.args h.2.2
    have h5 : p.args.length * (410 * n * 4 ^ d) ≤ 3 * (410 * n * 4 ^ d) := Nat.mul_le_mul_right _ h3
    have h6 : ((cnj p.flt).length + p.keys.length) * n ≤ 410 * n := Nat.mul_le_mul_right _ (by omega)
    have h7 : 410 * n ≤ 410 * n * 4 ^ d := Nat.le_mul_of_pos_right _ (Nat.pow_pos (by omega))
    rw [usN_eq, Nat.pow_succ, ← Nat.mul_assoc]; omega
/-- plans as large as the laws allow -/
abbrev okF (p : Pl) : Prop := ∃ d, d ≤ 7 ∧ fewB d p = true
theorem okF.src {p : Pl} (h : okF p) : (srM p).length ≤ 1000000 := by
  obtain ⟨d, h1, h2⟩ := h
  have := few_src d p h2
  have h3 : 3 ^ d ≤ 3 ^ 7 := Nat.pow_le_pow_right (by omega) h1
  omega
theorem okF.us {p : Pl} {n : Nat} (h : okF p) (hn : n ≤ 1000) : usN n p ≤ 1000000000000 := by
  obtain ⟨d, h1, h2⟩ := h
  have := few_us n d p h2
  have h3 : 4 ^ d ≤ 4 ^ 7 := Nat.pow_le_pow_right (by omega) h1
  have h4 : 410 * n * 4 ^ d ≤ 410 * n * 4 ^ 7 := Nat.mul_le_mul_left _ h3
  omega
/-- each conjunct is used -/
abbrev cvB (us : List (Int × Bool)) (i : Nat) : Bool := us.any fun u => decide (u.1 = (i : Int)) && u.2
def uvB (d0 : List Tb) (b : Bd) (p : Pl) : Bool := match usM d0 b (cnj b.wh) p with
  | none => false
  | some us => (List.range (cnj b.wh).length).all (cvB us)
theorem upC {us : List (Int × Bool)} {i : Nat} (h : ∀ j, j < i → cvB us j = true) (k : cvB us i = true) : ∀ j, j < i + 1 → cvB us j = true := fun j hj => by
  rcases Nat.lt_succ_iff_lt_or_eq.1 hj with h9 | h9
  · exact h j h9
  · rw [h9]; exact k
theorem uv_none {d0 : List Tb} {b : Bd} {p : Pl} (h : (usM d0 b (cnj b.wh) p).isSome = false) : uvB d0 b p = false := by
  unfold uvB
  cases hq : usM d0 b (cnj b.wh) p with
  | none => rfl
  | some _ => rw [hq] at h; cases h
abbrev pvP (d0 : List Tb) (b : Bd) (p : Pl) : Prop := shpP d0 b p ∧ uvB d0 b p = true
theorem cnj_ok : ∀ (e : Ex), okE e → ∀ a ∈ cnj e, okE a := by
  intro e
  induction e using Ex.rec' with
  | h e ih =>
    intro ho a ha
    by_cases h0 : e.op = 0
    · rw [cnj_0 h0] at ha; cases ha
    · by_cases h1 : e.op = 18
      · rw [cnj_and h1, List.mem_flatMap] at ha
        obtain ⟨c, hc, hac⟩ := ha
        exact ih c hc ((okE_iff.1 ho).2 c hc) a hac
      · rw [cnj_one h0 h1, List.mem_singleton] at ha
        rw [ha]; exact ho

set_option maxHeartbeats 16000000 in
set_option maxRecDepth 20000 in
theorem used_any (H : Heap) (k : Nat) (i : Int) (hk : H k = some (.box [.t (.v (.int .i64 i))])) (u : Int × Bool) : E.Spec Tryz.prog 37 [usC u, .a (.bp k 0)] H fun x H' => x = .c (bC (decide (u.1 = i) && u.2)) ∧ H' = H := by
 refine Spec.enter Tryz.func37 rfl ?_
 refine AW.wk (Wk.keep 12 [(0, .c (usC u)), (1, .c (.a (.bp k 0)))] [] (H) rfl ⟨rfl, rfl, trivial⟩ trivial (fun _ _ h => h) rfl) ?_
 refine sR (Z16 (r := [_, _]) ?_)
 refine sB ?_
 refine sR (Z1 Fx.fl103_0 ?_)
 refine Z0 Fx.ty3 ?_
 refine Z17 Fx.ty3 ?_
 refine Z8 ?_
 refine Z19 (fun g8 => ?_) (fun g8 => ?_)
 ·
  refine Z6 Fx.fl103_1 ?_
  refine Z5 Fx.ty4 ?_
  refine Z4 ?_
  refine sB ?_
  refine AW.ret ?_
  exact f1 (q := ⟨bCe (by simp [*]), rfl⟩)
 iterate 2 refine SeqK.off rfl rfl rfl rfl rfl rfl ?_
 refine Z7 ?_
 refine sB ?_
 refine AW.ret ?_
 exact f1 (q := ⟨bCe (by simp [*]), rfl⟩)

set_option maxHeartbeats 16000000 in
set_option maxRecDepth 20000 in
theorem pvalid_any (H : Heap) (d0 : List Tb) (b : Bd) (hb : okB d0 b) (hw : okE b.wh) (hc : (cnj b.wh).length ≤ 1000) (p : Pl) (ho : okP p) (hf : okF p) : E.Spec Tryz.prog 16 [scC .un d0, bdC b, plC p] H fun x H' => x = .c (bC (decide (pvP d0 b p))) ∧ H' = H := by
 refine Spec.enter Tryz.func16 rfl ?_
 refine AW.wk (Wk.keep 42 [(0, .c (scC .un d0)), (1, .c (bdC b)), (2, .c (plC p))] [] (H) rfl ⟨rfl, rfl, rfl, trivial⟩ trivial (fun _ _ h => h) rfl) ?_
 refine sR (Z16 (r := [_, _, _, _, _, _, _, _, _, _, _, _, _, _, _, _, _, _, _, _, _, _, _, _, _, _]) ?_)
 refine Z16 (r := [_, _, _, _, _, _, _, _, _, _, _, _, _]) ?_
 refine sB ?_
 refine AW.seq (sR (sM ?_))
 refine Z12 (r := .g [_, _, _, _, _, _, _, _, _, _, _, _, _, _, _, _, _, _, _, _, _, _, _, _, _, _]) Fx.ty51 ?_
 refine Z12 (r := .g [_, _, _, _, _, _, _, _, _, _, _, _, _]) Fx.ty35 ?_
 refine Z53 Fx.fn17 (shape44_any H d0 b hb p ho hf.src) ?_
 refine Z33 ?_
 refine Z3 ?_
 refine AW.cond _ rfl (fun h15 => ?_) (fun h15 => ?_)
 ·
  refine sR (sB ?_)
  refine AW.ret ?_
  exact f1 (q := ⟨bCe (dF (fun h => nd_t h15 h.1)), rfl⟩)
 refine AW.skip (AW.seq ?_)
 have hsh : shpP d0 b p := nd_f h15
 refine AW.reg (Z1 Fx.fl51_0 ?_)
 refine Z1 Fx.fl47_7 ?_
 refine Z12 (r := .g [_, _, _, _, _, _, _, _]) Fx.ty30 ?_
 refine SeqK.q (q_call _ rfl Fx.fn18 rfl (conj_any b.wh hw (by omega)) rfl) rfl rfl rfl ?_
 refine sB ?_
 refine sR (sM ?_)
 refine Z12 (r := .g [_, _, _, _, _, _, _, _, _, _, _, _, _, _, _, _, _, _, _, _, _, _, _, _, _, _]) Fx.ty51 ?_
 refine Z34 (zs := [_, _, _, _, _, _, _, _, _, _, _, _, _, _, _, _, _, _, _, _, _, _, _, _, _, _, _]) (r := [_, _, _, _, _, _, _, _, _, _, _, _, _, _, _, _, _, _, _, _, _, _, _, _, _, _, _]) [(0, 1), (1, 26)] Fx.ze78 Fx.bp78 ?_
 refine SeqK.newBox (r := [_, _, _, _, _, _, _, _, _, _, _, _, _, _, _, _, _, _, _, _, _, _, _, _, _, _, _]) rfl rfl rfl rfl rfl rfl (fun k24 hk24 => ?_)
 refine Z12 (r := .g [_, _, _, _, _, _, _, _, _, _, _, _, _]) Fx.ty35 ?_
 refine sM ?_
 refine Z53 Fx.fn35 (uses_any k24 d0 b hb (cnj b.wh) (cnj_ok _ hw) p ⟨ho, hf.elim fun d h => ⟨d, h.2⟩, ⟨[], hsh.1⟩, hf.us hc⟩ _ (upd_same _ _ _)) ?_
 refine SeqK.q (q_mvT rfl rfl) rfl rfl rfl ?_
 refine Z47 ?_
 refine Z47 ?_
 refine sA ?_
 refine sB ?_
 refine AW.seq (sR (sM ?_))
 refine Z33 ?_
 refine Z3 ?_
 refine AW.cond _ rfl (fun h31 => ?_) (fun h31 => ?_)
 ·
  refine sR (sB ?_)
  refine AW.ret ?_
  exact fin_x (x := .c _) (H) (.tmp rfl .nil) rfl ((upd_sub hk24)) (⟨bCe (dF (fun h => by have h9 := h.2; rw [uv_none (by simpa using h31)] at h9; cases h9)), rfl⟩)
 refine AW.skip (AW.seq (AW.seq ?_))
 have hso : usM d0 b (cnj b.wh) p = some ((usM d0 b (cnj b.wh) p).getD []) := by cases hq : usM d0 b (cnj b.wh) p with
  | none => rw [hq] at h31; cases h31
  | some _ => rfl
 have hle := usM_le _ _ hso
 have hun := hf.us (n := (cnj b.wh).length) hc
 have huv : uvB d0 b p = (List.range (cnj b.wh).length).all (cvB ((usM d0 b (cnj b.wh) p).getD [])) := by rw [uvB, hso]; rfl
 refine AW.reg (sM ?_)
 refine Z14 Fx.un28 ?_
 refine sM ?_
 refine Z3 (AW.block ?_)
 refine AW.loop (fun (i : Nat) s => (i ≤ (cnj b.wh).length ∧ ∀ j, j < i → cvB ((usM d0 b (cnj b.wh) p).getD []) j = true) ∧ s = ⟨42, sp [(6, .c (bC false)), (7, .c (exsC .un (cnj b.wh))), (8, .c (ussC .un ((usM d0 b (cnj b.wh) p).getD []))), (32, .c (exsC .un (cnj b.wh))), (33, iX .i64 ((((cnj b.wh).map exT').length : Nat) : Int)), (34, iX .i64 ((i : Nat) : Int))], lv [], upd H k24 (some (.box (stA d0 b)))⟩) (fun i => (cnj b.wh).length - i) 0 ⟨_, by exact Wk.keep 42 _ _ _ rfl ⟨rfl, rfl, rfl, rfl, rfl, rfl, trivial⟩ trivial (fun _ _ h => h) rfl, ⟨Nat.zero_le _, fun j h => absurd h (Nat.not_lt_zero _)⟩, rfl⟩ (fun i s hs => ?_)
 obtain ⟨⟨hi0, hU⟩, rfl⟩ := hs
 refine sR (Z10 ?_)
 refine Z3 (AW.seq ?_)
 refine AW.condD rfl ?_ ?_ <;> intro h35
 ·
  have hi : i < (cnj b.wh).length := by rw [List.length_map] at h35; omega
  refine AW.skip (AW.seq (AW.block (sR (sM ?_))))
  refine SeqK.newAlloc (r := [_]) rfl rfl rfl Fx.ze3 rfl rfl rfl (fun k10 hk10 => ?_)
  refine Z50 Fx.ty3 ?_
  refine Z3 (AW.seq ?_)
  rw [upd_upd (k := k10)]
  refine AW.reg (sM ?_)
  refine SeqK.q (q_mkFn rfl rfl rfl) rfl rfl rfl ?_
  refine SeqK.r (g_call rfl Fx.fn36 rfl (anyF_us _ 37 [.bp k10 0] (fun u => decide (u.1 = (i : Int)) && u.2) ((usM d0 b (cnj b.wh) p).getD []) .un Fx.fn37 (by omega) (fun u _ H1 h1 => used_any H1 k10 i (h1 _ _ (upd_same _ _ _)) u)) rfl rfl rfl) rfl ?_
  refine Z33 ?_
  refine Z3 ?_
  refine AW.cond _ rfl (fun h40 => ?_) (fun h40 => ?_)
  ·
   refine sR (sB ?_)
   refine AW.ret ?_
   exact fin_x (x := .c _) (H) (.tmp rfl .nil) rfl ((fun j o h => upd_sub hk10 j o (upd_sub hk24 j o h))) (⟨bCe (dF (fun h => by have h9 := h.2; rw [huv, List.all_eq_true] at h9; have h8 := h9 i (List.mem_range.2 hi); have h7 : (!cvB ((usM d0 b (cnj b.wh) p).getD []) i) = true := h40; rw [h8] at h7; cases h7)), rfl⟩)
  refine AW.skip (AW.reg (Z2 ?_))
  refine sM ?_
  refine Z3 ?_
  exact ⟨i + 1, _, by exact Wk.keep 42 _ _ _ rfl ⟨rfl, rfl, rfl, rfl, rfl, rfl, trivial⟩ trivial (upd_sub hk10) rfl, by omega, ⟨hi, upC hU (by simpa using h40)⟩, rfl⟩
 refine AW.exit ?_
 refine eth_e ?_
 refine eth_e ?_
 refine exit_here ?_
 refine sR (sB ?_)
 refine AW.ret ?_
 exact fin_x (x := .c _) (H) (.tmp rfl .nil) rfl ((upd_sub hk24)) (⟨bCe (dT ⟨hsh, by rw [huv, List.all_eq_true]; exact fun j hj => hU j (by have := List.mem_range.1 hj; rw [List.length_map] at h35; omega)⟩), rfl⟩)

end Go.Proofs.YtihlgigaejhilaaGreatDoor.W
