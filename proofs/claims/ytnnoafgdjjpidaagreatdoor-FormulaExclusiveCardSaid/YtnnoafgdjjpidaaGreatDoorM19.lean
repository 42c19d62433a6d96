import Derived.Test.YtnnoafgdjjpidaaGreatDoorM18
set_option maxRecDepth 20000
set_option maxHeartbeats 8000000
set_option linter.unusedSectionVars false
set_option linter.unusedSimpArgs false
set_option linter.unusedVariables false
namespace Go.Proofs.YtnnoafgdjjpidaaGreatDoor.D
open Go.RowKit E W M
def likeL : List UInt8 → List UInt8 → Bool
  | [], [] => true
  | _ :: _, [] => false
  | s, c :: p => if c = 37 then (List.range (s.length + 1)).any (fun i => likeL (s.drop i) p)
    else match s with
      | [] => false
      | x :: s' => (decide (c = 95) || decide (c = x)) && likeL s' p
termination_by _ p => p.length
abbrev domP (x : Vr) : Prop := (x.ty = 1 ∧ -2147483648 ≤ x.lo ∧ x.hi ≤ 2147483647) ∨ (x.ty = 2 ∧ x.mx ≤ 16)
abbrev domB (l : List Vr) : Bool := decide (∀ j (h : j < l.length), domP l[j]) && decide (l.length ≤ 10)
theorem andT {a b : Bool} (h : a = true) : b = (a && b) := by rw [h]; rfl
theorem andF {a b : Bool} (h : a = false) : false = (a && b) := by rw [h]; rfl
abbrev prnP (s : ByteArray) : Prop := ∀ j (h : j < s.data.toList.length), 32 ≤ s.data.toList[j].toNat ∧ s.data.toList[j].toNat ≤ 126
theorem dom_any (l : List Vr) (z : Nz) (hL : l.length ≤ 17592186044000) : Pure Tryz.prog 17 [vsC z l] (.c (bC (domB l))) := by
 intro H
 refine Spec.enter Tryz.func17 rfl ?_
 refine AW.wk (Wk.keep 51 [(0, .c (vsC z l))] [] (H) rfl ⟨rfl, trivial⟩ trivial (fun _ _ h => h) rfl) ?_
 refine sR (sB ?_)
 refine AW.seq (sR (sB ?_))
 refine AW.block ?_
 refine AW.loop (fun (i : Nat) s => (i ≤ l.length ∧ ∀ j (h : j < l.length), j < i → domP l[j]) ∧ s = ⟨51, sp [(0, .c (vsC z l)), (2, .c (bC false)), (3, iX .i64 ((i : Nat) : Int))], lv [], H⟩) (fun i => l.length - i) 0 ⟨_, by exact Wk.keep 51 _ _ _ rfl ⟨rfl, rfl, rfl, trivial⟩ trivial (fun _ _ h => h) rfl, ⟨Nat.zero_le _, up0⟩, rfl⟩ (fun i s hs => ?_)
 obtain ⟨⟨hi0, hU⟩, rfl⟩ := hs
 refine AW.seq (sR (sM ?_))
 refine sM ?_
 refine Z22 Fx.un27 ?_
 refine Z30 ?_
 refine Z7 ?_
 refine cD ?_ ?_ <;> intro h8
 rotate_left
 ·
  refine AW.exit ?_
  refine eth_e ?_
  refine eth_e ?_
  refine exit_here ?_
  refine sR (sM ?_)
  refine Z22 Fx.un27 ?_
  refine SeqK.q (q_leq rfl rfl rfl) rfl rfl rfl ?_
  refine sB ?_
  exact aR (f1 (q := ⟨bCe (by rw [domB, ← andT (decide_eq_true (upE hU (by rw [List.length_map] at h8; omega))), List.length_map]; exact dI (by omega)), rfl⟩))
 have hi : i < l.length := by rw [List.length_map] at h8; omega
 refine AW.skip (AW.seq (AW.block (sR (sM ?_))))
 refine sM ?_
 refine Z24 Fx.sl27 (idx_map (f := vrT) hi) ?_
 refine Z28 (.g [_, _, _, _, _]) Fx.ty66 ?_
 refine Z16 (r := [_, _, _, _, _]) Fx.ze66 ?_
 refine Z2 (r := [_, _, _, _, _]) Fx.ty66 ?_
 refine Z7 (sR (Z1 Fx.fl66_0 ?_))
 refine Z0 Fx.ty3 ?_
 refine Z9 ?_
 refine Z17 ?_ ?_ <;> intro g18
 rotate_left
 ·
  iterate 4 refine oF ?_
  iterate 3 refine oU ?_
  refine Z34 ?_
  refine Z4 ?_
  refine sM ?_
  refine Z5 Fx.fl66_0 ?_
  refine Z3 Fx.ty3 ?_
  refine Z21 ?_
  refine Z46 ?_ ?_ <;> intro g32
  ·
   refine Z5 Fx.fl66_3 ?_
   refine Z3 Fx.ty3 ?_
   refine SeqK.on (q_gtr rfl rfl rfl) rfl rfl rfl rfl rfl ?_
   refine Z33 ?_
   refine Z4 ?_
   refine Z17 ?_ ?_ <;> intro g38
   ·
    iterate 4 refine oF ?_
    iterate 3 refine oU ?_
    refine Z34 ?_
    refine Z8 ?_
    refine Z7 (AW.condT rfl ?_)
    refine sR (sB ?_)
    exact aR (f1 (q := ⟨bCe (andF (decide_eq_false (upN hi (by rw [domP]; omega)))), rfl⟩))
   refine Z5 Fx.fl66_0 ?_
   refine Z3 Fx.ty3 ?_
   refine Z42 ?_
   refine Z46 ?_ ?_ <;> intro g42
   ·
    refine Z5 Fx.fl66_0 ?_
    refine Z3 Fx.ty3 ?_
    refine Z42 ?_
    refine Z33 ?_
    refine Z4 ?_
    refine Z7 ?_
    refine cD ?_ ?_ <;> intro h47
    ·
     refine sR (sB ?_)
     exact aR (f1 (q := ⟨bCe (andF (decide_eq_false (upN hi (by rw [domP]; omega)))), rfl⟩))
    refine AW.skip (AW.reg (sM ?_))
    refine Z13 ?_
    refine sB ?_
    exact ⟨i + 1, _, by exact Wk.keep 51 _ _ _ rfl ⟨rfl, rfl, rfl, trivial⟩ trivial (fun _ _ h => h) rfl, by omega, ⟨hi, upS hi hU (by rw [domP]; omega)⟩, rfl⟩
   iterate 3 refine oF ?_
   refine Z37 ?_
   refine Z4 ?_
   refine Z7 (AW.condF rfl ?_)
   refine AW.skip (AW.reg (sM ?_))
   refine Z13 ?_
   refine sB ?_
   exact ⟨i + 1, _, by exact Wk.keep 51 _ _ _ rfl ⟨rfl, rfl, rfl, trivial⟩ trivial (fun _ _ h => h) rfl, by omega, ⟨hi, upS hi hU (by rw [domP]; omega)⟩, rfl⟩
  iterate 3 refine oF ?_
  refine Z37 ?_
  refine Z4 ?_
  refine sM ?_
  refine Z5 Fx.fl66_0 ?_
  refine Z3 Fx.ty3 ?_
  refine Z42 ?_
  refine Z46 ?_ ?_ <;> intro g42
  ·
   refine Z5 Fx.fl66_0 ?_
   refine Z3 Fx.ty3 ?_
   refine Z42 ?_
   refine Z33 ?_
   refine Z4 ?_
   refine Z7 ?_
   refine cD ?_ ?_ <;> intro h47
   ·
    refine sR (sB ?_)
    exact aR (f1 (q := ⟨bCe (andF (decide_eq_false (upN hi (by rw [domP]; omega)))), rfl⟩))
   refine AW.skip (AW.reg (sM ?_))
   refine Z13 ?_
   refine sB ?_
   exact ⟨i + 1, _, by exact Wk.keep 51 _ _ _ rfl ⟨rfl, rfl, rfl, trivial⟩ trivial (fun _ _ h => h) rfl, by omega, ⟨hi, upS hi hU (by rw [domP]; omega)⟩, rfl⟩
  iterate 3 refine oF ?_
  refine Z37 ?_
  refine Z4 ?_
  refine Z7 (AW.condF rfl ?_)
  refine AW.skip (AW.reg (sM ?_))
  refine Z13 ?_
  refine sB ?_
  exact ⟨i + 1, _, by exact Wk.keep 51 _ _ _ rfl ⟨rfl, rfl, rfl, trivial⟩ trivial (fun _ _ h => h) rfl, by omega, ⟨hi, upS hi hU (by rw [domP]; omega)⟩, rfl⟩
 refine Z5 Fx.fl66_1 ?_
 refine Z3 Fx.ty2 ?_
 refine SeqK.on (q_lss rfl rfl rfl) rfl rfl rfl rfl rfl ?_
 refine Z46 ?_ ?_ <;> intro g22
 ·
  iterate 3 refine oF ?_
  refine Z33 ?_
  refine Z8 ?_
  refine sM ?_
  iterate 4 refine oF ?_
  iterate 3 refine oU ?_
  refine Z34 ?_
  refine Z8 ?_
  refine sM ?_
  iterate 4 refine oF ?_
  iterate 3 refine oU ?_
  refine Z34 ?_
  refine Z8 ?_
  refine Z7 (AW.condT rfl ?_)
  refine sR (sB ?_)
  exact aR (f1 (q := ⟨bCe (andF (decide_eq_false (upN hi (by rw [domP]; omega)))), rfl⟩))
 refine Z5 Fx.fl66_2 ?_
 refine Z3 Fx.ty2 ?_
 refine SeqK.on (q_gtr rfl rfl rfl) rfl rfl rfl rfl rfl ?_
 refine Z37 ?_
 refine Z8 ?_
 refine Z17 ?_ ?_ <;> intro g28
 ·
  iterate 4 refine oF ?_
  iterate 3 refine oU ?_
  refine Z34 ?_
  refine Z8 ?_
  refine sM ?_
  iterate 4 refine oF ?_
  iterate 3 refine oU ?_
  refine Z34 ?_
  refine Z8 ?_
  refine Z7 (AW.condT rfl ?_)
  refine sR (sB ?_)
  exact aR (f1 (q := ⟨bCe (andF (decide_eq_false (upN hi (by rw [domP]; omega)))), rfl⟩))
 refine Z5 Fx.fl66_0 ?_
 refine Z3 Fx.ty3 ?_
 refine Z21 ?_
 refine Z46 ?_ ?_ <;> intro g32
 ·
  refine Z5 Fx.fl66_3 ?_
  refine Z3 Fx.ty3 ?_
  refine SeqK.on (q_gtr rfl rfl rfl) rfl rfl rfl rfl rfl ?_
  refine Z33 ?_
  refine Z4 ?_
  refine Z17 ?_ ?_ <;> intro g38
  ·
   iterate 4 refine oF ?_
   iterate 3 refine oU ?_
   refine Z34 ?_
   refine Z8 ?_
   refine Z7 (AW.condT rfl ?_)
   refine sR (sB ?_)
   exact aR (f1 (q := ⟨bCe (andF (decide_eq_false (upN hi (by rw [domP]; omega)))), rfl⟩))
  refine Z5 Fx.fl66_0 ?_
  refine Z3 Fx.ty3 ?_
  refine Z42 ?_
  refine Z46 ?_ ?_ <;> intro g42
  ·
   refine Z5 Fx.fl66_0 ?_
   refine Z3 Fx.ty3 ?_
   refine Z42 ?_
   refine Z33 ?_
   refine Z4 ?_
   refine Z7 ?_
   refine cD ?_ ?_ <;> intro h47
   ·
    refine sR (sB ?_)
    exact aR (f1 (q := ⟨bCe (andF (decide_eq_false (upN hi (by rw [domP]; omega)))), rfl⟩))
   refine AW.skip (AW.reg (sM ?_))
   refine Z13 ?_
   refine sB ?_
   exact ⟨i + 1, _, by exact Wk.keep 51 _ _ _ rfl ⟨rfl, rfl, rfl, trivial⟩ trivial (fun _ _ h => h) rfl, by omega, ⟨hi, upS hi hU (by rw [domP]; omega)⟩, rfl⟩
  iterate 3 refine oF ?_
  refine Z37 ?_
  refine Z4 ?_
  refine Z7 (AW.condF rfl ?_)
  refine AW.skip (AW.reg (sM ?_))
  refine Z13 ?_
  refine sB ?_
  exact ⟨i + 1, _, by exact Wk.keep 51 _ _ _ rfl ⟨rfl, rfl, rfl, trivial⟩ trivial (fun _ _ h => h) rfl, by omega, ⟨hi, upS hi hU (by rw [domP]; omega)⟩, rfl⟩
 iterate 3 refine oF ?_
 refine Z37 ?_
 refine Z4 ?_
 refine sM ?_
 refine Z5 Fx.fl66_0 ?_
 refine Z3 Fx.ty3 ?_
 refine Z42 ?_
 refine Z46 ?_ ?_ <;> intro g42
 ·
  refine Z5 Fx.fl66_0 ?_
  refine Z3 Fx.ty3 ?_
  refine Z42 ?_
  refine Z33 ?_
  refine Z4 ?_
  refine Z7 ?_
  refine cD ?_ ?_ <;> intro h47
  ·
   refine sR (sB ?_)
   exact aR (f1 (q := ⟨bCe (andF (decide_eq_false (upN hi (by rw [domP]; omega)))), rfl⟩))
  refine AW.skip (AW.reg (sM ?_))
  refine Z13 ?_
  refine sB ?_
  exact ⟨i + 1, _, by exact Wk.keep 51 _ _ _ rfl ⟨rfl, rfl, rfl, trivial⟩ trivial (fun _ _ h => h) rfl, by omega, ⟨hi, upS hi hU (by rw [domP]; omega)⟩, rfl⟩
 iterate 3 refine oF ?_
 refine Z37 ?_
 refine Z4 ?_
 refine Z7 (AW.condF rfl ?_)
 refine AW.skip (AW.reg (sM ?_))
 refine Z13 ?_
 refine sB ?_
 exact ⟨i + 1, _, by exact Wk.keep 51 _ _ _ rfl ⟨rfl, rfl, rfl, trivial⟩ trivial (fun _ _ h => h) rfl, by omega, ⟨hi, upS hi hU (by rw [domP]; omega)⟩, rfl⟩
abbrev v0 : Vr := ⟨0, 0, 0, 0, false⟩
theorem ba_len (s : ByteArray) : s.data.toList.length = s.size := by rw [Array.length_toList]; rfl
theorem idx_ba {s : ByteArray} {i : Nat} (h : i < s.data.toList.length) : s.data.toList[((i : Nat) : Int).toNat]? = some s.data.toList[i] := by
  rw [Int.toNat_natCast]; exact List.getElem?_eq_getElem h
theorem mlen {α β : Type} (f : α → β) (l : List α) : (l.map f).length = l.length := List.length_map _
abbrev vvP (v : RV) : Prop := (v.k = 0 ∧ v.n = 0 ∧ v.s = ⟨#[]⟩) ∨ (v.k = 1 ∧ v.s = ⟨#[]⟩) ∨ (v.k = 2 ∧ v.n = 0 ∧ prnP v.s ∧ v.s.size ≤ 16)
abbrev fitP (v : RV) (x : Vr) : Prop := vvP v ∧ ((v.k = 0 ∧ x.nu = true) ∨ (v.k = 1 ∧ x.ty = 1 ∧ x.lo ≤ v.n ∧ v.n ≤ x.hi) ∨ (v.k = 2 ∧ x.ty = 2 ∧ (v.s.size : Int) ≤ x.mx))
abbrev insP (r : List RV) (l : List Vr) : Prop := r.length = l.length ∧ ∀ j (h : j < r.length), fitP r[j] (l.getD j v0)
theorem prn_any (u : ByteArray) (hs : u.size ≤ 1000000000000000) : Pure Tryz.prog 63 [sC u] (.c (bC (decide (prnP u)))) := by
 intro H
 refine Spec.enter Tryz.func63 rfl ?_
 refine AW.wk (Wk.keep 20 [(0, .c (sC u))] [] (H) rfl ⟨rfl, trivial⟩ trivial (fun _ _ h => h) rfl) ?_
 refine sR (sB ?_)
 refine AW.seq (AW.seq ?_)
 have hl := ba_len u
 refine AW.reg (sB ?_)
 refine AW.block ?_
 refine AW.loop (fun (i : Nat) s => (i ≤ u.size ∧ ∀ j (h : j < u.data.toList.length), j < i → 32 ≤ u.data.toList[j].toNat ∧ u.data.toList[j].toNat ≤ 126) ∧ s = ⟨20, sp [(0, .c (sC u)), (2, .c (bC false)), (3, iX .i64 ((i : Nat) : Int))], lv [], H⟩) (fun i => u.size - i) 0 ⟨_, by exact Wk.keep 20 _ _ _ rfl ⟨rfl, rfl, rfl, trivial⟩ trivial (fun _ _ h => h) rfl, ⟨Nat.zero_le _, up0⟩, rfl⟩ (fun i s hs => ?_)
 obtain ⟨⟨hi0, hU⟩, rfl⟩ := hs
 refine AW.seq (sR (sM ?_))
 refine sM ?_
 refine SeqK.q (q_lenS rfl Fx.un9 rfl) rfl rfl rfl ?_
 refine Z30 ?_
 refine Z7 ?_
 refine cD ?_ ?_ <;> intro h7
 rotate_left
 ·
  refine AW.exit ?_
  refine eth_e ?_
  refine eth_e ?_
  refine exit_here ?_
  refine sR (sB ?_)
  exact aR (f1 (q := ⟨bCe (dT (upE hU (by omega))), rfl⟩))
 have hi : i < u.data.toList.length := by omega
 refine AW.skip (AW.seq (AW.block (sR (sM ?_))))
 refine sM ?_
 refine SeqK.q (q_indexS _ rfl Fx.un9 rfl rfl (by omega) (idx_ba hi)) rfl rfl rfl ?_
 refine Z30 ?_
 refine Z17 ?_ ?_ <;> intro g14
 ·
  iterate 4 refine oF ?_
  refine Z8 ?_
  refine Z7 (AW.condT rfl ?_)
  refine sR (sB ?_)
  exact aR (f1 (q := ⟨bCe (dF (upN (Q := fun j h => 32 ≤ u.data.toList[j].toNat ∧ u.data.toList[j].toNat ≤ 126) hi (by omega))), rfl⟩))
 refine Z14 ?_
 refine Z14 ?_
 refine SeqK.on (q_indexS _ rfl Fx.un9 rfl rfl (by omega) (idx_ba hi)) rfl rfl rfl rfl rfl ?_
 refine SeqK.on (q_gtr rfl rfl rfl) rfl rfl rfl rfl rfl ?_
 refine Z4 ?_
 refine Z7 ?_
 refine cD ?_ ?_ <;> intro h19
 ·
  refine sR (sB ?_)
  exact aR (f1 (q := ⟨bCe (dF (upN (Q := fun j h => 32 ≤ u.data.toList[j].toNat ∧ u.data.toList[j].toNat ≤ 126) hi (by omega))), rfl⟩))
 refine AW.skip (AW.reg (sM ?_))
 refine Z13 ?_
 refine sB ?_
 exact ⟨i + 1, _, by exact Wk.keep 20 _ _ _ rfl ⟨rfl, rfl, rfl, trivial⟩ trivial (fun _ _ h => h) rfl, by omega, ⟨by omega, upS hi hU (by omega)⟩, rfl⟩
theorem vvalid_any (v : RV) (hs : v.s.size ≤ 1000000000000000) : Pure Tryz.prog 35 [rvC v] (.c (bC (decide (vvP v)))) := by
 intro H
 refine Spec.enter Tryz.func35 rfl ?_
 refine AW.wk (Wk.keep 36 [(0, .c (rvC v))] [] (H) rfl ⟨rfl, trivial⟩ trivial (fun _ _ h => h) rfl) ?_
 refine sR (Z20 (r := [_, _, _]) ?_)
 refine sB ?_
 refine AW.seq (sR (Z1 Fx.fl23_0 ?_))
 refine Z0 Fx.ty3 ?_
 refine Z7 (AW.block (sR (Z9 ?_)))
 refine sB ?_
 refine cD ?_ ?_ <;> intro h5
 ·
  refine sR (Z1 Fx.fl23_1 ?_)
  refine Z0 Fx.ty2 ?_
  refine Z9 ?_
  refine Z17 ?_ ?_ <;> intro g10
  ·
   refine Z5 Fx.fl23_2 ?_
   refine Z3 Fx.ty9 ?_
   refine SeqK.on (q_eqlS rfl rfl rfl) rfl rfl rfl rfl rfl ?_
   refine Z8 ?_
   refine sB ?_
   exact aR (f1 (q := ⟨bCe (by first | exact dF (by rintro (⟨a, b, c⟩ | ⟨a, b⟩ | ⟨a, b, c, d⟩) <;> first | omega | assumption | exact absurd c (of_decide_eq_false g30)) | exact dI ⟨fun h => .inl ⟨h5, g10, h⟩, by rintro (⟨a, b, c⟩ | ⟨a, b⟩ | ⟨a, b, c, d⟩) <;> first | omega | assumption | exact absurd c (of_decide_eq_false g30)⟩), rfl⟩))
  iterate 3 refine oF ?_
  refine Z4 ?_
  refine sB ?_
  exact aR (f1 (q := ⟨bCe (by first | exact dF (by rintro (⟨a, b, c⟩ | ⟨a, b⟩ | ⟨a, b, c, d⟩) <;> first | omega | assumption | exact absurd c (of_decide_eq_false g30)) | exact dI ⟨fun h => .inl ⟨h5, g10, h⟩, by rintro (⟨a, b, c⟩ | ⟨a, b⟩ | ⟨a, b, c, d⟩) <;> first | omega | assumption | exact absurd c (of_decide_eq_false g30)⟩), rfl⟩))
 refine sR (Z9 ?_)
 refine sB ?_
 refine cD ?_ ?_ <;> intro h15
 ·
  refine sR (Z1 Fx.fl23_2 ?_)
  refine Z0 Fx.ty9 ?_
  refine SeqK.q (q_eqlS rfl rfl rfl) rfl rfl rfl ?_
  refine sB ?_
  exact aR (f1 (q := ⟨bCe (by first | exact dI ⟨fun h => .inr (.inl ⟨h15, h⟩), by rintro (⟨a, b, c⟩ | ⟨a, b⟩ | ⟨a, b, c, d⟩) <;> first | omega | assumption | exact absurd c (of_decide_eq_false g30)⟩ | exact dI ⟨fun h => .inr (.inl ⟨by assumption, h⟩), by rintro (⟨a, b, c⟩ | ⟨a, b⟩ | ⟨a, b, c, d⟩) <;> first | omega | assumption | exact absurd c (of_decide_eq_false g30)⟩), rfl⟩))
 refine sR (Z9 ?_)
 refine sB ?_
 refine cD ?_ ?_ <;> intro h20
 rotate_left
 ·
  refine AW.skip (sR (sB ?_))
  exact aR (f1 (q := ⟨bCe (by first | exact dF (by rintro (⟨a, b, c⟩ | ⟨a, b⟩ | ⟨a, b, c, d⟩) <;> first | omega | assumption | exact absurd c (of_decide_eq_false g30))), rfl⟩))
 refine sR (Z1 Fx.fl23_1 ?_)
 refine Z0 Fx.ty2 ?_
 refine Z9 ?_
 refine Z17 ?_ ?_ <;> intro g25
 ·
  refine Z5 Fx.fl23_2 ?_
  refine Z3 Fx.ty9 ?_
  refine Z35 Fx.fn63 (prn_any _ hs) ?_
  refine Z8 ?_
  refine Z36 ?_ ?_ <;> intro g30
  ·
   refine Z5 Fx.fl23_2 ?_
   refine Z3 Fx.ty9 ?_
   refine SeqK.on (q_lenS rfl Fx.un9 rfl) rfl rfl rfl rfl rfl ?_
   refine SeqK.on (q_leq rfl rfl rfl) rfl rfl rfl rfl rfl ?_
   refine Z8 ?_
   refine sB ?_
   exact aR (f1 (q := ⟨bCe (by first | exact dF (by rintro (⟨a, b, c⟩ | ⟨a, b⟩ | ⟨a, b, c, d⟩) <;> first | omega | assumption | exact absurd c (of_decide_eq_false g30)) | exact dI ⟨fun h => .inr (.inr ⟨by assumption, by assumption, of_decide_eq_true g30, by omega⟩), by rintro (⟨a, b, c⟩ | ⟨a, b⟩ | ⟨a, b, c, d⟩) <;> first | omega | assumption | exact absurd c (of_decide_eq_false g30)⟩), rfl⟩))
  iterate 4 refine oF ?_
  refine Z4 ?_
  refine sB ?_
  exact aR (f1 (q := ⟨bCe (by first | exact dF (by rintro (⟨a, b, c⟩ | ⟨a, b⟩ | ⟨a, b, c, d⟩) <;> first | omega | assumption | exact absurd c (of_decide_eq_false g30)) | exact dI ⟨fun h => .inr (.inr ⟨by assumption, by assumption, of_decide_eq_true g30, by omega⟩), by rintro (⟨a, b, c⟩ | ⟨a, b⟩ | ⟨a, b, c, d⟩) <;> first | omega | assumption | exact absurd c (of_decide_eq_false g30)⟩), rfl⟩))
 iterate 3 refine oF ?_
 refine Z4 ?_
 refine sM ?_
 iterate 4 refine oF ?_
 refine Z4 ?_
 refine sB ?_
 exact aR (f1 (q := ⟨bCe (by first | exact dF (by rintro (⟨a, b, c⟩ | ⟨a, b⟩ | ⟨a, b, c, d⟩) <;> first | omega | assumption | exact absurd c (of_decide_eq_false g30)) | exact dI ⟨fun h => .inr (.inr ⟨by assumption, by assumption, of_decide_eq_true g30, by omega⟩), by rintro (⟨a, b, c⟩ | ⟨a, b⟩ | ⟨a, b, c, d⟩) <;> first | omega | assumption | exact absurd c (of_decide_eq_false g30)⟩), rfl⟩))
theorem fits_any4 (v : RV) (x : Vr) (hs : v.s.size ≤ 1000000000000000) : Pure Tryz.prog 24 [rvC v, vrC5 x] (.c (bC (decide (fitP v x)))) := by
 intro H
 refine Spec.enter Tryz.func24 rfl ?_
 refine AW.wk (Wk.keep 44 [(0, .c (rvC v)), (1, .c (vrC5 x))] [] (H) rfl ⟨rfl, rfl, trivial⟩ trivial (fun _ _ h => h) rfl) ?_
 refine sR (Z20 (r := [_, _, _]) ?_)
 refine Z20 (r := [_, _, _, _, _]) ?_
 refine sB ?_
 refine AW.seq (sR (Z10 (r := .g [_, _, _]) Fx.ty23 ?_))
 refine Z12 Fx.fn35 (vvalid_any _ hs) ?_
 refine Z49 ?_
 refine Z7 ?_
 refine AW.cond _ rfl (fun h7 => ?_) (fun h7 => ?_)
 ·
  refine sR (sB ?_)
  exact aR (f1 (q := ⟨bCe (dF fun h => nd_t h7 h.1), rfl⟩))
 refine AW.skip (AW.seq (AW.seq ?_))
 have hv : vvP v := nd_f h7
 refine AW.reg (Z1 Fx.fl23_0 ?_)
 refine Z0 Fx.ty3 ?_
 refine Z7 (AW.block (sR (Z9 ?_)))
 refine sB ?_
 refine cD ?_ ?_ <;> intro h10
 ·
  refine sR (Z1 Fx.fl66_4 ?_)
  refine Z0 Fx.ty4 ?_
  refine sB ?_
  exact aR (f1 (q := ⟨bCe (Bool.eq_iff_iff.2 ⟨fun h => decide_eq_true ⟨hv, .inl ⟨h10, h⟩⟩, fun h => by rcases of_decide_eq_true h with ⟨_, (⟨a, b⟩ | ⟨a, b, c, d⟩ | ⟨a, b, c⟩)⟩ <;> first | omega | exact b⟩), rfl⟩))
 refine sR (Z9 ?_)
 refine sB ?_
 refine cD ?_ ?_ <;> intro h14
 ·
  refine sR (Z1 Fx.fl66_0 ?_)
  refine Z0 Fx.ty3 ?_
  refine Z9 ?_
  refine Z17 ?_ ?_ <;> intro g19
  ·
   refine Z5 Fx.fl23_1 ?_
   refine Z3 Fx.ty2 ?_
   refine Z5 Fx.fl66_1 ?_
   refine Z3 Fx.ty2 ?_
   refine SeqK.on (q_geq rfl rfl rfl) rfl rfl rfl rfl rfl ?_
   refine Z8 ?_
   refine Z17 ?_ ?_ <;> intro g26
   ·
    refine Z5 Fx.fl23_1 ?_
    refine Z3 Fx.ty2 ?_
    refine Z5 Fx.fl66_2 ?_
    refine Z3 Fx.ty2 ?_
    refine SeqK.on (q_leq rfl rfl rfl) rfl rfl rfl rfl rfl ?_
    refine Z8 ?_
    refine sB ?_
    exact aR (f1 (q := ⟨bCe (by first | exact dF (by rintro ⟨_, (⟨a, b⟩ | ⟨a, b, c, d⟩ | ⟨a, b, c⟩)⟩ <;> omega) | exact dI ⟨fun h => ⟨hv, by omega⟩, by rintro ⟨_, (⟨a, b⟩ | ⟨a, b, c, d⟩ | ⟨a, b, c⟩)⟩ <;> omega⟩), rfl⟩))
   iterate 5 refine oF ?_
   refine Z4 ?_
   refine sB ?_
   exact aR (f1 (q := ⟨bCe (by first | exact dF (by rintro ⟨_, (⟨a, b⟩ | ⟨a, b, c, d⟩ | ⟨a, b, c⟩)⟩ <;> omega) | exact dI ⟨fun h => ⟨hv, by omega⟩, by rintro ⟨_, (⟨a, b⟩ | ⟨a, b, c, d⟩ | ⟨a, b, c⟩)⟩ <;> omega⟩), rfl⟩))
  iterate 5 refine oF ?_
  refine Z4 ?_
  refine sM ?_
  iterate 5 refine oF ?_
  refine Z4 ?_
  refine sB ?_
  exact aR (f1 (q := ⟨bCe (by first | exact dF (by rintro ⟨_, (⟨a, b⟩ | ⟨a, b, c, d⟩ | ⟨a, b, c⟩)⟩ <;> omega) | exact dI ⟨fun h => ⟨hv, by omega⟩, by rintro ⟨_, (⟨a, b⟩ | ⟨a, b, c, d⟩ | ⟨a, b, c⟩)⟩ <;> omega⟩), rfl⟩))
 refine AW.skip (sR (Z1 Fx.fl66_0 ?_))
 refine Z0 Fx.ty3 ?_
 refine Z9 ?_
 refine Z17 ?_ ?_ <;> intro g36
 ·
  refine Z5 Fx.fl23_2 ?_
  refine Z3 Fx.ty9 ?_
  refine SeqK.on (q_lenS rfl Fx.un9 rfl) rfl rfl rfl rfl rfl ?_
  refine Z5 Fx.fl66_3 ?_
  refine Z3 Fx.ty3 ?_
  refine SeqK.on (q_leq rfl rfl rfl) rfl rfl rfl rfl rfl ?_
  refine Z8 ?_
  refine sB ?_
  exact aR (f1 (q := ⟨bCe (by first | exact dF (by rintro ⟨_, (⟨a, b⟩ | ⟨a, b, c, d⟩ | ⟨a, b, c⟩)⟩ <;> omega) | (have hk : v.k = 2 := (by rcases hv with ⟨a, b, c⟩ | ⟨a, b⟩ | ⟨a, b, c, d⟩ <;> omega); exact dI ⟨fun h => ⟨hv, .inr (.inr ⟨hk, by omega, by omega⟩)⟩, by rintro ⟨_, (⟨a, b⟩ | ⟨a, b, c, d⟩ | ⟨a, b, c⟩)⟩ <;> omega⟩)), rfl⟩))
 iterate 6 refine oF ?_
 refine Z4 ?_
 refine sB ?_
 exact aR (f1 (q := ⟨bCe (by first | exact dF (by rintro ⟨_, (⟨a, b⟩ | ⟨a, b, c, d⟩ | ⟨a, b, c⟩)⟩ <;> omega) | (have hk : v.k = 2 := (by rcases hv with ⟨a, b, c⟩ | ⟨a, b⟩ | ⟨a, b, c, d⟩ <;> omega); exact dI ⟨fun h => ⟨hv, .inr (.inr ⟨hk, by omega, by omega⟩)⟩, by rintro ⟨_, (⟨a, b⟩ | ⟨a, b, c, d⟩ | ⟨a, b, c⟩)⟩ <;> omega⟩)), rfl⟩))
theorem inside_any (r : List RV) (l : List Vr) (z z2 : Nz) (hr : r.length ≤ 17592186044000) (hl : l.length ≤ 17592186044000) (hs : ∀ v ∈ r, v.s.size ≤ 1000000000000000) : Pure Tryz.prog 11 [rowC z r, vsC z2 l] (.c (bC (decide (insP r l)))) := by
 intro H
 refine Spec.enter Tryz.func11 rfl ?_
 refine AW.wk (Wk.keep 27 [(0, .c (rowC z r)), (1, .c (vsC z2 l))] [] (H) rfl ⟨rfl, rfl, trivial⟩ trivial (fun _ _ h => h) rfl) ?_
 refine sR (sB ?_)
 refine AW.seq (AW.seq ?_)
 have m1 := mlen rvT r
 have m2 := mlen vrT l
 refine AW.reg (sM ?_)
 refine Z22 Fx.un45 ?_
 refine sM ?_
 refine Z22 Fx.un27 ?_
 refine Z26 ?_
 refine Z7 ?_
 refine cD ?_ ?_ <;> intro h10
 ·
  refine sR (sB ?_)
  exact aR (f1 (q := ⟨bCe (dF (fun h => by have := h.1; omega)), rfl⟩))
 refine AW.skip (AW.seq (sR (sB ?_)))
 refine AW.block ?_
 refine AW.loop (fun (i : Nat) s => (i ≤ r.length ∧ ∀ j (h : j < r.length), j < i → fitP r[j] (l.getD j v0)) ∧ s = ⟨27, sp [(0, .c (rowC z r)), (1, .c (vsC z2 l)), (4, .c (bC false)), (5, iX .i64 ((i : Nat) : Int))], lv [], H⟩) (fun i => r.length - i) 0 ⟨_, by exact Wk.keep 27 _ _ _ rfl ⟨rfl, rfl, rfl, rfl, trivial⟩ trivial (fun _ _ h => h) rfl, ⟨Nat.zero_le _, up0⟩, rfl⟩ (fun i s hs => ?_)
 obtain ⟨⟨hi0, hU⟩, rfl⟩ := hs
 refine AW.seq (sR (sM ?_))
 refine sM ?_
 refine Z22 Fx.un45 ?_
 refine Z30 ?_
 refine Z7 ?_
 refine cD ?_ ?_ <;> intro h14
 rotate_left
 ·
  refine AW.exit ?_
  refine eth_e ?_
  refine eth_e ?_
  refine exit_here ?_
  refine sR (sB ?_)
  exact aR (f1 (q := ⟨bCe (dT ⟨by omega, upE hU (by omega)⟩), rfl⟩))
 have hi : i < r.length := by omega
 have hi2 : i < l.length := by omega
 have hg : l.getD i v0 = l[i] := by rw [List.getD_eq_getElem?_getD, List.getElem?_eq_getElem hi2]; rfl
 refine AW.skip (AW.seq (AW.block (AW.seq (AW.draw Fx.mo ?_))))
 refine Z44 ?_
 refine Z44 ?_
 refine Z29 Fx.sl45 (idx_map (f := rvT) hi) ?_
 refine Z32 (.g [_, _, _]) Fx.ty23 ?_
 refine Z44 ?_
 refine Z44 ?_
 refine Z29 Fx.sl27 (idx_map (f := vrT) hi2) ?_
 refine Z32 (.g [_, _, _, _, _]) Fx.ty66 ?_
 refine Z45 Fx.fn24 (fits_any4 _ _ (hs _ (List.getElem_mem hi))) ?_
 refine LexK.q (q_not rfl rfl) rfl rfl rfl ?_
 refine Z48 ?_
 refine AW.cond _ rfl (fun h26 => ?_) (fun h26 => ?_)
 ·
  refine sR (sB ?_)
  exact aR (f1 (q := ⟨bCe (dF (fun h => nd_t h26 (by have := h.2 i hi; rwa [hg] at this))), rfl⟩))
 refine AW.skip (AW.reg (sM ?_))
 refine Z13 ?_
 refine sB ?_
 exact ⟨i + 1, _, by exact Wk.keep 27 _ _ _ rfl ⟨rfl, rfl, rfl, rfl, trivial⟩ trivial (fun _ _ h => h) rfl, by omega, ⟨hi, upS hi hU (by rw [hg]; exact nd_f h26)⟩, rfl⟩
theorem like_nn : likeL [] [] = true := by rw [likeL]
theorem like_sn {x : UInt8} {s : List UInt8} : likeL (x :: s) [] = false := by rw [likeL]
theorem like_any {s p : List UInt8} : likeL s (37 :: p) = (List.range (s.length + 1)).any (fun i => likeL (s.drop i) p) := by
  cases s <;> rw [likeL, if_pos rfl]
theorem like_n1 {c : UInt8} {p : List UInt8} (h : c ≠ 37) : likeL [] (c :: p) = false := by rw [likeL, if_neg h]
theorem like_s1 {x c : UInt8} {s p : List UInt8} (h : c ≠ 37) : likeL (x :: s) (c :: p) = ((decide (c = 95) || decide (c = x)) && likeL s p) := by rw [likeL, if_neg h]
theorem like_pn {p : List UInt8} : likeL [] (37 :: p) = likeL [] p := by
  rw [like_any]; simp
theorem like_ps {x : UInt8} {s p : List UInt8} : likeL (x :: s) (37 :: p) = (likeL (x :: s) p || likeL s (37 :: p)) := by
  rw [like_any, like_any, List.length_cons, List.range_succ_eq_map, List.any_cons, List.any_map]
  rfl
abbrev pat (p : List UInt8) (j : Nat) : UInt8 := p.getD j 0
theorem drop_pat {p : List UInt8} {j : Nat} (h : j < p.length) : p.drop j = pat p j :: p.drop (j + 1) := by
  rw [List.drop_eq_getElem_cons h, pat, List.getD_eq_getElem?_getD, List.getElem?_eq_getElem h]; rfl
def setB (f : Nat → Bool) (k : Nat) : Nat → Bool := fun j => if j = k then true else f j
def clN (p : List UInt8) (f : Nat → Bool) : Nat → Nat → Bool
  | 0 => f
  | j + 1 => if (decide (pat p j = 37) && clN p f j j) = true then setB (clN p f j) (j + 1) else clN p f j
theorem clN_hi {p : List UInt8} {f : Nat → Bool} : ∀ {j k : Nat}, j < k → clN p f j k = f k
  | 0, k, _ => rfl
  | j + 1, k, h => by
    rw [clN]
    split
    · rw [setB, if_neg (by omega), clN_hi (by omega)]
    · exact clN_hi (by omega)
theorem clN_lo {p : List UInt8} {f : Nat → Bool} {j k : Nat} (h : k ≤ j) : ∀ d, clN p f (j + d) k = clN p f j k
  | 0 => rfl
  | d + 1 => by
    rw [← Nat.add_assoc, clN]
    split
    · rw [setB, if_neg (by omega), clN_lo h d]
    · exact clN_lo h d
theorem clN_at {p : List UInt8} {f : Nat → Bool} {m k : Nat} (h : k ≤ m) : clN p f m k = clN p f k k := by
  have := clN_lo (p := p) (f := f) (Nat.le_refl k) (m - k)
  rwa [Nat.add_sub_cancel' h] at this
theorem clN_rec {p : List UInt8} {f : Nat → Bool} {m j : Nat} (h : j < m) : clN p f m (j + 1) = (f (j + 1) || (decide (pat p j = 37) && clN p f m j)) := by
  rw [clN_at (show j + 1 ≤ m by omega), clN_at (show j ≤ m by omega), clN]
  split
  · rename_i hh; rw [setB, if_pos rfl, hh]; simp
  · rename_i hh; rw [clN_hi (Nat.lt_succ_self j)]; simp at hh ⊢; intro a b; rw [hh a] at b; cases b
def stN (p : List UInt8) (c : UInt8) (f : Nat → Bool) : Nat → Nat → Bool
  | 0 => fun _ => false
  | j + 1 => if f j = true then (if pat p j = 37 then setB (stN p c f j) j else if (decide (pat p j = 95) || decide (pat p j = c)) = true then setB (stN p c f j) (j + 1) else stN p c f j) else stN p c f j
abbrev stP (p : List UInt8) (c : UInt8) (f : Nat → Bool) (m k : Nat) : Prop := ∃ j, j < m ∧ f j = true ∧ ((pat p j = 37 ∧ k = j) ∨ (pat p j ≠ 37 ∧ (decide (pat p j = 95) || decide (pat p j = c)) = true ∧ k = j + 1))
theorem setB_iff {f : Nat → Bool} {k j : Nat} : setB f k j = true ↔ j = k ∨ f j = true := by
  rw [setB]; split
  · rename_i h; simp [h]
  · rename_i h; simp [h]
theorem stN_iff {p : List UInt8} {c : UInt8} {f : Nat → Bool} : ∀ {m k : Nat}, stN p c f m k = true ↔ stP p c f m k
  | 0, k => by rw [stN]; exact ⟨(fun h => by cases h), fun ⟨j, h, _⟩ => absurd h (Nat.not_lt_zero j)⟩
  | m + 1, k => by
    have ih := @stN_iff p c f m k
    have key : stP p c f (m + 1) k ↔ stP p c f m k ∨ (f m = true ∧ ((pat p m = 37 ∧ k = m) ∨ (pat p m ≠ 37 ∧ (decide (pat p m = 95) || decide (pat p m = c)) = true ∧ k = m + 1))) := by
      constructor
      · rintro ⟨j, h1, h2⟩
        by_cases e : j = m
        · subst e; exact .inr h2
        · exact .inl ⟨j, by omega, h2⟩
      · rintro (⟨j, h1, h2⟩ | h)
        · exact ⟨j, by omega, h2⟩
        · exact ⟨m, by omega, h⟩
    rw [key, stN, ← ih]
    split
    · rename_i h1
      split
      · rename_i h2; rw [setB_iff]; constructor
        · rintro (h | h)
          · exact .inr ⟨h1, .inl ⟨h2, h⟩⟩
          · exact .inl h
        · rintro (h | ⟨_, ⟨_, h⟩ | ⟨h, _⟩⟩)
          · exact .inr h
          · exact .inl h
          · exact absurd h2 h
      · rename_i h2
        split
        · rename_i h3; rw [setB_iff]; constructor
          · rintro (h | h)
            · exact .inr ⟨h1, .inr ⟨h2, h3, h⟩⟩
            · exact .inl h
          · rintro (h | ⟨_, ⟨h, _⟩ | ⟨_, _, h⟩⟩)
            · exact .inr h
            · exact absurd h h2
            · exact .inl h
        · rename_i h3; constructor
          · exact .inl
          · rintro (h | ⟨_, ⟨h, _⟩ | ⟨_, h, _⟩⟩)
            · exact h
            · exact absurd h h2
            · exact absurd h h3
    · rename_i h1; constructor
      · exact .inl
      · rintro (h | ⟨h, _⟩)
        · exact h
        · exact absurd h h1
abbrev okR (p : List UInt8) (f : Nat → Bool) (t : List UInt8) : Prop := ∃ j, j ≤ p.length ∧ f j = true ∧ likeL t (p.drop j) = true
theorem like_up {t p : List UInt8} (h : likeL t p = true) : likeL t (37 :: p) = true := by
  cases t with
  | nil => rw [like_pn]; exact h
  | cons x s => rw [like_ps, h]; rfl
theorem cl_mono {p : List UInt8} {f : Nat → Bool} {m j : Nat} (h : j ≤ m) (hf : f j = true) : clN p f m j = true := by
  cases j with
  | zero => rw [clN_at h]; exact hf
  | succ j => rw [clN_rec (by omega), hf]; rfl
theorem cl_ok {p : List UInt8} {f : Nat → Bool} {t : List UInt8} : okR p (clN p f p.length) t ↔ okR p f t := by
  constructor
  · rintro ⟨j, h1, h2, h3⟩
    induction j with
    | zero => exact ⟨0, by omega, by rw [clN_at (by omega)] at h2; exact h2, h3⟩
    | succ j ih =>
      rw [clN_rec (by omega)] at h2
      rcases Bool.or_eq_true_iff.1 h2 with h | h
      · exact ⟨j + 1, h1, h, h3⟩
      · obtain ⟨ha, hb⟩ := Bool.and_eq_true_iff.1 h
        refine ih (by omega) hb ?_
        rw [drop_pat (by omega), of_decide_eq_true ha]; exact like_up h3
  · rintro ⟨j, h1, h2, h3⟩
    exact ⟨j, h1, cl_mono h1 h2, h3⟩
abbrev shut (p : List UInt8) (f : Nat → Bool) : Prop := ∀ j, j < p.length → pat p j = 37 → f j = true → f (j + 1) = true
theorem cl_shut {p : List UInt8} {f : Nat → Bool} : shut p (clN p f p.length) := fun j h h1 h2 => by
  rw [clN_rec h, h2, h1]; simp
theorem ok_nil {p : List UInt8} {f : Nat → Bool} (hs : shut p f) : okR p f [] ↔ f p.length = true := by
  constructor
  · rintro ⟨j, h1, h2, h3⟩
    generalize hd : p.length - j = d
    induction d generalizing j with
    | zero => rwa [show p.length = j by omega]
    | succ d ih =>
      rw [drop_pat (by omega)] at h3
      by_cases h : pat p j = 37
      · rw [h, like_pn] at h3
        exact ih (j + 1) (by omega) (hs j (by omega) h h2) h3 (by omega)
      · rw [like_n1 h] at h3; cases h3
  · intro h
    exact ⟨p.length, Nat.le_refl _, h, by rw [List.drop_length, like_nn]⟩
theorem ok_cons {p : List UInt8} {f : Nat → Bool} {c : UInt8} {t : List UInt8} (hs : shut p f) : okR p f (c :: t) ↔ okR p (stN p c f p.length) t := by
  constructor
  · rintro ⟨j, h1, h2, h3⟩
    generalize hd : p.length - j = d
    induction d generalizing j with
    | zero => rw [show j = p.length by omega, List.drop_length, like_sn] at h3; cases h3
    | succ d ih =>
      have h3' := h3
      rw [drop_pat (by omega)] at h3
      by_cases h : pat p j = 37
      · rw [h, like_ps] at h3
        rcases Bool.or_eq_true_iff.1 h3 with h4 | h4
        · exact ih (j + 1) (by omega) (hs j (by omega) h h2) h4 (by omega)
        · exact ⟨j, h1, stN_iff.2 ⟨j, by omega, h2, .inl ⟨h, rfl⟩⟩, by rw [drop_pat (by omega), h]; exact h4⟩
      · rw [like_s1 h] at h3
        obtain ⟨h4, h5⟩ := Bool.and_eq_true_iff.1 h3
        exact ⟨j + 1, by omega, stN_iff.2 ⟨j, by omega, h2, .inr ⟨h, h4, rfl⟩⟩, h5⟩
  · rintro ⟨k, h1, h2, h3⟩
    obtain ⟨j, hj, hf, ⟨ha, rfl⟩ | ⟨ha, hb, rfl⟩⟩ := stN_iff.1 h2
    · rw [drop_pat hj, ha] at h3
      exact ⟨k, h1, hf, by rw [drop_pat hj, ha, like_ps, h3]; simp⟩
    · exact ⟨j, by omega, hf, by rw [drop_pat hj, like_s1 ha, hb, h3]; rfl⟩
theorem ok_start {p s : List UInt8} : okR p (fun j => decide (j = 0)) s ↔ likeL s p = true := by
  constructor
  · rintro ⟨j, h1, h2, h3⟩
    have := of_decide_eq_true h2; subst this
    exact h3
  · intro h; exact ⟨0, by omega, rfl, h⟩
abbrev blT (b : Bool) : List E.T := [.v (.bool b)]
theorem bll (b : Bool) : (blT b).length = 1 := rfl
abbrev tb (f : Nat → Bool) (m : Nat) : List Bool := (List.range m).map f
theorem tb_len {f : Nat → Bool} {m : Nat} : (tb f m).length = m := by simp [tb]
theorem tb_in {f : Nat → Bool} {m k : Nat} (h : k < m) : k < (tb f m).length := by rw [tb_len]; exact h
theorem tb_get {f : Nat → Bool} {m k : Nat} (h : k < (tb f m).length) : (tb f m)[k] = f k := by simp [tb]
theorem tb_set {f : Nat → Bool} {m k : Nat} : (tb f m).set k true = tb (setB f k) m := by
  apply List.ext_getElem
  · simp [tb]
  · intro i h1 h2
    rw [List.getElem_set]
    simp only [tb, List.getElem_map, List.getElem_range, setB]
    by_cases e : k = i
    · rw [if_pos e, if_pos e.symm]
    · rw [if_neg e, if_neg (fun h => e h.symm)]
theorem tb_rep {m : Nat} : List.replicate m false = tb (fun _ => false) m := by
  apply List.ext_getElem
  · simp [tb]
  · intro i h1 h2; simp [tb]
theorem idx_pat {s : ByteArray} {j : Nat} (h : j < s.size) : s.data.toList[((j : Nat) : Int).toNat]? = some (pat s.data.toList j) := by
  have h2 : j < s.data.toList.length := by rw [Array.length_toList]; exact h
  rw [Int.toNat_natCast, List.getElem?_eq_getElem h2, pat, List.getD_eq_getElem?_getD, List.getElem?_eq_getElem h2]; rfl
theorem u8_eq {a b : UInt8} : ((a.toNat : Int) = (b.toNat : Int)) ↔ a = b := ⟨fun h => UInt8.toNat_inj.1 (by exact_mod_cast h), fun h => by rw [h]⟩
theorem u8_pct {a : UInt8} : ((a.toNat : Int) = 37) ↔ a = 37 := u8_eq (b := 37)
theorem u8_und {a : UInt8} : ((a.toNat : Int) = 95) ↔ a = 95 := u8_eq (b := 95)
theorem clN_yes {p : List UInt8} {f : Nat → Bool} {j : Nat} (h : pat p j = 37) (h2 : clN p f j j = true) : clN p f (j + 1) = setB (clN p f j) (j + 1) := by rw [clN, h2, h]; rfl
theorem clN_no {p : List UInt8} {f : Nat → Bool} {j : Nat} (h : ¬ pat p j = 37 ∨ clN p f j j = false) : clN p f (j + 1) = clN p f j := by
  rw [clN, if_neg]; rcases h with h | h
  · rw [decide_eq_false h]; simp
  · rw [h]; simp
theorem tb_ld {f : Nat → Bool} {m j : Nat} (h : j < m) : mkC false (List.take 1 (List.drop (0 + ((j : Nat) : Int).toNat * 1) (rowE blT (tb f m)))) = bC (f j) := by
  rw [Int.toNat_natCast, row_load bll (tb_in h), tb_get]; rfl
theorem upd_id {H : Heap} {k : Nat} {x : Option AO} (h : H k = x) : upd H k x = H := by
  funext i; by_cases e : i = k
  · subst e; rw [upd_same, h]
  · rw [upd_ne _ _ e]
abbrev rwB (f : Nat → Bool) (m : Nat) : Option AO := some (.row 4 1 (rowE blT (tb f m)))
theorem clos_any (H : Heap) (kp kt kr : Nat) (p : ByteArray) (f : Nat → Bool) (h1 : H kp = some (.box [.t (.v (.string p))])) (h2 : H kt = some (.box [.os kr 0 (p.size + 1) 1])) (h3 : H kr = rwB f (p.size + 1)) (hs : p.size ≤ 1000000000000000) : E.Spec Tryz.prog 111 [.a (.bp kp 0), .a (.bp kt 0)] H fun x H' => x = .tup [] ∧ H' = upd H kr (rwB (clN p.data.toList f p.size) (p.size + 1)) := by
 have nkp : kp ≠ kr := fun e => by rw [e, h3] at h1; cases h1
 have nkt : kt ≠ kr := fun e => by rw [e, h3] at h2; cases h2
 refine Spec.enter Tryz.func111 rfl ?_
 refine AW.wk (Wk.keep 23 [(0, .c (.a (.bp kp 0))), (1, .c (.a (.bp kt 0)))] [] (H) rfl ⟨rfl, rfl, trivial⟩ trivial (fun _ _ h => h) rfl) ?_
 refine sR (Z38 Fx.ty9 ?_)
 refine SeqK.q (q_lenS rfl Fx.un9 rfl) rfl rfl rfl ?_
 refine sM ?_
 refine Z7 (AW.block ?_)
 refine AW.wk (Wk.keep 23 [(0, .c (.a (.bp kp 0))), (1, .c (.a (.bp kt 0))), (4, iX .i64 ((p.size : Nat) : Int)), (5, iX .i64 0)] [] (upd H kr (rwB (clN p.data.toList f 0) (p.size + 1))) rfl ⟨rfl, rfl, rfl, rfl, trivial⟩ trivial (fun i o h => by rw [clN, upd_id h3] at h; exact h) rfl) ?_
 refine AW.loop (fun (j : Nat) s => (j ≤ p.size) ∧ s = ⟨23, sp [(0, .c (.a (.bp kp 0))), (1, .c (.a (.bp kt 0))), (4, iX .i64 ((p.size : Nat) : Int)), (5, iX .i64 ((j : Nat) : Int))], lv [], upd H kr (rwB (clN p.data.toList f j) (p.size + 1))⟩) (fun j => p.size - j) 0 ⟨_, by exact Wk.keep 23 _ _ _ rfl ⟨rfl, rfl, rfl, rfl, trivial⟩ trivial (fun _ _ h => h) rfl, Nat.zero_le _, rfl⟩ (fun j s hs => ?_)
 obtain ⟨hj, rfl⟩ := hs
 refine sR (Z30 ?_)
 refine Z7 (AW.seq ?_)
 refine cD ?_ ?_ <;> intro h6
 rotate_left
 ·
  refine AW.exit ?_
  refine eth_e ?_
  refine eth_e ?_
  refine exit_here ?_
  exact fin_xN (x := .tup []) (_) .nil rfl (fun _ _ h => h) (⟨rfl, by rw [show j = p.size by omega]⟩)
 refine AW.skip (AW.seq (AW.block (sR (sM ?_))))
 refine sB ?_
 refine sR (Z38 Fx.ty9 ?_)
 refine sM ?_
 refine SeqK.q (q_indexS _ rfl Fx.un9 rfl rfl (by omega) (idx_pat (by omega))) rfl rfl rfl ?_
 refine Z9 ?_
 refine Z17 ?_ ?_ <;> intro g12
 ·
  refine SeqK.rOn (g_load (r := .a _) rfl Fx.ty155 rfl (by (repeat rw [upd_ne _ _ (by first | assumption | exact Ne.symm (by assumption))]); first | assumption | exact upd_same _ _ _) rfl rfl rfl rfl) rfl rfl rfl ?_
  refine Z14 ?_
  refine SeqK.on (q_indexOs _ rfl Fx.sl155 rfl rfl (by omega) (by omega) rfl) rfl rfl rfl rfl rfl ?_
  refine SeqK.rOn (g_loadR rfl Fx.ty4 rfl (by (repeat rw [upd_ne _ _ (by first | assumption | exact Ne.symm (by assumption))]); first | assumption | exact upd_same _ _ _) (tb_ld (f := (clN p.data.toList f j)) (by omega : j < p.size + 1)) (row_in0 bll (tb_in (f := (clN p.data.toList f j)) (by omega : j < p.size + 1))) (by decide) rfl rfl) rfl rfl rfl ?_
  refine Z8 ?_
  refine Z7 ?_
  refine AW.cond _ rfl (fun h17 => ?_) (fun h17 => ?_)
  ·
   refine AW.reg (Z38 Fx.ty155 ?_)
   refine sM ?_
   refine SeqK.q (q_add _ rfl rfl rfl ((by rw [w64 (by omega) (by omega)]; omega : IntKind.i64.wrap _ = ((j + 1 : Nat) : Int)))) rfl rfl rfl ?_
   refine Z53 Fx.sl155 ?_
   refine SeqK.r (g_storeR rfl rfl Fx.ty4 rfl rfl (by (repeat rw [upd_ne _ _ (by first | assumption | exact Ne.symm (by assumption))]); first | assumption | exact upd_same _ _ _) (row_st bll (tb_in (f := (clN p.data.toList f j)) (by omega : j + 1 < p.size + 1)) true) rfl (row_in0 bll (tb_in (f := (clN p.data.toList f j)) (by omega : j + 1 < p.size + 1))) (by decide)) rfl ?_
   refine Z7 (AW.reg (Z13 ?_))
   refine sM ?_
   refine Z7 ?_
   exact ⟨j + 1, _, Wk.keep 23 [(0, .c (.a (.bp kp 0))), (1, .c (.a (.bp kt 0))), (4, iX .i64 ((p.size : Nat) : Int)), (5, iX .i64 (((j + 1) : Nat) : Int))] [] (upd H kr (rwB (clN p.data.toList f (j + 1)) (p.size + 1))) rfl ⟨rfl, rfl, rfl, rfl, trivial⟩ trivial (fun i o h => by
    show upd (upd H kr _) kr _ i = _
    rw [upd_upd, tb_set, ← clN_yes (u8_pct.1 g12) h17]; exact h) rfl, by omega, by omega, rfl⟩
  refine AW.skip (AW.reg (Z13 ?_))
  refine sM ?_
  refine Z7 ?_
  exact ⟨j + 1, _, by exact Wk.keep 23 _ _ _ rfl ⟨rfl, rfl, rfl, rfl, trivial⟩ trivial (fun i o h => by rw [clN_no (.inr h17)] at h; exact h) rfl, by omega, by omega, rfl⟩
 iterate 4 refine oF ?_
 refine Z4 ?_
 refine Z7 (AW.condF rfl ?_)
 refine AW.skip (AW.reg (Z13 ?_))
 refine sM ?_
 refine Z7 ?_
 exact ⟨j + 1, _, by exact Wk.keep 23 _ _ _ rfl ⟨rfl, rfl, rfl, rfl, trivial⟩ trivial (fun i o h => by rw [clN_no (.inl (fun e => g12 (u8_pct.2 e)))] at h; exact h) rfl, by omega, by omega, rfl⟩
theorem st_off {p : List UInt8} {c : UInt8} {f : Nat → Bool} {j : Nat} (h : ¬ f j = true) : stN p c f (j + 1) = stN p c f j := by rw [stN, if_neg h]
theorem st_pct {p : List UInt8} {c : UInt8} {f : Nat → Bool} {j : Nat} (h : f j = true) (h2 : pat p j = 37) : stN p c f (j + 1) = setB (stN p c f j) j := by rw [stN, if_pos h, if_pos h2]
theorem st_hit {p : List UInt8} {c : UInt8} {f : Nat → Bool} {j : Nat} (h : f j = true) (h2 : ¬ pat p j = 37) (h3 : pat p j = 95 ∨ pat p j = c) : stN p c f (j + 1) = setB (stN p c f j) (j + 1) := by
  rw [stN, if_pos h, if_neg h2, if_pos]; rcases h3 with h3 | h3 <;> rw [h3] <;> simp
theorem st_mis {p : List UInt8} {c : UInt8} {f : Nat → Bool} {j : Nat} (h : f j = true) (h2 : ¬ pat p j = 37) (h3 : ¬ pat p j = 95) (h4 : ¬ pat p j = c) : stN p c f (j + 1) = stN p c f j := by
  rw [stN, if_pos h, if_neg h2, if_neg]; rw [decide_eq_false h3, decide_eq_false h4]; decide
abbrev st0 : Nat → Bool := setB (fun _ => false) 0
theorem ok_start0 {p s : List UInt8} : okR p st0 s ↔ likeL s p = true := by
  rw [← ok_start, show st0 = fun j => decide (j = 0) from funext fun j => by rw [st0, setB]; split <;> simp_all]
abbrev HX (H : Heap) (kp kt kr : Nat) (p : ByteArray) (f : Nat → Bool) : Heap := upd (upd (upd H kp (some (.box [.t (.v (.string p))]))) kt (some (.box [.os kr 0 (p.size + 1) 1]))) kr (rwB f (p.size + 1))
structure NX (H : Heap) (kp kt kr : Nat) : Prop where
  p : H kp = none
  t : H kt = none
  r : H kr = none
  pt : kp ≠ kt
  pr : kp ≠ kr
  tr : kt ≠ kr
theorem NX.hp {H : Heap} {kp kt kr : Nat} {p : ByteArray} {f : Nat → Bool} (n : NX H kp kt kr) : HX H kp kt kr p f kp = some (.box [.t (.v (.string p))]) := by
  rw [HX, upd_ne _ _ n.pr, upd_ne _ _ n.pt, upd_same]
theorem NX.ht {H : Heap} {kp kt kr : Nat} {p : ByteArray} {f : Nat → Bool} (n : NX H kp kt kr) : HX H kp kt kr p f kt = some (.box [.os kr 0 (p.size + 1) 1]) := by
  rw [HX, upd_ne _ _ n.tr, upd_same]
theorem NX.hr {H : Heap} {kp kt kr : Nat} {p : ByteArray} {f : Nat → Bool} : HX H kp kt kr p f kr = rwB f (p.size + 1) := upd_same _ _ _
theorem NX.new {H : Heap} {kp kt kr kn : Nat} {p : ByteArray} {f : Nat → Bool} (n : NX H kp kt kr) (h : HX H kp kt kr p f kn = none) : NX H kp kt kn ∧ kr ≠ kn := by
  obtain ⟨h1, h⟩ := E.upd_lt h
  obtain ⟨h2, h⟩ := E.upd_lt h
  obtain ⟨h3, h⟩ := E.upd_lt h
  exact ⟨⟨n.p, n.t, h, n.pt, fun e => h3 e.symm, fun e => h2 e.symm⟩, fun e => h1 e.symm⟩
theorem NX.swap {H : Heap} {kp kt kr kn : Nat} {p : ByteArray} {f f' : Nat → Bool} (n : NX H kp kt kr) (n' : NX H kp kt kn) (hn : kr ≠ kn) :
    ∀ i o, HX H kp kt kn p f' i = some o → upd (upd (HX H kp kt kr p f) kn (rwB f' (p.size + 1))) kt (some (.box [.os kn 0 (p.size + 1) 1])) i = some o := fun i o h => by
  by_cases e1 : i = kn
  · subst e1; rw [HX, upd_same] at h; rw [upd_ne _ _ (fun e => n'.tr e.symm), upd_same]; exact h
  · rw [HX, upd_ne _ _ e1] at h
    by_cases e2 : i = kt
    · subst e2; rw [upd_same] at h ⊢; exact h
    · rw [upd_ne _ _ e2] at h ⊢
      rw [upd_ne _ _ e1]
      have e3 : i ≠ kr := fun e => by
        subst e
        rw [upd_ne _ _ (fun e => n.pr e.symm), n.r] at h; cases h
      rw [HX, upd_ne _ _ e3, upd_ne _ _ e2]; exact h
theorem NX.sub {H : Heap} {kp kt kr : Nat} {p : ByteArray} {f : Nat → Bool} (n : NX H kp kt kr) : ∀ i o, H i = some o → HX H kp kt kr p f i = some o := fun i o h => by
  rw [HX, upd_ne _ _ (fun e => by subst e; rw [n.r] at h; cases h), upd_ne _ _ (fun e => by subst e; rw [n.t] at h; cases h), upd_ne _ _ (fun e => by subst e; rw [n.p] at h; cases h)]; exact h
theorem NX.start {H : Heap} {kp kt kr : Nat} {p : ByteArray} {f : Nat → Bool} {B0 : Option AO} (n : NX H kp kt kr) :
    ∀ i o, HX H kp kt kr p f i = some o → upd (upd (upd (upd H kp (some (.box [.t (.v (.string p))]))) kr (rwB f (p.size + 1))) kt B0) kt (some (.box [.os kr 0 (p.size + 1) 1])) i = some o := fun i o h => by
  rw [upd_upd]
  by_cases e1 : i = kr
  · subst e1; rw [HX, upd_same] at h; rw [upd_ne _ _ (fun e => n.tr e.symm), upd_same]; exact h
  · rw [HX, upd_ne _ _ e1] at h
    by_cases e2 : i = kt
    · subst e2; rw [upd_same] at h ⊢; exact h
    · rw [upd_ne _ _ e2] at h ⊢
      rw [upd_ne _ _ e1]; exact h
theorem cl_ok' {p : ByteArray} {f : Nat → Bool} {t : List UInt8} : okR p.data.toList (clN p.data.toList f p.size) t ↔ okR p.data.toList f t := by
  have := cl_ok (p := p.data.toList) (f := f) (t := t)
  rwa [ba_len] at this
theorem cl_shut' {p : ByteArray} {f : Nat → Bool} : shut p.data.toList (clN p.data.toList f p.size) := by
  have := cl_shut (p := p.data.toList) (f := f)
  rwa [ba_len] at this
theorem evlike_any (u p : ByteArray) (hs : u.size ≤ 1000000000000000) (hp0 : p.size ≤ 1000000) : Pure Tryz.prog 80 [sC u, sC p] (.c (bC (likeL u.data.toList p.data.toList))) := by
 intro H
 refine Spec.enter Tryz.func80 rfl ?_
 refine AW.wk (Wk.keep 66 [(0, .c (sC u)), (1, .c (sC p))] [] (H) rfl ⟨rfl, rfl, trivial⟩ trivial (fun _ _ h => h) rfl) ?_
 refine sR ?_
 refine SeqK.newBox (r := [_]) rfl rfl rfl rfl rfl rfl (fun k3 hk3 => ?_)
 refine sB ?_
 refine sR (Z38 Fx.ty9 ?_)
 refine SeqK.q (q_lenS rfl Fx.un9 rfl) rfl rfl rfl ?_
 refine SeqK.q (q_add _ rfl rfl rfl ((by rw [w64 (by omega) (by omega)]; omega : IntKind.i64.wrap _ = ((p.size + 1 : Nat) : Int)))) rfl rfl rfl ?_
 refine SeqK.make (zc := (blT false).map .t) (m := p.size + 1) rfl rfl Fx.el155 Fx.ze4 rfl rfl rfl rfl (by omega) rfl rfl (fun kr hkr => ?_)
 rw [rowE_rep, tb_rep]
 refine SeqK.newAlloc (r := [_]) rfl rfl rfl Fx.ze155 rfl rfl rfl (fun k5 hk5 => ?_)
 refine SeqK.r (g_store rfl rfl Fx.ty155 rfl rfl (by (repeat rw [upd_ne _ _ (by first | assumption | exact Ne.symm (by assumption))]); first | assumption | exact upd_same _ _ _) rfl rfl rfl) rfl ?_
 refine Z7 (AW.seq ?_)
 obtain ⟨nrp, hkr0⟩ := E.upd_lt hkr
 obtain ⟨ntr, hk50⟩ := E.upd_lt hk5
 obtain ⟨ntp, hk50⟩ := E.upd_lt hk50
 have n1 : NX H k3 k5 kr := ⟨hk3, hk50, hkr0, fun e => ntp e.symm, fun e => nrp e.symm, ntr⟩
 refine AW.wk (Wk.keep 66 [(0, .c (sC u)), (3, .c (.a (.bp k3 0))), (5, .c (.a (.bp k5 0)))] [] (HX H k3 k5 kr p (fun _ => false)) rfl ⟨rfl, rfl, rfl, trivial⟩ trivial (n1.start) rfl) ?_
 refine AW.reg (SeqK.r (g_load (r := .a _) rfl Fx.ty155 rfl (n1.ht) rfl rfl rfl rfl) rfl ?_)
 refine Z53 Fx.sl155 ?_
 refine SeqK.r (g_storeR rfl rfl Fx.ty4 rfl rfl (NX.hr) (row_st bll (tb_in (f := fun _ => false) (by omega : 0 < p.size + 1)) true) rfl (row_in0 bll (tb_in (f := fun _ => false) (by omega : 0 < p.size + 1))) (by decide)) rfl ?_
 refine Z7 (AW.seq ?_)
 refine AW.wk (Wk.keep 66 [(0, .c (sC u)), (3, .c (.a (.bp k3 0))), (5, .c (.a (.bp k5 0)))] [] (HX H k3 k5 kr p st0) rfl ⟨rfl, rfl, rfl, trivial⟩ trivial (fun i o h => by show upd (upd _ kr _) kr _ i = _; rw [upd_upd, tb_set]; exact h) rfl) ?_
 refine AW.reg (SeqK.q (q_mkFn rfl rfl rfl) rfl rfl rfl ?_)
 refine sB ?_
 refine sR (sM ?_)
 refine SeqK.callV (f := 111) (cs := [.bp k3 0, .bp k5 0]) rfl rfl rfl rfl rfl Fx.fn111 rfl (clos_any _ k3 k5 kr p st0 n1.hp n1.ht NX.hr (by omega)) (fun _ _ h => by rw [h.1]; rfl) (fun x18 H18 q18 => ?_)
 obtain ⟨rfl, hHs⟩ := q18
 replace hHs : H18 = HX H k3 k5 kr p (clN p.data.toList st0 p.size) := hHs.trans (by show upd (upd _ kr _) kr _ = upd _ kr _; rw [upd_upd])
 subst hHs
 refine Z7 (AW.seq (sR (sM ?_)))
 refine SeqK.q (q_lenS rfl Fx.un9 rfl) rfl rfl rfl ?_
 refine sM ?_
 refine Z7 (AW.block ?_)
 refine AW.loop (fun (i : Nat) s => ∃ (kr : Nat) (f : Nat → Bool), (i ≤ u.size ∧ NX H k3 k5 kr ∧ shut p.data.toList f ∧ (okR p.data.toList f ((u.data.toList).drop i) ↔ likeL u.data.toList p.data.toList = true)) ∧ s = ⟨66, sp [(0, .c (sC u)), (3, .c (.a (.bp k3 0))), (5, .c (.a (.bp k5 0))), (6, .c (.a (.fn 111 [.bp k3 0, .bp k5 0]))), (20, iX .i64 ((u.size : Nat) : Int)), (21, iX .i64 ((i : Nat) : Int))], lv [], HX H k3 k5 kr p f⟩) (fun i => u.size - i) 0 ⟨_, by exact Wk.keep 66 _ _ _ rfl ⟨rfl, rfl, rfl, rfl, rfl, rfl, trivial⟩ trivial (fun _ _ h => h) rfl, kr, (clN p.data.toList st0 p.size), ⟨Nat.zero_le _, n1, cl_shut', cl_ok'.trans ok_start0⟩, rfl⟩ (fun i s hs => ?_)
 obtain ⟨kr, f, ⟨hi, n1, hsh, hok⟩, rfl⟩ := hs
 refine sR (Z30 ?_)
 refine Z7 (AW.seq ?_)
 refine cD ?_ ?_ <;> intro h22
 rotate_left
 ·
  refine AW.exit ?_
  refine eth_e ?_
  refine eth_e ?_
  refine exit_here ?_
  refine AW.seq ?_
  have hn0 : (u.data.toList).drop i = [] := List.drop_of_length_le (by rw [ba_len]; omega)
  rw [hn0, ok_nil hsh, ba_len] at hok
  refine AW.reg (SeqK.r (g_load (r := .a _) rfl Fx.ty155 rfl (n1.ht) rfl rfl rfl rfl) rfl ?_)
  refine SeqK.r (g_load (r := .a _) rfl Fx.ty9 rfl (n1.hp) rfl rfl rfl rfl) rfl ?_
  refine SeqK.q (q_lenS rfl Fx.un9 rfl) rfl rfl rfl ?_
  refine Z53 Fx.sl155 ?_
  refine SeqK.r (g_loadR rfl Fx.ty4 rfl (NX.hr) (tb_ld (f := f) (by omega : p.size < p.size + 1)) (row_in0 bll (tb_in (f := f) (by omega : p.size < p.size + 1))) (by decide) rfl rfl) rfl ?_
  refine sB ?_
  exact aR (fin_x (x := .c _) (H) (.tmp rfl .nil) rfl (n1.sub) (⟨bCe (Bool.eq_iff_iff.2 hok), rfl⟩))
 have hc : (u.data.toList).drop i = pat u.data.toList i :: (u.data.toList).drop (i + 1) := drop_pat (by rw [ba_len]; omega)
 rw [hc, ok_cons hsh, ba_len] at hok
 refine AW.skip (AW.seq (AW.block (sR (sM ?_))))
 refine sB ?_
 refine sR (SeqK.r (g_load (r := .a _) rfl Fx.ty9 rfl (n1.hp) rfl rfl rfl rfl) rfl ?_)
 refine SeqK.q (q_lenS rfl Fx.un9 rfl) rfl rfl rfl ?_
 refine SeqK.q (q_add _ rfl rfl rfl ((by rw [w64 (by omega) (by omega)]; omega : IntKind.i64.wrap _ = ((p.size + 1 : Nat) : Int)))) rfl rfl rfl ?_
 refine SeqK.make (zc := (blT false).map .t) (m := p.size + 1) rfl rfl Fx.el155 Fx.ze4 rfl rfl rfl rfl (by omega) rfl rfl (fun kn hkn => ?_)
 rw [rowE_rep, tb_rep]
 obtain ⟨n2, nrn⟩ := n1.new hkn
 refine sB ?_
 refine AW.seq (sR (SeqK.r (g_load (r := .a _) rfl Fx.ty9 rfl ((upd_ne _ _ n2.pr).trans n1.hp) rfl rfl rfl rfl) rfl ?_))
 refine SeqK.q (q_lenS rfl Fx.un9 rfl) rfl rfl rfl ?_
 refine sM ?_
 refine Z7 (AW.block ?_)
 refine AW.loop (fun (j : Nat) s => (j ≤ p.size) ∧ s = ⟨66, sp [(0, .c (sC u)), (3, .c (.a (.bp k3 0))), (5, .c (.a (.bp k5 0))), (6, .c (.a (.fn 111 [.bp k3 0, .bp k5 0]))), (7, iX .i64 ((i : Nat) : Int)), (8, .c (.a (.os kn 0 (p.size + 1) 1))), (20, iX .i64 ((u.size : Nat) : Int)), (21, iX .i64 ((i : Nat) : Int)), (29, iX .i64 ((p.size : Nat) : Int)), (30, iX .i64 ((j : Nat) : Int))], lv [], upd (HX H k3 k5 kr p f) kn (rwB (stN p.data.toList (pat u.data.toList i) f j) (p.size + 1))⟩) (fun j => p.size - j) 0 ⟨_, by exact Wk.keep 66 _ _ _ rfl ⟨rfl, rfl, rfl, rfl, rfl, rfl, rfl, rfl, rfl, rfl, trivial⟩ trivial (fun _ _ h => h) rfl, Nat.zero_le _, rfl⟩ (fun j s hs => ?_)
 obtain ⟨hj, rfl⟩ := hs
 refine sR (Z30 ?_)
 refine Z7 (AW.seq ?_)
 refine cD ?_ ?_ <;> intro h31
 rotate_left
 ·
  refine AW.exit ?_
  refine eth_e ?_
  refine eth_e ?_
  refine exit_here ?_
  refine sR (sM ?_)
  refine SeqK.r (g_store rfl rfl Fx.ty155 rfl rfl ((upd_ne _ _ n2.tr).trans n1.ht) rfl rfl rfl) rfl ?_
  refine Z7 ?_
  obtain rfl : j = p.size := by omega
  refine AW.wk (Wk.keep 66 [(0, .c (sC u)), (3, .c (.a (.bp k3 0))), (5, .c (.a (.bp k5 0))), (6, .c (.a (.fn 111 [.bp k3 0, .bp k5 0]))), (20, iX .i64 ((u.size : Nat) : Int)), (21, iX .i64 ((i : Nat) : Int))] [] (HX H k3 k5 kn p (stN p.data.toList (pat u.data.toList i) f p.size)) rfl ⟨rfl, rfl, rfl, rfl, rfl, rfl, trivial⟩ trivial (n1.swap n2 nrn) rfl) ?_
  refine AW.reg (sM ?_)
  refine SeqK.callV (f := 111) (cs := [.bp k3 0, .bp k5 0]) rfl rfl rfl rfl rfl Fx.fn111 rfl (clos_any _ k3 k5 kn p (stN p.data.toList (pat u.data.toList i) f p.size) n2.hp n2.ht NX.hr (by omega)) (fun _ _ h => by rw [h.1]; rfl) (fun x59 H59 q59 => ?_)
  obtain ⟨rfl, hHs⟩ := q59
  replace hHs : H59 = HX H k3 k5 kn p (clN p.data.toList (stN p.data.toList (pat u.data.toList i) f p.size) p.size) := hHs.trans (by show upd (upd _ kn _) kn _ = upd _ kn _; rw [upd_upd])
  subst hHs
  refine Z7 (AW.reg (Z13 ?_))
  refine sM ?_
  refine Z7 ?_
  exact ⟨i + 1, _, by exact Wk.keep 66 _ _ _ rfl ⟨rfl, rfl, rfl, rfl, rfl, rfl, trivial⟩ trivial (fun _ _ h => h) rfl, by omega, kn, (clN p.data.toList (stN p.data.toList (pat u.data.toList i) f p.size) p.size), ⟨by omega, n2, cl_shut', cl_ok'.trans hok⟩, rfl⟩
 refine AW.skip (AW.seq (AW.block (sR (sM ?_))))
 refine sB ?_
 refine AW.seq (sR (SeqK.r (g_load (r := .a _) rfl Fx.ty155 rfl ((upd_ne _ _ n2.tr).trans n1.ht) rfl rfl rfl rfl) rfl ?_))
 refine sM ?_
 refine Z53 Fx.sl155 ?_
 refine SeqK.r (g_loadR rfl Fx.ty4 rfl ((upd_ne _ _ nrn).trans NX.hr) (tb_ld (f := f) (by omega : j < p.size + 1)) (row_in0 bll (tb_in (f := f) (by omega : j < p.size + 1))) (by decide) rfl rfl) rfl ?_
 refine Z49 ?_
 refine Z7 ?_
 refine AW.cond _ rfl (fun h37 => ?_) (fun h37 => ?_)
 ·
  refine AW.exit ?_
  refine eth_e ?_
  refine exit_here ?_
  refine AW.reg (Z13 ?_)
  refine sM ?_
  refine Z7 ?_
  exact ⟨j + 1, _, by exact Wk.keep 66 _ _ _ rfl ⟨rfl, rfl, rfl, rfl, rfl, rfl, rfl, rfl, rfl, rfl, trivial⟩ trivial (fun i o h => by rw [st_off (by simpa using h37)] at h; exact h) rfl, by omega, by omega, rfl⟩
 refine AW.skip (sR (SeqK.r (g_load (r := .a _) rfl Fx.ty9 rfl ((upd_ne _ _ n2.pr).trans n1.hp) rfl rfl rfl rfl) rfl ?_))
 refine sM ?_
 refine SeqK.q (q_indexS _ rfl Fx.un9 rfl rfl (by omega) (idx_pat (by omega))) rfl rfl rfl ?_
 refine Z7 (AW.block (sR (Z9 ?_)))
 refine sB ?_
 refine cD ?_ ?_ <;> intro h41
 ·
  refine AW.reg (sM ?_)
  refine sM ?_
  refine Z53 Fx.sl155 ?_
  refine SeqK.r (g_storeR rfl rfl Fx.ty4 rfl rfl (by (repeat rw [upd_ne _ _ (by first | assumption | exact Ne.symm (by assumption))]); first | assumption | exact upd_same _ _ _) (row_st bll (tb_in (f := (stN p.data.toList (pat u.data.toList i) f j)) (by omega : j < p.size + 1)) true) rfl (row_in0 bll (tb_in (f := (stN p.data.toList (pat u.data.toList i) f j)) (by omega : j < p.size + 1))) (by decide)) rfl ?_
  refine Z7 (AW.reg (Z13 ?_))
  refine sM ?_
  refine Z7 ?_
  exact ⟨j + 1, _, Wk.keep 66 [(0, .c (sC u)), (3, .c (.a (.bp k3 0))), (5, .c (.a (.bp k5 0))), (6, .c (.a (.fn 111 [.bp k3 0, .bp k5 0]))), (7, iX .i64 ((i : Nat) : Int)), (8, .c (.a (.os kn 0 (p.size + 1) 1))), (20, iX .i64 ((u.size : Nat) : Int)), (21, iX .i64 ((i : Nat) : Int)), (29, iX .i64 ((p.size : Nat) : Int)), (30, iX .i64 (((j + 1) : Nat) : Int))] [] (upd (HX H k3 k5 kr p f) kn (rwB (stN p.data.toList (pat u.data.toList i) f (j + 1)) (p.size + 1))) rfl ⟨rfl, rfl, rfl, rfl, rfl, rfl, rfl, rfl, rfl, rfl, trivial⟩ trivial (fun i o h => by
   show upd (upd _ kn _) kn _ i = _
   rw [upd_upd, tb_set, ← st_pct (by simpa using h37 : f j = true) (u8_pct.1 h41)]; exact h) rfl, by omega, by omega, rfl⟩
 refine AW.seq (sR (Z9 ?_))
 refine sB ?_
 refine cD ?_ ?_ <;> intro h46
 ·
  refine AW.skip ?_
  refine cD ?_ ?_ <;> intro h46
  ·
   refine AW.reg (sM ?_)
   refine sM ?_
   refine SeqK.q (q_add _ rfl rfl rfl ((by rw [w64 (by omega) (by omega)]; omega : IntKind.i64.wrap _ = ((j + 1 : Nat) : Int)))) rfl rfl rfl ?_
   refine Z53 Fx.sl155 ?_
   refine SeqK.r (g_storeR rfl rfl Fx.ty4 rfl rfl (by (repeat rw [upd_ne _ _ (by first | assumption | exact Ne.symm (by assumption))]); first | assumption | exact upd_same _ _ _) (row_st bll (tb_in (f := (stN p.data.toList (pat u.data.toList i) f j)) (by omega : j + 1 < p.size + 1)) true) rfl (row_in0 bll (tb_in (f := (stN p.data.toList (pat u.data.toList i) f j)) (by omega : j + 1 < p.size + 1))) (by decide)) rfl ?_
   refine Z7 (AW.reg (Z13 ?_))
   refine sM ?_
   refine Z7 ?_
   exact ⟨j + 1, _, Wk.keep 66 [(0, .c (sC u)), (3, .c (.a (.bp k3 0))), (5, .c (.a (.bp k5 0))), (6, .c (.a (.fn 111 [.bp k3 0, .bp k5 0]))), (7, iX .i64 ((i : Nat) : Int)), (8, .c (.a (.os kn 0 (p.size + 1) 1))), (20, iX .i64 ((u.size : Nat) : Int)), (21, iX .i64 ((i : Nat) : Int)), (29, iX .i64 ((p.size : Nat) : Int)), (30, iX .i64 (((j + 1) : Nat) : Int))] [] (upd (HX H k3 k5 kr p f) kn (rwB (stN p.data.toList (pat u.data.toList i) f (j + 1)) (p.size + 1))) rfl ⟨rfl, rfl, rfl, rfl, rfl, rfl, rfl, rfl, rfl, rfl, trivial⟩ trivial (fun i o h => by
    show upd (upd _ kn _) kn _ i = _
    rw [upd_upd, tb_set, ← st_hit (by simpa using h37 : f j = true) (fun e => h41 (u8_pct.2 e)) (.inl (u8_und.1 (by assumption)))]; exact h) rfl, by omega, by omega, rfl⟩
  exact absurd (by assumption) h46
 refine AW.reg (sM ?_)
 refine sM ?_
 refine SeqK.q (q_indexS _ rfl Fx.un9 rfl rfl (by omega) (idx_pat (by omega))) rfl rfl rfl ?_
 refine Z9 ?_
 refine sB ?_
 refine cD ?_ ?_ <;> intro h46
 ·
  refine AW.reg (sM ?_)
  refine sM ?_
  refine SeqK.q (q_add _ rfl rfl rfl ((by rw [w64 (by omega) (by omega)]; omega : IntKind.i64.wrap _ = ((j + 1 : Nat) : Int)))) rfl rfl rfl ?_
  refine Z53 Fx.sl155 ?_
  refine SeqK.r (g_storeR rfl rfl Fx.ty4 rfl rfl (by (repeat rw [upd_ne _ _ (by first | assumption | exact Ne.symm (by assumption))]); first | assumption | exact upd_same _ _ _) (row_st bll (tb_in (f := (stN p.data.toList (pat u.data.toList i) f j)) (by omega : j + 1 < p.size + 1)) true) rfl (row_in0 bll (tb_in (f := (stN p.data.toList (pat u.data.toList i) f j)) (by omega : j + 1 < p.size + 1))) (by decide)) rfl ?_
  refine Z7 (AW.reg (Z13 ?_))
  refine sM ?_
  refine Z7 ?_
  exact ⟨j + 1, _, Wk.keep 66 [(0, .c (sC u)), (3, .c (.a (.bp k3 0))), (5, .c (.a (.bp k5 0))), (6, .c (.a (.fn 111 [.bp k3 0, .bp k5 0]))), (7, iX .i64 ((i : Nat) : Int)), (8, .c (.a (.os kn 0 (p.size + 1) 1))), (20, iX .i64 ((u.size : Nat) : Int)), (21, iX .i64 ((i : Nat) : Int)), (29, iX .i64 ((p.size : Nat) : Int)), (30, iX .i64 (((j + 1) : Nat) : Int))] [] (upd (HX H k3 k5 kr p f) kn (rwB (stN p.data.toList (pat u.data.toList i) f (j + 1)) (p.size + 1))) rfl ⟨rfl, rfl, rfl, rfl, rfl, rfl, rfl, rfl, rfl, rfl, trivial⟩ trivial (fun i o h => by
   show upd (upd _ kn _) kn _ i = _
   rw [upd_upd, tb_set, ← st_hit (by simpa using h37 : f j = true) (fun e => h41 (u8_pct.2 e)) (.inr (u8_eq.1 h46))]; exact h) rfl, by omega, by omega, rfl⟩
 refine AW.skip (AW.reg (Z13 ?_))
 refine sM ?_
 refine Z7 ?_
 exact ⟨j + 1, _, by exact Wk.keep 66 _ _ _ rfl ⟨rfl, rfl, rfl, rfl, rfl, rfl, rfl, rfl, rfl, rfl, trivial⟩ trivial (fun i o h => by rw [st_mis (by simpa using h37 : f j = true) (fun e => h41 (u8_pct.2 e)) (fun e => (by assumption : ¬ ((pat p.data.toList j).toNat : Int) = 95) (u8_und.2 e)) (fun e => h46 (u8_eq.2 e))] at h; exact h) rfl, by omega, by omega, rfl⟩
def i3 (a b : Int) : Int := if a < b then -1 else if b < a then 1 else 0
def cmpL : List UInt8 → List UInt8 → Int
  | [], [] => 0
  | [], _ :: _ => -1
  | _ :: _, [] => 1
  | x :: a, y :: b => if x = y then cmpL a b else i3 (x.toNat : Int) (y.toNat : Int)
theorem u8_ne {a b : UInt8} (h : a ≠ b) : (a.toNat : Int) ≠ (b.toNat : Int) := fun e => h (u8_eq.1 e)
theorem u8_lt {a b : UInt8} : ((a.toNat : Int) < (b.toNat : Int)) ↔ a < b := by rw [UInt8.lt_iff_toNat_lt]; omega
end Go.Proofs.YtnnoafgdjjpidaaGreatDoor.D
namespace Go.Proofs.YtnnoafgdjjpidaaGreatDoor.W
open Go.RowKit E M
mutual
def inB (l : List Vr) : Ex → Bool
  | .mk op _ _ ix vk vn vs args =>
    if op = 1 then decide (args.length = 0 ∧ ((vk = 1 ∧ vs = ⟨#[]⟩) ∨ (vk = 0 ∧ vn = 0 ∧ vs = ⟨#[]⟩)))
    else if op = 2 then decide (args.length = 0) && htB l ix 1
    else if op = 9 then inL l args
    else if op = 3 then decide (args.length = 1) && inS l args
    else if op = 4 ∨ op = 5 ∨ op = 6 ∨ op = 7 ∨ op = 8 then decide (args.length = 2) && inS l args
    else false
def inS (l : List Vr) : List Ex → Bool
  | [] => true
  | a :: r => inB l a && inS l r
def inL (l : List Vr) : List Ex → Bool
  | [a] => decide (a.args.length = 0) && ((decide (a.op = 2) && htB l a.ix 2) || (decide (a.op = 1 ∧ a.vk = 2 ∧ a.vn = 0 ∧ vtX a.vs)) || decide (a.op = 1 ∧ a.vk = 0 ∧ a.vn = 0 ∧ a.vs = ⟨#[]⟩))
  | _ => false
end
theorem inS_all (l : List Vr) : ∀ es, inS l es = es.all (inB l)
  | [] => by rw [inS]; rfl
  | a :: r => by rw [inS, inS_all l r, List.all_cons]
theorem inB_eq (l : List Vr) (e : Ex) : inB l e = if e.op = 1 then decide (e.args.length = 0 ∧ ((e.vk = 1 ∧ e.vs = ⟨#[]⟩) ∨ (e.vk = 0 ∧ e.vn = 0 ∧ e.vs = ⟨#[]⟩)))
    else if e.op = 2 then decide (e.args.length = 0) && htB l e.ix 1
    else if e.op = 9 then inL l e.args
    else if e.op = 3 then decide (e.args.length = 1) && e.args.all (inB l)
    else if e.op = 4 ∨ e.op = 5 ∨ e.op = 6 ∨ e.op = 7 ∨ e.op = 8 then decide (e.args.length = 2) && e.args.all (inB l)
    else false := by
  cases e with | mk op tb nm ix vk vn vs args =>
  rw [inB, inS_all]
theorem inL_one {l : List Vr} {a : Ex} (h : inL l [a] = true) : a.args = [] ∧ ((a.op = 2 ∧ htB l a.ix 2 = true) ∨ (a.op = 1 ∧ a.vk = 2 ∧ vtX a.vs) ∨ (a.op = 1 ∧ a.vk = 0)) := by
  rw [inL, Bool.and_eq_true, Bool.or_eq_true, Bool.or_eq_true, Bool.and_eq_true] at h
  refine ⟨List.length_eq_zero_iff.1 (of_decide_eq_true h.1), ?_⟩
  rcases h.2 with (⟨h1, h2⟩ | h1) | h1
  · exact .inl ⟨of_decide_eq_true h1, h2⟩
  · have := of_decide_eq_true h1; exact .inr (.inl ⟨this.1, this.2.1, this.2.2.2⟩)
  · have := of_decide_eq_true h1; exact .inr (.inr ⟨this.1, this.2.1⟩)
theorem inL_arg {l : List Vr} {es : List Ex} (h : inL l es = true) : ∃ a, es = [a] := by
  match es, h with
  | [a], _ => exact ⟨a, rfl⟩
  | [], h => rw [inL] at h; cases h; simp
  | _ :: _ :: _, h => rw [inL] at h; cases h; all_goals simp
inductive OpdP (l : List Vr) (a : Ex) : Prop
  | nul (h1 : a.op = 1) (h2 : a.vk = 0) (h3 : a.args = [])
  | txc (h1 : a.op = 2) (h2 : htB l a.ix 2 = true) (h3 : a.args = [])
  | txl (h1 : a.op = 1) (h2 : a.vk = 2) (h3 : a.args = []) (h4 : vtX a.vs)
  | int (h1 : inB l a = true) (h2 : nulB a = false → (ofE a).2 = 0)
abbrev tnB (l : List Vr) (a : Ex) : Prop := txB l a = true ∨ (a.op = 1 ∧ nulB a = true)
inductive Cd (l : List Vr) : Ex → Prop
  | and (e a b : Ex) (h : e.op = 18 ∨ e.op = 19) (h2 : e.args = [a, b]) (ha : Cd l a) (hb : Cd l b) : Cd l e
  | not (e a : Ex) (h : e.op = 20) (h2 : e.args = [a]) (ha : Cd l a) : Cd l e
  | isn (e a : Ex) (h : e.op = 17) (h2 : e.args = [a]) (ha : OpdP l a) : Cd l e
  | like (e a b : Ex) (h : e.op = 16) (h2 : e.args = [a, b]) (ha : OpdP l a) (h3 : a.op = 1 ∨ a.op = 2) (h4 : txB l a = true ∨ nulB a = true) (h5 : b.op = 1 ∧ b.vk = 2 ∧ b.args = [] ∧ vtX b.vs) : Cd l e
  | cmp (e a b : Ex) (h : 10 ≤ e.op ∧ e.op ≤ 15) (h2 : e.args = [a, b]) (ha : OpdP l a) (hb : OpdP l b) (h3 : (¬ txB l a = true ∧ ¬ txB l b = true) ∨ (tnB l a ∧ tnB l b ∧ (a.op = 1 ∨ b.op = 1 ∨ e.op = 10 ∨ e.op = 11))) : Cd l e
theorem ty_mul (l : List Vr) (n : Int) : ∀ ps : List Pt, tyPs l (ps.map fun p => mulP p n) = tyPs l ps
  | [] => rfl
  | p :: r => by
    rw [List.map_cons, tyPs, tyPs, ty_mul l n r, tyP_eq, tyP_eq]; rfl
theorem ty_lim {l : List Vr} {t : Tm} (h : tyT l t = true) : tyT l (lim t).1 = true := by
  unfold lim
  split
  · exact h
  · rfl
theorem ty_scale {l : List Vr} {t : Tm} (h : tyT l t = true) (n : Int) : tyT l (scale t n).1 = true := by
  unfold scale
  split
  · rfl
  · refine ty_lim ?_
    rw [tyT_eq] at h ⊢
    show tyPs l (t.ps.map fun p => mulP p n) = true
    rw [ty_mul]; exact h
theorem ty_add {l : List Vr} {a b : Tm} (ha : vldT a = true) (hb : vldT b = true) (h1 : tyT l a = true) (h2 : tyT l b = true) : tyT l (add a b).1 = true := by
  unfold add
  refine ty_lim ?_
  rw [tyT_eq] at h1 h2 ⊢
  refine tyPs_iff.2 fun p hp => ?_
  obtain ⟨q, hq, e1, e2, e3, e4⟩ := (mrg_mem a.ps b.ps (vld_coef ha).2 (vld_coef hb).2 p hp).1
  have hq' : tyP l q = true := by
    rcases List.mem_append.1 hq with hq | hq
    · exact tyPs_iff.1 h1 q hq
    · exact tyPs_iff.1 h2 q hq
  rw [tyP_eq] at hq' ⊢
  rw [e1, e3, e4]; exact hq'
theorem ty_div {l : List Vr} {t : Tm} (h : tyT l t = true) (b : Int) : tyT l (div t b).1 = true := by
  unfold div
  split
  · rfl
  · split
    · exact h
    · split
      · rfl
      · refine ty_lim ?_
        rw [tyT_eq]
        refine tyPs_iff.2 fun p hp => ?_
        have : p = ⟨1, 2, 0, b, [t]⟩ := by simpa [divT] using hp
        subst this
        rw [tyP_eq]
        show tyO l [t] = true
        rw [tyO]; exact h
theorem ofE_ty {l : List Vr} (e : Ex) : inB l e = true → (ofE e).2 = 0 → tyT l (ofE e).1 = true ∧ vldT (ofE e).1 = true := by
  induction e using Ex.ind with
  | h e ih =>
    intro hi h0
    have hv := (ofE_gd e h0).1
    refine ⟨?_, hv⟩
    rw [inB_eq] at hi
    cases okE_inv h0 with
    | lit h1 h2 h3 h4 => rw [h3]; rfl
    | col h1 h2 h3 h4 =>
      rw [if_neg (by omega), if_pos h1, Bool.and_eq_true] at hi
      rw [h3, tyT_eq]
      show tyPs l [_] = true
      rw [tyPs, tyPs, tyP_eq, Bool.and_true]
      exact hi.2
    | lenT a h1 h2 h3 h4 h5 => rw [h4]; rfl
    | lenC a h1 h2 h3 h0' h4 h5 =>
      rw [if_neg (by omega), if_neg (by omega), if_pos h1, h2] at hi
      rw [h4, tyT_eq]
      show tyPs l [_] = true
      rw [tyPs, tyPs, tyP_eq, Bool.and_true]
      rcases (inL_one hi).2 with k | k | k
      · exact k.2
      · have := k.1; omega
      · have := k.1; omega
    | neg a h1 h2 h3 h4 =>
      rw [if_neg (by omega), if_neg (by omega), if_neg (by omega), if_pos h1, Bool.and_eq_true, List.all_eq_true] at hi
      rw [h4]
      exact ty_scale (ih a (by rw [h2]; simp) (hi.2 a (by rw [h2]; simp)) h3).1 _
    | bin a b h1 h2 h3 h4 h5 =>
      rw [if_neg (by omega), if_neg (by omega), if_neg (by omega), if_neg (by omega), if_pos (by omega), Bool.and_eq_true, List.all_eq_true] at hi
      obtain ⟨ta, va⟩ := ih a (by rw [h2]; simp) (hi.2 a (by rw [h2]; simp)) h3
      obtain ⟨tb, vb⟩ := ih b (by rw [h2]; simp) (hi.2 b (by rw [h2]; simp)) h4
      have hc : (comb e.op (ofE a).1 (ofE b).1).2 = 0 := by rw [← h5]; exact h0
      rw [h5]
      cases comb_inv h1 hc with
      | add k1 k2 => rw [k2]; exact ty_add va vb ta tb
      | sub k1 k3 k2 => rw [k2]; exact ty_add va (scale_vld vb k3) ta (ty_scale tb _)
      | mulL k1 k3 k2 => rw [k2]; exact ty_scale tb _
      | mulR k1 k3 k2 => rw [k2]; exact ty_scale ta _
      | div k1 k3 k4 k5 k2 => rw [k2]; exact ty_div ta _
      | mod k1 k3 k4 k5 k6 k2 => rw [k2]; exact ty_add va (scale_vld (div_vld va k5) k6) ta (ty_scale (ty_div ta _) _)
theorem htB_rng {l : List Vr} {v k : Int} (h : htB l v k = true) : 0 ≤ v ∧ v < l.length := by have := of_decide_eq_true h; omega
theorem in_cols {l : List Vr} (e : Ex) : inB l e = true → ∀ v ∈ colR e, 0 ≤ v ∧ v < l.length := by
  induction e using Ex.ind with
  | h e ih =>
    intro hi v hv
    rw [inB_eq] at hi
    rw [colR_eq] at hv
    by_cases h1 : e.op = 1
    · rw [if_pos h1] at hi
      have := of_decide_eq_true hi
      rw [if_neg (by omega), List.nil_append, List.length_eq_zero_iff.1 this.1, colRs] at hv; cases hv
    · rw [if_neg h1] at hi
      by_cases h2 : e.op = 2
      · rw [if_pos h2, Bool.and_eq_true] at hi
        rw [if_pos h2, List.length_eq_zero_iff.1 (of_decide_eq_true hi.1), colRs, List.append_nil, List.mem_singleton] at hv
        rw [hv]; exact htB_rng hi.2
      · rw [if_neg h2] at hi
        rw [if_neg h2, List.nil_append] at hv
        by_cases h9 : e.op = 9
        · rw [if_pos h9] at hi
          obtain ⟨a, ha⟩ := inL_arg hi
          rw [ha] at hi hv
          obtain ⟨k1, k2⟩ := inL_one hi
          rw [colRs, colRs, List.append_nil, colR_eq, k1, colRs, List.append_nil] at hv
          rcases k2 with k | k | k
          · rw [if_pos k.1, List.mem_singleton] at hv; rw [hv]; exact htB_rng k.2
          · rw [if_neg (by omega)] at hv; cases hv
          · rw [if_neg (by omega)] at hv; cases hv
        · rw [if_neg h9] at hi
          obtain ⟨a, ha, hva⟩ := mem_colRs.1 hv
          by_cases h3 : e.op = 3
          · rw [if_pos h3, Bool.and_eq_true, List.all_eq_true] at hi
            exact ih a ha (hi.2 a ha) v hva
          · rw [if_neg h3] at hi
            split at hi
            · rw [Bool.and_eq_true, List.all_eq_true] at hi
              exact ih a ha (hi.2 a ha) v hva
            · cases hi
theorem op_cols {l : List Vr} {a : Ex} (h : OpdP l a) : ∀ v ∈ colR a, 0 ≤ v ∧ v < l.length := by
  intro v hv
  cases h with
  | nul h1 h2 h3 => rw [colR_eq, if_neg (by omega), h3, colRs] at hv; cases hv
  | txc h1 h2 h3 => rw [colR_eq, if_pos h1, h3, colRs, List.append_nil, List.mem_singleton] at hv; rw [hv]; exact htB_rng h2
  | txl h1 h2 h3 h4 => rw [colR_eq, if_neg (by omega), h3, colRs] at hv; cases hv
  | int h1 h2 => exact in_cols a h1 v hv
theorem ops_cols {l : List Vr} {es : List Ex} (h : ∀ a ∈ es, OpdP l a) : ∀ v ∈ colsL es, 0 ≤ v ∧ v < l.length := by
  intro v hv
  obtain ⟨a, ha, hva⟩ := mem_colRs.1 (((dd_spec (colRs es)).2 v).1 hv)
  exact op_cols (h a ha) v hva
theorem fv_mk {l : List Vr} {k : Int} (hk : k = 0 ∨ k = 1) {fs : List Fm} (h : ∀ f ∈ fs, fvB l f = true) : fvB l (.mk k at0 fs) = true := by
  rw [fvB_eq, if_neg (show ¬ k = 2 by omega), if_pos hk, Bool.and_eq_true, List.all_eq_true]
  exact ⟨decide_eq_true ⟨rfl, rfl, rfl, ⟨rfl, rfl⟩, rfl, rfl, rfl, rfl⟩, h⟩
theorem fv_cst (l : List Vr) (b : Bool) : fvB l (cst b) = true := fv_mk (by cases b <;> decide) (by simp)
theorem fv_ls {l : List Vr} {k : Int} (hk : k = 0 ∨ k = 1) {fs : List Fm} (h : ∀ f ∈ fs, fvB l f = true) : fvB l (lsF k fs) = true := by
  match fs, h with
  | [f], h => exact h f (by simp)
  | [], h => exact fv_mk hk h
  | _ :: _ :: _, h => exact fv_mk hk h
theorem fv_at {l : List Vr} {a : At} (h : avP l a) : fvB l (atF a) = true := by
  rw [fvB_eq, if_pos rfl]; exact decide_eq_true ⟨rfl, h⟩
theorem zr0 : zrT tm0 := ⟨rfl, rfl⟩
theorem av_null {l : List Vr} {v k : Int} (hk : k = 0 ∨ k = 1) (h : 0 ≤ v ∧ v < l.length) : avP l ⟨k, v, 0, tm0, 0, 0, false, ⟨#[]⟩⟩ := by
  unfold avP; rw [if_pos hk]; exact ⟨h, rfl, zr0, rfl, rfl, rfl, rfl⟩
theorem fv_nls {l : List Vr} {k : Int} (hk : k = 0 ∨ k = 1) {vs : List Int} (h : ∀ v ∈ vs, 0 ≤ v ∧ v < l.length) : ∀ f ∈ nlsF k vs, fvB l f = true := by
  intro f hf
  obtain ⟨v, hv, rfl⟩ := List.mem_map.1 hf
  exact fv_at (av_null hk (h v hv))
theorem av_int {l : List Vr} {k : Int} {t : Tm} (hk : k = 2 ∨ k = 3 ∨ k = 4) (h1 : vldT t = true) (h2 : tyT l t = true) : avP l (atI k t) := by
  unfold avP
  rw [if_neg (by show ¬ (k = 0 ∨ k = 1); omega), if_pos (by show k = 2 ∨ k = 3 ∨ k = 4; exact hk)]
  exact ⟨rfl, rfl, ⟨rfl, rfl, rfl, rfl⟩, h1, h2⟩
theorem fv_cmb {l : List Vr} {p : PR} {vs : List Int} (m : Int) (hv : ∀ v ∈ vs, 0 ≤ v ∧ v < l.length) (hp : p.kn = false → avP l p.a) : fvB l (cmbP p vs m) = true := by
  unfold cmbP
  split
  · split
    · exact fv_cst l true
    · refine fv_ls (.inr rfl) fun f hf => ?_
      rcases List.mem_append.1 hf with hf | hf
      · exact fv_nls (.inl rfl) hv f hf
      · split at hf
        · cases hf
        · rename_i h; rw [List.mem_singleton.1 hf]; exact fv_at (hp (by simpa using h))
  · split
    · exact fv_cst l false
    · split
      · exact fv_ls (.inl rfl) (fv_nls (.inr rfl) hv)
      · rename_i h
        refine fv_ls (.inl rfl) fun f hf => ?_
        rcases List.mem_append.1 hf with hf | hf
        · exact fv_nls (.inr rfl) (fun v hv' => hv v (List.mem_filter.1 hv').1) f hf
        · rw [List.mem_singleton.1 hf]; exact fv_at (hp (by simpa using h))
theorem opd_txt {l : List Vr} {a : Ex} (h : OpdP l a) (ht : txB l a = true) : (a.op = 2 ∧ htB l a.ix 2 = true) ∨ (a.op = 1 ∧ vtX a.vs) := by
  unfold txB at ht
  cases h with
  | nul h1 h2 h3 => rw [if_neg (by omega)] at ht; have := of_decide_eq_true ht; omega
  | txc h1 h2 h3 => exact .inl ⟨h1, h2⟩
  | txl h1 h2 h3 h4 => exact .inr ⟨h1, h4⟩
  | int h1 h2 =>
    exfalso
    rw [inB_eq] at h1
    by_cases k : a.op = 2
    · rw [if_pos k] at ht
      rw [if_neg (by omega), if_pos k, Bool.and_eq_true] at h1
      have := of_decide_eq_true h1.2; have := of_decide_eq_true ht; omega
    · rw [if_neg k] at ht
      have k2 := of_decide_eq_true ht
      rw [if_pos k2.1] at h1
      have := of_decide_eq_true h1; omega
theorem opd_int {l : List Vr} {a : Ex} (h : OpdP l a) (ht : ¬ txB l a = true) (hn : nulB a = false) : inB l a = true ∧ (ofE a).2 = 0 := by
  cases h with
  | nul h1 h2 h3 => rw [nulB_eq, decide_eq_true ⟨h1, h2⟩] at hn; cases hn
  | txc h1 h2 h3 => exact absurd (by unfold txB; rw [if_pos h1]; exact h2) ht
  | txl h1 h2 h3 h4 => exact absurd (by unfold txB; rw [if_neg (by omega)]; exact decide_eq_true ⟨h1, h2⟩) ht
  | int h1 h2 => exact ⟨h1, h2 hn⟩
theorem tk_rng (op : Int) : 0 ≤ tkI op ∧ tkI op ≤ 3 := by unfold tkI; split <;> (try split) <;> decide
theorem av_txt {l : List Vr} {v tk : Int} {tn : Bool} {s : ByteArray} (h : htB l v 2 = true) (hk : 0 ≤ tk ∧ tk ≤ 3) (hs : vtX s) : avP l ⟨5, v, 0, tm0, 0, tk, tn, s⟩ := by
  unfold avP
  rw [if_neg (by show ¬ ((5 : Int) = 0 ∨ (5 : Int) = 1); decide), if_neg (by show ¬ ((5 : Int) = 2 ∨ (5 : Int) = 3 ∨ (5 : Int) = 4); decide), if_pos rfl]
  exact ⟨h, rfl, zr0, hk, rfl, hs⟩
theorem av_par {l : List Vr} {k v o : Int} (hk : k = 6 ∨ k = 7) (h : htB l v 2 = true) (h2 : htB l o 2 = true) (hlt : v < o) : avP l ⟨k, v, o, tm0, 0, 0, false, ⟨#[]⟩⟩ := by
  unfold avP
  rw [if_neg (by show ¬ (k = 0 ∨ k = 1); omega), if_neg (by show ¬ (k = 2 ∨ k = 3 ∨ k = 4); omega), if_neg (by show ¬ k = 5; omega), if_pos hk]
  exact ⟨h, h2, hlt, zr0, rfl, rfl, rfl, rfl⟩
theorem int_ok {l : List Vr} {op : Int} {t : Tm} (hv : vldT t = true) (ht : tyT l t = true) (h : (intF op t).2 = 0) (hk : (intF op t).1.kn = false) : avP l (intF op t).1.a := by
  have v1 : vldT ⟨1, []⟩ = true := by decide
  unfold intF at h hk ⊢
  split at h
  · rename_i h1; rw [if_pos h1] at hk; cases hk
  · rename_i h1
    rw [if_neg h1] at hk ⊢
    split at h
    · rename_i h2; rw [if_pos h2]; exact av_int (.inr (.inl rfl)) hv ht
    · rename_i h2
      rw [if_neg h2] at hk ⊢
      split at h
      · rename_i h3; rw [if_pos h3]; exact av_int (.inr (.inr rfl)) hv ht
      · rename_i h3
        rw [if_neg h3] at hk ⊢
        generalize hu : (if op = 15 ∨ op = 14 then scale t (-1) else (t, 0)) = u at h hk ⊢
        have hu' : u.2 = 0 → vldT u.1 = true ∧ tyT l u.1 = true := fun h0 => by
          rw [← hu] at h0 ⊢
          split at h0
          · rename_i h4; rw [if_pos h4]; exact ⟨scale_vld hv h0, ty_scale ht _⟩
          · rename_i h4; rw [if_neg h4]; exact ⟨hv, ht⟩
        dsimp only at h hk ⊢
        split at h
        · exact absurd h (by assumption)
        · rename_i h5
          rw [if_neg h5] at hk ⊢
          obtain ⟨u1, u2⟩ := hu' (Classical.not_not.1 h5)
          generalize hw : (if op = 12 ∨ op = 14 then add u.1 ⟨1, []⟩ else (u.1, 0)) = w at h hk ⊢
          have hw' : w.2 = 0 → vldT w.1 = true ∧ tyT l w.1 = true := fun h0 => by
            rw [← hw] at h0 ⊢
            split at h0
            · rename_i h4; rw [if_pos h4]; exact ⟨sum_vld u1 v1, ty_add u1 v1 u2 rfl⟩
            · rename_i h4; rw [if_neg h4]; exact ⟨u1, u2⟩
          split at h
          · exact absurd h (by assumption)
          · rename_i h6
            rw [if_neg h6]
            obtain ⟨w1, w2⟩ := hw' (Classical.not_not.1 h6)
            exact av_int (.inl rfl) w1 w2
theorem intP_ok {l : List Vr} {op : Int} {x y : Ex} (hx : inB l x = true) (hy : inB l y = true) (h : (intP op x y).2 = 0) (hk : (intP op x y).1.kn = false) : avP l (intP op x y).1.a := by
  unfold intP at h hk ⊢
  split at h
  · exact absurd h (by assumption)
  · rename_i h1
    rw [if_neg h1] at hk ⊢
    split at h
    · exact absurd h (by assumption)
    · rename_i h2
      rw [if_neg h2] at hk ⊢
      split at h
      · exact absurd h (by assumption)
      · rename_i h3
        rw [if_neg h3] at hk ⊢
        split at h
        · exact absurd h (by assumption)
        · rename_i h4
          rw [if_neg h4] at hk ⊢
          obtain ⟨tx, vx⟩ := ofE_ty x hx (Classical.not_not.1 h1)
          obtain ⟨ty, vy⟩ := ofE_ty y hy (Classical.not_not.1 h2)
          have v2 := scale_vld vy (Classical.not_not.1 h3)
          exact int_ok (sum_vld vx v2) (ty_add vx v2 tx (ty_scale ty _)) h hk
theorem txt_ok {lt : ByteArray → ByteArray → Bool} {l : List Vr} {op : Int} {x y : Ex} (hx : (x.op = 2 ∧ htB l x.ix 2 = true) ∨ (x.op = 1 ∧ vtX x.vs)) (hy : (y.op = 2 ∧ htB l y.ix 2 = true) ∨ (y.op = 1 ∧ vtX y.vs)) (hk : (txtP lt op x y).kn = false) : avP l (txtP lt op x y).a := by
  unfold txtP at hk ⊢
  split at hk
  · cases hk
  · rename_i h1
    rw [if_neg h1]
    split at hk
    · rename_i h2
      rw [if_pos h2]
      rcases hy with hy | hy
      · rcases hx with hx | hx
        · omega
        · exact av_txt hy.2 (tk_rng _) hx.2
      · exact absurd ⟨h2, hy.1⟩ h1
    · rename_i h2
      rw [if_neg h2]
      have hx2 : htB l x.ix 2 = true := by rcases hx with hx | hx; exact hx.2; exact absurd hx.1 h2
      split at hk
      · rename_i h3
        rw [if_pos h3]
        rcases hy with hy | hy
        · omega
        · exact av_txt hx2 (tk_rng _) hy.2
      · rename_i h3
        rw [if_neg h3]
        have hy2 : htB l y.ix 2 = true := by rcases hy with hy | hy; exact hy.2; exact absurd hy.1 h3
        split at hk
        · cases hk
        · rename_i h4
          rw [if_neg h4]
          refine av_par (by split <;> simp) ?_ ?_ (by omega)
          · rcases Int.le_total x.ix y.ix with h | h
            · rw [Int.min_eq_left h]; exact hx2
            · rw [Int.min_eq_right h]; exact hy2
          · rcases Int.le_total x.ix y.ix with h | h
            · rw [Int.max_eq_right h]; exact hy2
            · rw [Int.max_eq_left h]; exact hx2
theorem cmp_ok {lt lk : ByteArray → ByteArray → Bool} {l : List Vr} {e : Ex} {a b : Ex} (m : Int) (h2 : e.args = [a, b]) (ho : ∀ x ∈ e.args, OpdP l x)
    (hp : nulB e = false → ∀ p : PR × Int, p = prtP lt lk l e.op a b m → p.2 = 0 → p.1.kn = false → avP l p.1.a) (h : (cmpF lt lk l e m).2 = 0) : fvB l (cmpF lt lk l e m).1 = true := by
  unfold cmpF at h ⊢
  split at h
  · rename_i h1; rw [if_pos h1]; exact fv_cst l _
  · rename_i h1
    rw [if_neg h1]
    rw [h2] at h ⊢
    have hp' := hp (by simpa using h1) _ rfl
    dsimp only [List.getD_cons_zero, List.getD_cons_succ] at h ⊢
    split at h
    · exact absurd h (by assumption)
    · rename_i h3
      rw [if_neg h3]
      rw [h2] at ho
      exact fv_cmb m (ops_cols ho) (hp' (Classical.not_not.1 h3))
theorem nul2 {e a b : Ex} (h : nulB e = false) (h2 : e.args = [a, b]) : nulB a = false ∧ nulB b = false := by
  rw [nulB_eq, h2, Bool.or_eq_false_iff] at h
  have := h.2
  simp only [List.any_cons, List.any_nil, Bool.or_false, Bool.or_eq_false_iff] at this
  exact this
theorem and_ok {l : List Vr} {k : Int} (hk : k = 0 ∨ k = 1) : ∀ (rs : List (Fm × Int)) (out : List Fm), (∀ r ∈ rs, r.2 = 0 → fvB l r.1 = true) → (∀ f ∈ out, fvB l f = true) → (andR k rs out).2 = 0 → fvB l (andR k rs out).1 = true
  | [], out, _, h, _ => by rw [andR]; exact fv_mk hk h
  | r :: rs, out, h1, h2, h0 => by
    rw [andR] at h0 ⊢
    split at h0
    · exact absurd h0 (by assumption)
    · rename_i h3
      rw [if_neg h3]
      refine and_ok hk rs _ (fun q hq => h1 q (by simp [hq])) (fun f hf => ?_) h0
      rcases List.mem_append.1 hf with hf | hf
      · exact h2 f hf
      · rw [List.mem_singleton.1 hf]; exact h1 r (by simp) (Classical.not_not.1 h3)
theorem tr_valid {lt lk : ByteArray → ByteArray → Bool} {l : List Vr} {e : Ex} (h : Cd l e) : ∀ m, (trE lt lk l e m).2 = 0 → fvB l (trE lt lk l e m).1 = true := by
  induction h with
  | and e a b h h2 ha hb iha ihb =>
    intro m h0
    rw [trE_eq, stepT, if_pos h] at h0 ⊢
    refine and_ok (by split <;> simp) _ _ (fun r hr => ?_) (by simp) h0
    rw [h2] at hr
    simp only [List.map_cons, List.map_nil, List.mem_cons, List.not_mem_nil, or_false] at hr
    rcases hr with rfl | rfl
    · exact iha m
    · exact ihb m
  | not e a h h2 ha ih =>
    intro m h0
    rw [trE_eq, stepT, if_neg (by omega), if_pos h, h2] at h0 ⊢
    exact ih _ h0
  | isn e a h h2 ha =>
    intro m h0
    rw [trE_eq, stepT, if_neg (by omega), if_neg (by omega), if_pos h, h2] at h0 ⊢
    show fvB l (isN a m) = true
    have hc := ops_cols (l := l) (es := [a]) (fun x hx => by rw [List.mem_singleton.1 hx]; exact ha)
    unfold isN
    split
    · exact fv_cst l _
    · split
      · exact fv_ls (.inr rfl) (fv_nls (.inl rfl) hc)
      · exact fv_ls (.inl rfl) (fv_nls (.inr rfl) hc)
  | like e a b h h2 ha h3 h4 h5 =>
    intro m h0
    rw [trE_eq, stepT, if_neg (by omega), if_neg (by omega), if_neg (by omega), if_neg (by omega)] at h0 ⊢
    have hb : OpdP l b := .txl h5.1 h5.2.1 h5.2.2.1 h5.2.2.2
    refine cmp_ok m h2 (fun x hx => ?_) (fun hn p hp h6 h7 => ?_) h0
    · rw [h2] at hx
      simp only [List.mem_cons, List.not_mem_nil, or_false] at hx
      rcases hx with rfl | rfl
      · exact ha
      · exact hb
    · obtain ⟨na, nb⟩ := nul2 hn h2
      rw [prtP, if_pos h] at hp
      subst hp
      have ht : txB l a = true := by rcases h4 with k | k; exact k; rw [na] at k; cases k
      dsimp only at h7 ⊢
      unfold lkP at h7 ⊢
      split at h7
      · cases h7
      · rename_i k
        rw [if_neg k]
        rcases opd_txt ha ht with k2 | k2
        · exact av_txt k2.2 (by decide) h5.2.2.2
        · exact absurd k2.1 k
  | cmp e a b h h2 ha hb h3 =>
    intro m h0
    rw [trE_eq, stepT, if_neg (by omega), if_neg (by omega), if_neg (by omega), if_neg (by omega)] at h0 ⊢
    refine cmp_ok m h2 (fun x hx => ?_) (fun hn p hp h6 h7 => ?_) h0
    · rw [h2] at hx
      simp only [List.mem_cons, List.not_mem_nil, or_false] at hx
      rcases hx with rfl | rfl
      · exact ha
      · exact hb
    · obtain ⟨na, nb⟩ := nul2 hn h2
      rw [prtP, if_neg (by omega)] at hp
      by_cases ht : txB l a = true ∨ txB l b = true
      · rw [if_pos ht] at hp
        subst hp
        have h8 : txB l a = true ∧ txB l b = true := by
          rcases h3 with k | ⟨k1, k2, _⟩
          · exact absurd ht (by rintro (j | j); exact k.1 j; exact k.2 j)
          · refine ⟨?_, ?_⟩
            · rcases k1 with k | k; exact k; rw [na] at k; cases k.2
            · rcases k2 with k | k; exact k; rw [nb] at k; cases k.2
        exact txt_ok (opd_txt ha h8.1) (opd_txt hb h8.2) h7
      · rw [if_neg ht] at hp
        subst hp
        have ha' := opd_int ha (fun j => ht (.inl j)) na
        have hb' := opd_int hb (fun j => ht (.inr j)) nb
        exact intP_ok ha'.1 hb'.1 h6 h7
abbrev atR (r : List RV) (v : Int) : RV := r.getD v.toNat ⟨0, 0, ⟨#[]⟩⟩
def psB (lt lk : ByteArray → ByteArray → Bool) (k : Int) (t s : ByteArray) : Bool :=
  if k = 0 then decide (s = t) else if k = 1 then lk s t else if k = 2 then lt s t else if k = 3 then (lt s t || decide (s = t)) else false
def haB (lt lk : ByteArray → ByteArray → Bool) (r : List RV) (a : At) : Bool :=
  if a.k = 0 then decide ((atR r a.v).k = 0)
  else if a.k = 1 then decide ((atR r a.v).k ≠ 0)
  else if a.k = 5 then decide ((atR r a.v).k = 2) && (psB lt lk a.tk a.ts (atR r a.v).s != a.tn)
  else if a.k = 6 ∨ a.k = 7 then decide ((atR r a.v).k = 2) && decide ((atR r a.o).k = 2) && (decide ((atR r a.v).s = (atR r a.o).s) == decide (a.k = 6))
  else if a.k = 2 then (valT r a.t).2 && decide ((valT r a.t).1 ≤ 0)
  else if a.k = 3 then (valT r a.t).2 && decide ((valT r a.t).1 = 0)
  else (valT r a.t).2 && decide ((valT r a.t).1 ≠ 0)
mutual
def hoB (lt lk : ByteArray → ByteArray → Bool) (r : List RV) : Fm → Bool
  | .mk k a args => if k = 0 then hoS lt lk r args true else if k = 1 then hoS lt lk r args false else haB lt lk r a
def hoS (lt lk : ByteArray → ByteArray → Bool) (r : List RV) : List Fm → Bool → Bool
  | [], b => b
  | f :: l, b => if b then hoB lt lk r f && hoS lt lk r l b else hoB lt lk r f || hoS lt lk r l b
end
theorem hoS_t (lt lk : ByteArray → ByteArray → Bool) (r : List RV) : ∀ l, hoS lt lk r l true = l.all (hoB lt lk r)
  | [] => by rw [hoS]; rfl
  | f :: l => by rw [hoS, if_pos rfl, hoS_t lt lk r l, List.all_cons]
theorem hoS_f (lt lk : ByteArray → ByteArray → Bool) (r : List RV) : ∀ l, hoS lt lk r l false = l.any (hoB lt lk r)
  | [] => by rw [hoS]; rfl
  | f :: l => by rw [hoS, if_neg (by decide), hoS_f lt lk r l, List.any_cons]
theorem hoB_eq (lt lk : ByteArray → ByteArray → Bool) (r : List RV) (f : Fm) : hoB lt lk r f = if f.kind = 0 then f.args.all (hoB lt lk r) else if f.kind = 1 then f.args.any (hoB lt lk r) else haB lt lk r f.fa := by
  cases f; rw [hoB, hoS_t, hoS_f]
abbrev rowR (r : List RV) : Prop := ∀ v ∈ r, v.n.natAbs ≤ 2 ^ 31 ∧ v.s.size ≤ 16
theorem atR_ok {r : List RV} (h : rowR r) (v : Int) : (atR r v).n.natAbs ≤ 2 ^ 31 ∧ (atR r v).s.size ≤ 16 := by
  unfold atR
  rw [List.getD_eq_getElem?_getD]
  by_cases hv : v.toNat < r.length
  · rw [List.getElem?_eq_getElem hv]; exact h _ (List.getElem_mem hv)
  · rw [List.getElem?_eq_none (by omega)]; decide
theorem abs_ediv {a b : Int} {n : Nat} (hb : 1 ≤ b) (h : a.natAbs ≤ n) : (a / b).natAbs ≤ n / b.toNat + 1 := by
  obtain ⟨m, rfl⟩ := Int.eq_ofNat_of_zero_le (show 0 ≤ b by omega)
  have hm : 0 < m := by omega
  rw [Int.toNat_natCast]
  have h1 := Nat.div_add_mod n m
  have h2 := Nat.mod_lt n hm
  have hle : a ≤ n := by omega
  have hge : -(n : Int) ≤ a := by omega
  have k1 : a / (m : Int) ≤ ((n / m : Nat) : Int) := by
    have := Int.ediv_le_ediv (show (0 : Int) < m by omega) hle
    simpa using this
  have k2 : -(((n / m : Nat) : Int) + 1) ≤ a / (m : Int) := by
    refine (Int.le_ediv_iff_mul_le (show (0 : Int) < m by omega)).2 ?_
    have e1 : -(((n / m : Nat) : Int) + 1) * (m : Int) = -((((n / m + 1) * m : Nat)) : Int) := by push_cast; grind
    have e2 : n ≤ (n / m + 1) * m := by
      have : (n / m + 1) * m = m * (n / m) + m := by grind
      omega
    rw [e1]; omega
  omega
theorem sum_bnd {r : List RV} : ∀ (l : List Pt), (∀ p ∈ l, (valP r p).1.natAbs ≤ bndP p) → (sumV r l).natAbs ≤ bndPs l
  | [], _ => by simp [sumV, bndPs]
  | p :: l, h => by
    have h1 := sum_bnd l fun q hq => h q (by simp [hq])
    have h2 := Nat.mul_le_mul_left p.coef.natAbs (h p (by simp))
    rw [sumV, bndPs]
    have h3 := Int.natAbs_add_le (p.coef * (valP r p).1) (sumV r l)
    rw [Int.natAbs_mul] at h3
    omega
theorem val_bnd {r : List RV} (hr : rowR r) (t : Tm) : vldT t = true → (valT r t).2 = true → (valT r t).1.natAbs ≤ bndT t := by
  induction t using Tm.ind with
  | h t ih =>
    intro hv h2
    have hb := vldT_bok hv
    have hp := valT_ok hb.c h2
    have hs := (smallB_iff.1 (vldT_small hv)).2.2
    have hpb : ∀ p ∈ t.ps, (valP r p).1.natAbs ≤ bndP p := fun p hp' => by
      have hpv := vldP_vok (vld_parts hv p hp')
      have hok := hp p hp'
      rw [valP_eq] at hok ⊢
      rw [bndP_eq]
      by_cases hk : p.kind = 2
      · rw [if_pos hk] at hok ⊢
        obtain ⟨d1, d2, d3⟩ := hpv.dv hk
        rw [if_neg (show ¬ p.kind = 1 by omega), if_pos hk, bndO_eq d2]
        split at hok
        · rename_i h5
          rw [if_pos h5]
          rw [valO_eq d2] at h5 ⊢
          exact abs_ediv d1 (ih p hp' _ (List.getElem_mem d2) d3 h5)
        · cases hok
      · rw [if_neg hk] at hok ⊢
        have ha := atR_ok hr p.var
        unfold valV
        rw [if_neg hk]
        split
        · split <;> simp
        · split
          · exact Nat.le_trans (by simp) ha.2
          · exact ha.1
    have h3 := sum_bnd t.ps hpb
    have h4 := bndT_eq t
    have h5 := Int.natAbs_add_le t.c (sumV r t.ps)
    rw [valT_sum hb.c hp]
    show (w (t.c + sumV r t.ps)).natAbs ≤ _
    rw [w_eq (show -9223372036854775808 ≤ t.c + sumV r t.ps ∧ t.c + sumV r t.ps ≤ 9223372036854775807 by omega)]
    omega
theorem val_small {r : List RV} (hr : rowR r) {t : Tm} (hv : vldT t = true) (h2 : (valT r t).2 = true) : (valT r t).1.natAbs ≤ 2 ^ 60 :=
  Nat.le_trans (val_bnd hr t hv h2) (smallB_iff.1 (vldT_small hv)).2.2
theorem ok_scale {r : List RV} {t : Tm} (hv : vldT t = true) (hs : (scale t (-1)).2 = 0) (h : (valT r (scale t (-1)).1).2 = true) : (valT r t).2 = true := by
  have e : (scale t (-1)).1 = mulT t (-1) := by
    unfold scale at hs ⊢
    rw [if_neg (by decide)] at hs ⊢
    exact congrArg Prod.fst (lim_ok hs).1
  have hv2 := scale_vld hv hs
  have h3 := valT_ok (vldT_bok hv2).c h
  rw [valT_sum (vldT_bok hv).c fun p hp => ?_]
  have := h3 (mulP p (-1)) (by rw [e]; exact List.mem_map.2 ⟨p, hp, rfl⟩)
  rw [valP_mul] at this; exact this
theorem val_neg {r : List RV} (hr : rowR r) {t : Tm} (hv : vldT t = true) (hs : (scale t (-1)).2 = 0) (h : (valT r t).2 = true) : valT r (scale t (-1)).1 = (-(valT r t).1, true) := by
  have hb := val_small hr hv h
  rw [scale_val hv hs h, w_eq (show -9223372036854775808 ≤ (valT r t).1 * -1 ∧ (valT r t).1 * -1 ≤ 9223372036854775807 by omega)]
  exact congrArg (fun x => (x, true)) (by omega)
theorem val_inc {r : List RV} (hr : rowR r) {t : Tm} (hv : vldT t = true) (hs : (add t ⟨1, []⟩).2 = 0) (h : (valT r t).2 = true) : valT r (add t ⟨1, []⟩).1 = ((valT r t).1 + 1, true) := by
  have hb := val_small hr hv h
  have e1 : valT r ⟨1, []⟩ = (1, true) := rfl
  rw [add_val hv (by decide) hs h (by rw [e1]), e1, w_eq (show -9223372036854775808 ≤ (valT r t).1 + 1 ∧ (valT r t).1 + 1 ≤ 9223372036854775807 by omega)]
theorem mrg_nil {t : Tm} (hv : vldT t = true) : ∀ p ∈ t.ps, p ∈ mrg t.ps [] := by
  have h : ∀ l : List Pt, (∀ p ∈ l, vldP p = true) → mrg l [] = l := by
    intro l
    induction l with
    | nil => intro _; rw [mrg]
    | cons p r ih =>
      intro h
      have hc : p.coef ≠ 0 := by
        have := h p (by simp)
        rw [vldP_eq, Bool.and_eq_true] at this
        exact of_decide_eq_true this.1
      rw [mrg, ih fun q hq => h q (by simp [hq])]
      unfold nzc; rw [if_pos hc]
  intro p hp
  rw [h t.ps (vld_parts hv)]; exact hp
abbrev pHB (lt lk : ByteArray → ByteArray → Bool) (r : List RV) (p : PR) : Bool := if p.kn then p.vl else haB lt lk r p.a
theorem cp_opp {op c : Int} (h : 10 ≤ op ∧ op ≤ 15) (h1 : cpB op c = true) (h2 : cpB (opO op) c = true) : False := by
  have : op = 10 ∨ op = 11 ∨ op = 12 ∨ op = 13 ∨ op = 14 ∨ op = 15 := by omega
  rcases this with rfl | rfl | rfl | rfl | rfl | rfl <;> (have h3 := of_decide_eq_true h1; have h4 := of_decide_eq_true h2; omega)
theorem ha_int {lt lk : ByteArray → ByteArray → Bool} {r : List RV} {k : Int} {t : Tm} (h : haB lt lk r (atI k t) = true) (hk : k = 2 ∨ k = 3 ∨ k = 4) : (valT r t).2 = true ∧ (k = 2 → (valT r t).1 ≤ 0) ∧ (k = 3 → (valT r t).1 = 0) ∧ (k = 4 → (valT r t).1 ≠ 0) := by
  unfold haB at h
  rw [if_neg (by show ¬ k = 0; omega), if_neg (by show ¬ k = 1; omega), if_neg (by show ¬ k = 5; omega), if_neg (by show ¬ (k = 6 ∨ k = 7); omega)] at h
  by_cases h2 : k = 2
  · rw [if_pos h2, Bool.and_eq_true] at h
    exact ⟨h.1, fun _ => of_decide_eq_true h.2, fun h3 => by omega, fun h3 => by omega⟩
  · rw [if_neg h2] at h
    by_cases h3 : k = 3
    · rw [if_pos h3, Bool.and_eq_true] at h
      exact ⟨h.1, fun h3 => by omega, fun _ => of_decide_eq_true h.2, fun h3 => by omega⟩
    · rw [if_neg h3, Bool.and_eq_true] at h
      exact ⟨h.1, fun h3 => by omega, fun h3 => by omega, fun _ => of_decide_eq_true h.2⟩
theorem int_says {lt lk : ByteArray → ByteArray → Bool} {r : List RV} (hr : rowR r) {op : Int} {t : Tm} (ho : 10 ≤ op ∧ op ≤ 15) (hv : vldT t = true) (h0 : (intF op t).2 = 0) (h : pHB lt lk r (intF op t).1 = true) :
    (t.ps.length = 0 ∧ cpB op (sgI t.c) = true) ∨ (t.ps.length ≠ 0 ∧ (valT r t).2 = true ∧ cpB op (sgI (valT r t).1) = true) ∨ (t.ps.length ≠ 0 ∧ op = 12 ∧ (valT r (add t ⟨1, []⟩).1).2 = true ∧ (valT r (add t ⟨1, []⟩).1).1 ≤ 0 ∧ (add t ⟨1, []⟩).2 = 0) := by
  have sg : ∀ v : Int, (sgI v = 0 ↔ v = 0) ∧ (sgI v < 0 ↔ v < 0) ∧ (sgI v > 0 ↔ v > 0) := fun v => by unfold sgI; split <;> (try split) <;> omega
  unfold intF at h0 h
  by_cases h1 : t.ps.length = 0
  · rw [if_pos h1] at h; exact .inl ⟨h1, h⟩
  · rw [if_neg h1] at h0 h
    by_cases h2 : op = 10
    · rw [if_pos h2] at h
      have := ha_int (show haB lt lk r (atI 3 t) = true from h) (by omega)
      refine .inr (.inl ⟨h1, this.1, ?_⟩)
      unfold cpB; rw [if_pos h2]; exact decide_eq_true ((sg _).1.2 (this.2.2.1 rfl))
    · rw [if_neg h2] at h0 h
      by_cases h3 : op = 11
      · rw [if_pos h3] at h
        have := ha_int (show haB lt lk r (atI 4 t) = true from h) (by omega)
        refine .inr (.inl ⟨h1, this.1, ?_⟩)
        unfold cpB; rw [if_neg h2, if_pos h3]; exact decide_eq_true (fun e => this.2.2.2 rfl ((sg _).1.1 e))
      · rw [if_neg h3] at h0 h
        by_cases h12 : op = 12
        · rw [if_neg (show ¬ (op = 15 ∨ op = 14) by omega)] at h0 h
          dsimp only at h0 h
          rw [if_neg (by decide), if_pos (show op = 12 ∨ op = 14 by omega)] at h0 h
          split at h0
          · exact absurd h0 (by assumption)
          · rename_i h5
            rw [if_neg h5] at h
            have := ha_int (show haB lt lk r (atI 2 _) = true from h) (by omega)
            exact .inr (.inr ⟨h1, h12, this.1, this.2.1 rfl, Classical.not_not.1 h5⟩)
        · by_cases h13 : op = 13
          · rw [if_neg (show ¬ (op = 15 ∨ op = 14) by omega)] at h0 h
            dsimp only at h0 h
            rw [if_neg (by decide), if_neg (show ¬ (op = 12 ∨ op = 14) by omega)] at h0 h
            dsimp only at h0 h
            rw [if_neg (by decide)] at h0 h
            have := ha_int (show haB lt lk r (atI 2 t) = true from h) (by omega)
            refine .inr (.inl ⟨h1, this.1, ?_⟩)
            have k := this.2.1 rfl
            unfold cpB; rw [if_neg h2, if_neg h3, if_neg h12, if_pos h13]
            exact decide_eq_true (by have := (sg (valT r t).1).2.2; omega)
          · rw [if_pos (show op = 15 ∨ op = 14 by omega)] at h0 h
            dsimp only at h0 h
            split at h0
            · exact absurd h0 (by assumption)
            · rename_i h5
              have hs := Classical.not_not.1 h5
              rw [if_neg h5] at h
              by_cases h14 : op = 14
              · rw [if_pos (show op = 12 ∨ op = 14 by omega)] at h0 h
                split at h0
                · exact absurd h0 (by assumption)
                · rename_i h6
                  have hs2 := Classical.not_not.1 h6
                  rw [if_neg h6] at h
                  have h7 := ha_int (show haB lt lk r (atI 2 _) = true from h) (by omega)
                  have hv2 := scale_vld hv hs
                  have hok : (valT r (scale t (-1)).1).2 = true := by
                    have h8 := valT_ok (vldT_bok (sum_vld hv2 (show vldT ⟨1, []⟩ = true by decide))).c h7.1
                    have e : (add (scale t (-1)).1 ⟨1, []⟩).1 = sumT (scale t (-1)).1 ⟨1, []⟩ := congrArg Prod.fst (lim_ok hs2).1
                    rw [valT_sum (vldT_bok hv2).c fun p hp => h8 p (by rw [show lim (sumT (scale t (-1)).1 ⟨1, []⟩) = add (scale t (-1)).1 ⟨1, []⟩ from rfl, e]; exact mrg_nil hv2 p hp)]
                  have hok2 := ok_scale hv hs hok
                  have e1 := val_neg hr hv hs hok2
                  have e2 := val_inc hr hv2 hs2 hok
                  rw [e2, e1] at h7
                  refine .inr (.inl ⟨h1, hok2, ?_⟩)
                  have k := h7.2.1 rfl
                  unfold cpB; rw [if_neg h2, if_neg h3, if_neg h12, if_neg h13, if_pos h14]
                  exact decide_eq_true (by have := (sg (valT r t).1).2.2; dsimp only at k; omega)
              · rw [if_neg (show ¬ (op = 12 ∨ op = 14) by omega)] at h0 h
                dsimp only at h0 h
                rw [if_neg (by decide)] at h0 h
                have h7 := ha_int (show haB lt lk r (atI 2 _) = true from h) (by omega)
                have hok2 := ok_scale hv hs h7.1
                have e1 := val_neg hr hv hs hok2
                rw [e1] at h7
                refine .inr (.inl ⟨h1, hok2, ?_⟩)
                have k := h7.2.1 rfl
                unfold cpB; rw [if_neg h2, if_neg h3, if_neg h12, if_neg h13, if_neg h14]
                exact decide_eq_true (by have := (sg (valT r t).1).2.1; dsimp only at k; omega)
section
variable {lt lk : ByteArray → ByteArray → Bool} {r : List RV} {l : List Vr}
theorem opO_rng {op : Int} (h : 10 ≤ op ∧ op ≤ 15) : 10 ≤ opO op ∧ opO op ≤ 15 := by unfold opO; split <;> (try split) <;> (try split) <;> (try split) <;> (try split) <;> omega
theorem opO_opO {op : Int} (h : 10 ≤ op ∧ op ≤ 15) : opO (opO op) = op := by
  have : op = 10 ∨ op = 11 ∨ op = 12 ∨ op = 13 ∨ op = 14 ∨ op = 15 := by omega
  rcases this with rfl | rfl | rfl | rfl | rfl | rfl <;> decide
theorem int_opp (hr : rowR r) {op : Int} {t : Tm} (ho : 10 ≤ op ∧ op ≤ 15) (hv : vldT t = true) (h0 : (intF op t).2 = 0) (h1 : (intF (opO op) t).2 = 0) (h2 : pHB lt lk r (intF op t).1 = true) (h3 : pHB lt lk r (intF (opO op) t).1 = true) : False := by
  have ge15 : ∀ v : Int, cpB 15 (sgI v) = true → v ≥ 0 := fun v h => by
    have := of_decide_eq_true h
    unfold sgI at this; split at this <;> (try split at this) <;> omega
  rcases int_says hr ho hv h0 h2 with ⟨a1, a2⟩ | ⟨a1, a2, a3⟩ | ⟨a1, a2, a3, a4, a5⟩
  · rcases int_says hr (opO_rng ho) hv h1 h3 with ⟨b1, b2⟩ | ⟨b1, _⟩ | ⟨b1, _⟩
    · exact cp_opp ho a2 b2
    · exact b1 a1
    · exact b1 a1
  · rcases int_says hr (opO_rng ho) hv h1 h3 with ⟨b1, b2⟩ | ⟨b1, b2, b3⟩ | ⟨b1, b2, b3, b4, b5⟩
    · exact a1 b1
    · exact cp_opp ho a3 b3
    · have e : op = 15 := by have := opO_opO ho; rw [b2] at this; rw [← this]; decide
      subst e
      have := ge15 _ a3
      rw [val_inc hr hv b5 a2] at b4
      dsimp only at b4; omega
  · subst a2
    rcases int_says hr (opO_rng ho) hv h1 h3 with ⟨b1, b2⟩ | ⟨b1, b2, b3⟩ | ⟨b1, b2, _⟩
    · exact a1 b1
    · have := ge15 _ b3
      rw [val_inc hr hv a5 b2] at a4
      dsimp only at a4; omega
    · exact absurd b2 (by decide)
theorem intP_opp (hr : rowR r) {op : Int} {x y : Ex} (ho : 10 ≤ op ∧ op ≤ 15) (hx : inB l x = true) (hy : inB l y = true) (h0 : (intP op x y).2 = 0) (h1 : (intP (opO op) x y).2 = 0) (h2 : pHB lt lk r (intP op x y).1 = true) (h3 : pHB lt lk r (intP (opO op) x y).1 = true) : False := by
  unfold intP at h0 h1 h2 h3
  split at h0
  · exact absurd h0 (by assumption)
  · rename_i k1
    rw [if_neg k1] at h1 h2 h3
    split at h0
    · exact absurd h0 (by assumption)
    · rename_i k2
      rw [if_neg k2] at h1 h2 h3
      split at h0
      · exact absurd h0 (by assumption)
      · rename_i k3
        rw [if_neg k3] at h1 h2 h3
        split at h0
        · exact absurd h0 (by assumption)
        · rename_i k4
          rw [if_neg k4] at h1 h2 h3
          have vx := (ofE_ty x hx (Classical.not_not.1 k1)).2
          have vy := (ofE_ty y hy (Classical.not_not.1 k2)).2
          exact int_opp hr ho (sum_vld vx (scale_vld vy (Classical.not_not.1 k3))) h0 h1 h2 h3
theorem tk_opp {op : Int} (h : 10 ≤ op ∧ op ≤ 15) : tkI (opO op) = tkI op ∧ tnI (opO op) = !tnI op ∧ opR (opO op) = opO (opR op) ∧ 10 ≤ opR op ∧ opR op ≤ 15 := by
  have : op = 10 ∨ op = 11 ∨ op = 12 ∨ op = 13 ∨ op = 14 ∨ op = 15 := by omega
  rcases this with rfl | rfl | rfl | rfl | rfl | rfl <;> decide
theorem ha_test {v tk : Int} {tn : Bool} {s : ByteArray} : haB lt lk r ⟨5, v, 0, tm0, 0, tk, tn, s⟩ = (decide ((atR r v).k = 2) && (psB lt lk tk s (atR r v).s != tn)) := rfl
theorem test_opp {v op : Int} {s : ByteArray} (ho : 10 ≤ op ∧ op ≤ 15) (h : haB lt lk r (atT v op s) = true) (h2 : haB lt lk r (atT v (opO op) s) = true) : False := by
  unfold atT at h h2
  rw [(tk_opp ho).1, (tk_opp ho).2.1] at h2
  rw [ha_test, Bool.and_eq_true] at h h2
  have a := h.2; have b := h2.2
  cases hp : psB lt lk (tkI op) s (atR r v).s <;> cases hn : tnI op <;> rw [hp, hn] at a b <;> simp at a b
theorem txt_opp {op : Int} {x y : Ex} (ho : 10 ≤ op ∧ op ≤ 15) (h : x.op = 1 ∨ y.op = 1 ∨ op = 10 ∨ op = 11) (h2 : pHB lt lk r (txtP lt op x y) = true) (h3 : pHB lt lk r (txtP lt (opO op) x y) = true) : False := by
  unfold txtP at h2 h3
  split at h2
  · rename_i k; rw [if_pos k] at h3; exact cp_opp ho h2 h3
  · rename_i k
    rw [if_neg k] at h3
    split at h2
    · rename_i k2
      rw [if_pos k2] at h3
      rw [(tk_opp ho).2.2.1] at h3
      exact test_opp (tk_opp ho).2.2.2 h2 h3
    · rename_i k2
      rw [if_neg k2] at h3
      split at h2
      · rename_i k3; rw [if_pos k3] at h3; exact test_opp ho h2 h3
      · rename_i k3
        rw [if_neg k3] at h3
        have ho2 : op = 10 ∨ op = 11 := by omega
        split at h2
        · rename_i k4
          rw [if_pos k4] at h3
          have a := of_decide_eq_true (show decide (op = 10) = true from h2)
          have b := of_decide_eq_true (show decide (opO op = 10) = true from h3)
          subst a; exact absurd b (by decide)
        · rename_i k4
          rw [if_neg k4] at h3
          rcases ho2 with rfl | rfl
          · have a : haB lt lk r ⟨6, min x.ix y.ix, max x.ix y.ix, tm0, 0, 0, false, ⟨#[]⟩⟩ = true := h2
            have b : haB lt lk r ⟨7, min x.ix y.ix, max x.ix y.ix, tm0, 0, 0, false, ⟨#[]⟩⟩ = true := h3
            have a' : (decide ((atR r (min x.ix y.ix)).k = 2) && decide ((atR r (max x.ix y.ix)).k = 2) && (decide ((atR r (min x.ix y.ix)).s = (atR r (max x.ix y.ix)).s) == true)) = true := a
            have b' : (decide ((atR r (min x.ix y.ix)).k = 2) && decide ((atR r (max x.ix y.ix)).k = 2) && (decide ((atR r (min x.ix y.ix)).s = (atR r (max x.ix y.ix)).s) == false)) = true := b
            rw [Bool.and_eq_true] at a' b'
            have c := a'.2; have d := b'.2
            cases hq : decide ((atR r (min x.ix y.ix)).s = (atR r (max x.ix y.ix)).s) <;> rw [hq] at c d <;> simp at c d
          · have a : haB lt lk r ⟨7, min x.ix y.ix, max x.ix y.ix, tm0, 0, 0, false, ⟨#[]⟩⟩ = true := h2
            have b : haB lt lk r ⟨6, min x.ix y.ix, max x.ix y.ix, tm0, 0, 0, false, ⟨#[]⟩⟩ = true := h3
            have a' : (decide ((atR r (min x.ix y.ix)).k = 2) && decide ((atR r (max x.ix y.ix)).k = 2) && (decide ((atR r (min x.ix y.ix)).s = (atR r (max x.ix y.ix)).s) == false)) = true := a
            have b' : (decide ((atR r (min x.ix y.ix)).k = 2) && decide ((atR r (max x.ix y.ix)).k = 2) && (decide ((atR r (min x.ix y.ix)).s = (atR r (max x.ix y.ix)).s) == true)) = true := b
            rw [Bool.and_eq_true] at a' b'
            have c := a'.2; have d := b'.2
            cases hq : decide ((atR r (min x.ix y.ix)).s = (atR r (max x.ix y.ix)).s) <;> rw [hq] at c d <;> simp at c d
theorem lk_opp {x y : Ex} (h2 : pHB lt lk r (lkP lk x y true) = true) (h3 : pHB lt lk r (lkP lk x y false) = true) : False := by
  unfold lkP at h2 h3
  split at h2
  · rename_i k
    rw [if_pos k] at h3
    have a := of_decide_eq_true (show decide (lk x.vs y.vs = true) = true from h2)
    have b := of_decide_eq_true (show decide (lk x.vs y.vs = false) = true from h3)
    rw [a] at b; cases b
  · rename_i k
    rw [if_neg k] at h3
    have a : haB lt lk r ⟨5, x.ix, 0, tm0, 0, 1, false, y.vs⟩ = true := h2
    have b : haB lt lk r ⟨5, x.ix, 0, tm0, 0, 1, true, y.vs⟩ = true := h3
    rw [ha_test, Bool.and_eq_true] at a b
    have c := a.2; have d := b.2
    cases hp : psB lt lk 1 y.vs (atR r x.ix).s <;> rw [hp] at c d <;> simp at c d
theorem ho_cst {b : Bool} (h : hoB lt lk r (cst b) = true) : b = true := by
  cases b with
  | true => rfl
  | false =>
    have h' : hoB lt lk r (.mk 1 at0 []) = true := h
    rw [hoB_eq, if_neg (show ¬ (1 : Int) = 0 by decide), if_pos rfl] at h'; cases h'
theorem ho_ls0 {fs : List Fm} (h : hoB lt lk r (lsF 0 fs) = true) : ∀ f ∈ fs, hoB lt lk r f = true := by
  match fs, h with
  | [f], h => intro g hg; rw [List.mem_singleton.1 hg]; exact h
  | [], _ => intro g hg; cases hg
  | a :: b :: s, h =>
    have h' : hoB lt lk r (.mk 0 at0 (a :: b :: s)) = true := h
    rw [hoB_eq, if_pos rfl, List.all_eq_true] at h'
    exact h'
theorem ho_ls1 {fs : List Fm} (h : hoB lt lk r (lsF 1 fs) = true) : ∃ f ∈ fs, hoB lt lk r f = true := by
  match fs, h with
  | [f], h => exact ⟨f, by simp, h⟩
  | [], h =>
    have h' : hoB lt lk r (.mk 1 at0 []) = true := h
    rw [hoB_eq, if_neg (show ¬ (1 : Int) = 0 by decide), if_pos rfl] at h'; cases h'
  | a :: b :: s, h =>
    have h' : hoB lt lk r (.mk 1 at0 (a :: b :: s)) = true := h
    rw [hoB_eq, if_neg (show ¬ (1 : Int) = 0 by decide), if_pos rfl, List.any_eq_true] at h'
    exact h'
theorem ho_at {a : At} : hoB lt lk r (atF a) = haB lt lk r a := by rw [hoB_eq, if_neg (show ¬ (2 : Int) = 0 by decide), if_neg (show ¬ (2 : Int) = 1 by decide)]
theorem ho_cmb {p : PR} {vs : List Int} {m : Int} (hm : m = 0 ∨ m = 1) (h : hoB lt lk r (cmbP p vs m) = true) : pHB lt lk r p = true := by
  unfold cmbP at h
  rw [if_neg (by rcases hm with rfl | rfl <;> decide)] at h
  split at h
  · exact absurd (ho_cst h) (by decide)
  · rename_i k
    split at h
    · rename_i k2
      show (if p.kn = true then p.vl else haB lt lk r p.a) = true
      rw [if_pos k2]
      cases hv : p.vl with
      | true => rfl
      | false => exact absurd (by rw [k2, hv]; rfl) k
    · rename_i k2
      show (if p.kn = true then p.vl else haB lt lk r p.a) = true
      rw [if_neg k2, ← ho_at]
      exact ho_ls0 h _ (by simp)
theorem cmpF_holds {e a b : Ex} {m : Int} (hm : m = 0 ∨ m = 1) (h2 : e.args = [a, b]) (h0 : (cmpF lt lk l e m).2 = 0) (h : hoB lt lk r (cmpF lt lk l e m).1 = true) : nulB e = false ∧ (prtP lt lk l e.op a b m).2 = 0 ∧ pHB lt lk r (prtP lt lk l e.op a b m).1 = true := by
  unfold cmpF at h0 h
  split at h0
  · rename_i k
    rw [if_pos k] at h
    exact absurd (ho_cst h) (by rcases hm with rfl | rfl <;> decide)
  · rename_i k
    rw [if_neg k] at h
    rw [h2] at h0 h
    dsimp only [List.getD_cons_zero, List.getD_cons_succ] at h0 h
    split at h0
    · exact absurd h0 (by assumption)
    · rename_i k2
      rw [if_neg k2] at h
      exact ⟨by simpa using k, Classical.not_not.1 k2, ho_cmb hm h⟩
theorem and_holds0 : ∀ (rs : List (Fm × Int)) (out : List Fm), (andR 0 rs out).2 = 0 → hoB lt lk r (andR 0 rs out).1 = true → (∀ f ∈ out, hoB lt lk r f = true) ∧ ∀ q ∈ rs, q.2 = 0 ∧ hoB lt lk r q.1 = true
  | [], out, _, h => by
    rw [andR, hoB_eq, if_pos rfl, List.all_eq_true] at h
    exact ⟨h, by simp⟩
  | q :: rs, out, h0, h => by
    rw [andR] at h0 h
    split at h0
    · exact absurd h0 (by assumption)
    · rename_i k
      rw [if_neg k] at h
      obtain ⟨h1, h2⟩ := and_holds0 rs _ h0 h
      refine ⟨fun f hf => h1 f (by simp [hf]), fun x hx => ?_⟩
      rcases List.mem_cons.1 hx with rfl | hx
      · exact ⟨Classical.not_not.1 k, h1 _ (by simp)⟩
      · exact h2 x hx
theorem and_holds1 : ∀ (rs : List (Fm × Int)) (out : List Fm), (andR 1 rs out).2 = 0 → hoB lt lk r (andR 1 rs out).1 = true → (∃ f ∈ out, hoB lt lk r f = true) ∨ ∃ q ∈ rs, q.2 = 0 ∧ hoB lt lk r q.1 = true
  | [], out, _, h => by
    rw [andR, hoB_eq, if_neg (show ¬ (1 : Int) = 0 by decide), if_pos rfl, List.any_eq_true] at h
    exact .inl h
  | q :: rs, out, h0, h => by
    rw [andR] at h0 h
    split at h0
    · exact absurd h0 (by assumption)
    · rename_i k
      rw [if_neg k] at h
      rcases and_holds1 rs _ h0 h with ⟨f, hf, h1⟩ | ⟨x, hx, h1⟩
      · rcases List.mem_append.1 hf with hf | hf
        · exact .inl ⟨f, hf, h1⟩
        · rw [List.mem_singleton.1 hf] at h1
          exact .inr ⟨q, by simp, Classical.not_not.1 k, h1⟩
      · exact .inr ⟨x, by simp [hx], h1⟩
theorem and_opp {a b : Ex} (ha : (trE lt lk l a 0).2 = 0 → (trE lt lk l a 1).2 = 0 → hoB lt lk r (trE lt lk l a 0).1 = true → hoB lt lk r (trE lt lk l a 1).1 = true → False)
    (hb : (trE lt lk l b 0).2 = 0 → (trE lt lk l b 1).2 = 0 → hoB lt lk r (trE lt lk l b 0).1 = true → hoB lt lk r (trE lt lk l b 1).1 = true → False) {i j : Int} (hij : (i = 0 ∧ j = 1) ∨ (i = 1 ∧ j = 0))
    (h0 : (andR 0 [trE lt lk l a i, trE lt lk l b i] []).2 = 0) (h1 : (andR 1 [trE lt lk l a j, trE lt lk l b j] []).2 = 0) (h2 : hoB lt lk r (andR 0 [trE lt lk l a i, trE lt lk l b i] []).1 = true) (h3 : hoB lt lk r (andR 1 [trE lt lk l a j, trE lt lk l b j] []).1 = true) : False := by
  have k0 := (and_holds0 _ _ h0 h2).2
  rcases and_holds1 _ _ h1 h3 with ⟨f, hf, _⟩ | ⟨q, hq, hq0, hq1⟩
  · cases hf
  · have ka := k0 _ (List.mem_cons_self)
    have kb := k0 (trE lt lk l b i) (by simp)
    simp only [List.mem_cons, List.not_mem_nil, or_false] at hq
    rcases hij with ⟨rfl, rfl⟩ | ⟨rfl, rfl⟩
    · rcases hq with rfl | rfl
      · exact ha ka.1 hq0 ka.2 hq1
      · exact hb kb.1 hq0 kb.2 hq1
    · rcases hq with rfl | rfl
      · exact ha hq0 ka.1 hq1 ka.2
      · exact hb hq0 kb.1 hq1 kb.2
theorem tr_excl (hr : rowR r) {e : Ex} (h : Cd l e) : (trE lt lk l e 0).2 = 0 → (trE lt lk l e 1).2 = 0 → hoB lt lk r (trE lt lk l e 0).1 = true → hoB lt lk r (trE lt lk l e 1).1 = true → False := by
  induction h with
  | and e a b h h2 ha hb iha ihb =>
    intro h0 h1 k0 k1
    rw [trE_eq, stepT, if_pos h, h2] at h0 h1 k0 k1
    by_cases h18 : e.op = 18
    · rw [if_pos (show decide (e.op = 18) = poM 0 by rw [decide_eq_true h18]; rfl)] at h0 k0
      rw [if_neg (show ¬ decide (e.op = 18) = poM 1 by rw [decide_eq_true h18]; decide)] at h1 k1
      exact and_opp iha ihb (.inl ⟨rfl, rfl⟩) h0 h1 k0 k1
    · rw [if_neg (show ¬ decide (e.op = 18) = poM 0 by rw [decide_eq_false h18]; decide)] at h0 k0
      rw [if_pos (show decide (e.op = 18) = poM 1 by rw [decide_eq_false h18]; rfl)] at h1 k1
      exact and_opp iha ihb (.inr ⟨rfl, rfl⟩) h1 h0 k1 k0
  | not e a h h2 ha ih =>
    intro h0 h1 k0 k1
    rw [trE_eq, stepT, if_neg (by omega), if_pos h, h2] at h0 h1 k0 k1
    exact ih h1 h0 k1 k0
  | isn e a h h2 ha =>
    intro h0 h1 k0 k1
    rw [trE_eq, stepT, if_neg (by omega), if_neg (by omega), if_pos h, h2] at k0 k1
    have k0 : hoB lt lk r (isN a 0) = true := k0
    have k1 : hoB lt lk r (isN a 1) = true := k1
    unfold isN at k0 k1
    split at k0
    · rename_i k; rw [if_pos k] at k1; exact absurd (ho_cst k1) (by decide)
    · rename_i k
      rw [if_neg k, if_neg (by decide)] at k1
      rw [if_pos (by decide)] at k0
      obtain ⟨f, hf, h5⟩ := ho_ls1 k0
      obtain ⟨v, hv, rfl⟩ := List.mem_map.1 hf
      have h6 := ho_ls0 k1 _ (List.mem_map.2 ⟨v, hv, rfl⟩)
      rw [ho_at] at h5 h6
      have h7 := of_decide_eq_true (show decide ((atR r v).k = 0) = true from h5)
      have h8 := of_decide_eq_true (show decide ((atR r v).k ≠ 0) = true from h6)
      exact h8 h7
  | like e a b h h2 ha h3 h4 h5 =>
    intro h0 h1 k0 k1
    rw [trE_eq, stepT, if_neg (by omega), if_neg (by omega), if_neg (by omega), if_neg (by omega)] at h0 h1 k0 k1
    obtain ⟨_, _, p0⟩ := cmpF_holds (.inl rfl) h2 h0 k0
    obtain ⟨_, _, p1⟩ := cmpF_holds (.inr rfl) h2 h1 k1
    rw [prtP, if_pos h] at p0 p1
    exact lk_opp p0 p1
  | cmp e a b h h2 ha hb h3 =>
    intro h0 h1 k0 k1
    rw [trE_eq, stepT, if_neg (by omega), if_neg (by omega), if_neg (by omega), if_neg (by omega)] at h0 h1 k0 k1
    obtain ⟨n0, q0, p0⟩ := cmpF_holds (.inl rfl) h2 h0 k0
    obtain ⟨_, q1, p1⟩ := cmpF_holds (.inr rfl) h2 h1 k1
    obtain ⟨na, nb⟩ := nul2 n0 h2
    rw [prtP, if_neg (by omega)] at q0 q1 p0 p1
    by_cases ht : txB l a = true ∨ txB l b = true
    · rw [if_pos ht] at p0 p1
      rw [if_pos (by decide)] at p0
      rw [if_neg (by decide)] at p1
      refine txt_opp h ?_ p0 p1
      rcases h3 with k | ⟨_, _, k3⟩
      · exact absurd ht (by rintro (j | j); exact k.1 j; exact k.2 j)
      · exact k3
    · rw [if_neg ht] at q0 q1 p0 p1
      rw [if_pos (by decide)] at q0 p0
      rw [if_neg (by decide)] at q1 p1
      have ha' := opd_int ha (fun j => ht (.inl j)) na
      have hb' := opd_int hb (fun j => ht (.inr j)) nb
      exact intP_opp hr h ha'.1 hb'.1 q0 q1 p0 p1
end
theorem ix_vr {l : List Vr} {v : Int} (h : v.toNat < l.length) : (l.map vrT)[v.toNat]? = some (vrT l[v.toNat]) := by rw [List.getElem?_map, List.getElem?_eq_getElem h]; rfl
theorem gd_vr {l : List Vr} {v : Int} (h : v.toNat < l.length) : l.getD v.toNat ⟨0, 0, 0, 0, false⟩ = l[v.toNat] := by rw [List.getD_eq_getElem?_getD, List.getElem?_eq_getElem h]; rfl
theorem dcE {p q : Prop} [Decidable p] [Decidable q] (h : p ↔ q) : decide p = decide q := by simp only [h]
theorem htB_at {l : List Vr} {v k : Int} (h0 : 0 ≤ v) (h : v.toNat < l.length) : htB l v k = decide (l[v.toNat].ty = k) := by
  unfold htB; rw [gd_vr h]; exact dcE ⟨fun h => h.2.2, fun h => ⟨h0, by omega, h⟩⟩
theorem htB_no {l : List Vr} {v k : Int} (h : ¬ (0 ≤ v ∧ v < l.length)) : htB l v k = false := decide_eq_false fun h2 => h ⟨h2.1, h2.2.1⟩
theorem typed_any (v k : Int) (l : List Vr) (z : Nz) (hL : l.length ≤ 17592186044000) : Pure Tryz.prog 91 [iC v, iC k, vsC z l] (.c (bC (htB l v k))) := by
 intro H
 refine Spec.enter Tryz.func91 rfl ?_
 refine AW.wk (Wk.keep 24 [(0, .c (iC v)), (1, .c (iC k)), (2, .c (vsC z l))] [] (H) rfl ⟨rfl, rfl, rfl, trivial⟩ trivial (fun _ _ h => h) rfl) ?_
 refine sR (sB ?_)
 refine sR (sM ?_)
 refine SeqK.q (q_geq rfl rfl rfl) rfl rfl rfl ?_
 refine Z17 ?_ ?_ <;> intro g9
 rotate_left
 ·
  iterate 4 refine oF ?_
  refine Z4 ?_
  refine sM ?_
  iterate 7 refine oF ?_
  refine Z4 ?_
  refine sB ?_
  exact aR (f1 (q := ⟨by first | (rw [hg]; done) | (rw [htB_no (by first | omega | (simp only [List.length_map] at *; omega))]), rfl⟩))
 refine Z14 ?_
 refine Z14 ?_
 refine Z50 Fx.un27 ?_
 refine SeqK.on (q_lss rfl rfl rfl) rfl rfl rfl rfl rfl ?_
 refine Z8 ?_
 refine Z17 ?_ ?_ <;> intro g15
 ·
  have hv : v.toNat < l.length := by rw [List.length_map] at *; omega
  have hg := htB_at (k := k) (l := l) (v := v) (by omega) hv
  refine Z14 ?_
  refine Z14 ?_
  refine Z15 Fx.sl27 (ix_vr hv) ?_
  refine Z31 Fx.fl66_0 ?_
  refine Z19 (.a _) Fx.ty3 ?_
  refine Z14 ?_
  refine Z21 ?_
  refine Z8 ?_
  refine sB ?_
  exact aR (f1 (q := ⟨by first | (rw [hg]; done) | (rw [htB_no (by first | omega | (simp only [List.length_map] at *; omega))]), rfl⟩))
 iterate 7 refine oF ?_
 refine Z4 ?_
 refine sB ?_
 exact aR (f1 (q := ⟨by first | (rw [hg]; done) | (rw [htB_no (by first | omega | (simp only [List.length_map] at *; omega))]), rfl⟩))
abbrev txX (l : List Vr) (e : Ex) : Bool := decide (e.args.length = 0) && txB l e
theorem txX_no {l : List Vr} {e : Ex} (h : ¬ e.args.length = 0) : txX l e = false := by rw [txX, decide_eq_false h]; rfl
theorem txX_col {l : List Vr} {e : Ex} (h : e.args.length = 0) (h2 : e.op = 2) : txX l e = htB l e.ix 2 := by rw [txX, decide_eq_true h, Bool.true_and, txB, if_pos h2]
theorem txX_lit {l : List Vr} {e : Ex} (h : e.args.length = 0) (h2 : ¬ e.op = 2) : txX l e = decide (e.op = 1 ∧ e.vk = 2) := by rw [txX, decide_eq_true h, Bool.true_and, txB, if_neg h2]
theorem text_any (e : Ex) (l : List Vr) (z : Nz) (hL : l.length ≤ 17592186044000) : Pure Tryz.prog 33 [exC e, vsC z l] (.c (bC (txX l e))) := by
 intro H
 refine Spec.enter Tryz.func33 rfl ?_
 refine AW.wk (Wk.keep 40 [(0, .c (exC e)), (1, .c (vsC z l))] [] (H) rfl ⟨rfl, rfl, trivial⟩ trivial (fun _ _ h => h) rfl) ?_
 refine sR (Z20 (r := [_, _, _, _, _, _, _, _]) ?_)
 refine sB ?_
 refine AW.seq (sR (Z1 Fx.fl26_5 ?_))
 refine Z0 Fx.ty24 ?_
 refine Z22 Fx.un24 ?_
 refine Z26 ?_
 refine Z7 ?_
 refine cD ?_ ?_ <;> intro h8
 ·
  refine sR (sB ?_)
  exact aR (f1 (q := ⟨by rw [txX_no (by first | omega | (simp only [List.length_map] at *; omega))], rfl⟩))
 refine AW.skip (AW.seq (sR (Z1 Fx.fl26_0 ?_)))
 refine Z0 Fx.ty3 ?_
 refine Z9 ?_
 refine Z7 ?_
 refine cD ?_ ?_ <;> intro h11
 rotate_left
 ·
  refine AW.skip (sR (Z1 Fx.fl26_0 ?_))
  refine Z0 Fx.ty3 ?_
  refine Z9 ?_
  refine Z17 ?_ ?_ <;> intro g34
  ·
   refine Z5 Fx.fl26_4 ?_
   refine Z5 Fx.fl23_0 ?_
   refine Z3 Fx.ty3 ?_
   refine Z21 ?_
   refine Z8 ?_
   refine sB ?_
   exact aR (f1 (q := ⟨by rw [txX_lit (by simp only [List.length_map] at *; omega : e.args.length = 0) h11]; first | exact bCe (dcE (by omega)) | exact bCe (dF (by omega)), rfl⟩))
  iterate 4 refine oF ?_
  refine Z4 ?_
  refine sB ?_
  exact aR (f1 (q := ⟨by rw [txX_lit (by simp only [List.length_map] at *; omega : e.args.length = 0) h11]; first | exact bCe (dcE (by omega)) | exact bCe (dF (by omega)), rfl⟩))
 refine sR (Z1 Fx.fl26_3 ?_)
 refine Z0 Fx.ty3 ?_
 refine SeqK.q (q_geq rfl rfl rfl) rfl rfl rfl ?_
 refine Z17 ?_ ?_ <;> intro g15
 rotate_left
 ·
  iterate 5 refine oF ?_
  refine Z4 ?_
  refine sM ?_
  iterate 7 refine oF ?_
  refine Z4 ?_
  refine sB ?_
  exact aR (f1 (q := ⟨by rw [txX_col (by simp only [List.length_map] at *; omega : e.args.length = 0) h11]; first | (rw [hg]; done) | (rw [htB_no (by first | omega | (simp only [List.length_map] at *; omega))]), rfl⟩))
 refine Z5 Fx.fl26_3 ?_
 refine Z3 Fx.ty3 ?_
 refine Z14 ?_
 refine Z50 Fx.un27 ?_
 refine SeqK.on (q_lss rfl rfl rfl) rfl rfl rfl rfl rfl ?_
 refine Z8 ?_
 refine Z17 ?_ ?_ <;> intro g22
 ·
  have hv : e.ix.toNat < l.length := by simp only [List.length_map] at *; omega
  have hg := htB_at (k := 2) (l := l) (v := e.ix) (by omega) hv
  refine Z14 ?_
  refine Z5 Fx.fl26_3 ?_
  refine Z3 Fx.ty3 ?_
  refine Z15 Fx.sl27 (ix_vr hv) ?_
  refine Z31 Fx.fl66_0 ?_
  refine Z19 (.a _) Fx.ty3 ?_
  refine Z21 ?_
  refine Z8 ?_
  refine sB ?_
  exact aR (f1 (q := ⟨by rw [txX_col (by simp only [List.length_map] at *; omega : e.args.length = 0) h11]; first | (rw [hg]; done) | (rw [htB_no (by first | omega | (simp only [List.length_map] at *; omega))]), rfl⟩))
 iterate 7 refine oF ?_
 refine Z4 ?_
 refine sB ?_
 exact aR (f1 (q := ⟨by rw [txX_col (by simp only [List.length_map] at *; omega : e.args.length = 0) h11]; first | (rw [hg]; done) | (rw [htB_no (by first | omega | (simp only [List.length_map] at *; omega))]), rfl⟩))
theorem any_take {l : List Ex} {i : Nat} (h : i < l.length) : (l.take (i + 1)).any nulB = ((l.take i).any nulB || nulB l[i]) := by
  rw [List.take_succ_eq_append_getElem h, List.any_append]; simp
theorem null_of (e : Ex) (hl : e.args.length ≤ 1000000000000000000) (ih : ∀ a ∈ e.args, Pure Tryz.prog 34 [exC a] (.c (bC (nulB a)))) : Pure Tryz.prog 34 [exC e] (.c (bC (nulB e))) := by
 intro H
 refine Spec.enter Tryz.func34 rfl ?_
 refine AW.wk (Wk.keep 31 [(0, .c (exC e))] [] (H) rfl ⟨rfl, trivial⟩ trivial (fun _ _ h => h) rfl) ?_
 refine sR (Z20 (r := [_, _, _, _, _, _, _, _]) ?_)
 refine sB ?_
 refine sR (Z1 Fx.fl26_0 ?_)
 refine Z0 Fx.ty3 ?_
 refine Z9 ?_
 refine Z17 ?_ ?_ <;> intro g8
 ·
  refine Z5 Fx.fl26_4 ?_
  refine Z5 Fx.fl23_0 ?_
  refine Z3 Fx.ty3 ?_
  refine Z21 ?_
  refine Z8 ?_
  refine sB ?_
  refine AW.seq (sR (sB ?_))
  refine AW.block ?_
  refine AW.wk (Wk.keep 31 [(1, .lp 1 0), (2, .c (bC false)), (3, .c (bC (decide (e.op = 1 ∧ e.vk = 0) || (e.args.take 0).any nulB))), (4, iX .i64 ((0 : Nat) : Int))] [(1, .box (zEx e))] (H) rfl ⟨rfl, rfl, by first | exact bCe (by simp; omega) | exact bCe (by simp) | exact bCe (by simp [*]), rfl, trivial⟩ ⟨rfl, trivial⟩ (fun _ _ h => h) rfl) ?_
  refine AW.loop (fun (i : Nat) s => (i ≤ e.args.length) ∧ s = ⟨31, sp [(1, .lp 1 0), (2, .c (bC false)), (3, .c (bC (decide (e.op = 1 ∧ e.vk = 0) || (e.args.take i).any nulB))), (4, iX .i64 ((i : Nat) : Int))], lv [(1, .box (zEx e))], H⟩) (fun i => e.args.length - i) 0 ⟨_, by exact Wk.keep 31 _ _ _ rfl ⟨rfl, rfl, rfl, rfl, trivial⟩ ⟨rfl, trivial⟩ (fun _ _ h => h) rfl, Nat.zero_le _, rfl⟩ (fun i s hs => ?_)
  obtain ⟨hi0, rfl⟩ := hs
  refine AW.seq (sR (sM ?_))
  refine Z1 Fx.fl26_5 ?_
  refine Z0 Fx.ty24 ?_
  refine Z22 Fx.un24 ?_
  refine Z30 ?_
  refine Z7 ?_
  refine cD ?_ ?_ <;> intro h18
  ·
   have hi : i < e.args.length := by rw [List.length_map] at h18; omega
   refine AW.skip (AW.seq (AW.block (AW.reg (sM ?_))))
   refine Z36 ?_ ?_ <;> intro g22
   ·
    iterate 6 refine oF ?_
    refine Z8 ?_
    refine sB ?_
    refine AW.reg (sM ?_)
    refine Z13 ?_
    refine sB ?_
    exact ⟨i + 1, _, by exact Wk.keep 31 _ _ _ rfl ⟨rfl, rfl, by rw [any_take hi, ← Bool.or_assoc]; first | (rw [g21]; rfl) | (rw [g22]; rfl) | (simp [*]; done), rfl, trivial⟩ ⟨rfl, trivial⟩ (fun _ _ h => h) rfl, by omega, hi, rfl⟩
   refine Z5 Fx.fl26_5 ?_
   refine Z3 Fx.ty24 ?_
   refine Z14 ?_
   refine Z15 Fx.sl24 (idx_ex hi) ?_
   refine Z19 (.g [_, _, _, _, _, _, _, _]) Fx.ty26 ?_
   refine Z35 Fx.fn34 (ih _ (List.getElem_mem hi)) ?_
   refine Z4 ?_
   refine sB ?_
   refine AW.reg (sM ?_)
   refine Z13 ?_
   refine sB ?_
   exact ⟨i + 1, _, by exact Wk.keep 31 _ _ _ rfl ⟨rfl, rfl, by rw [any_take hi, ← Bool.or_assoc]; first | (rw [g21]; rfl) | (rw [g22]; rfl) | (simp [*]; done), rfl, trivial⟩ ⟨rfl, trivial⟩ (fun _ _ h => h) rfl, by omega, hi, rfl⟩
  refine AW.exit ?_
  refine eth_e ?_
  refine eth_e ?_
  refine exit_here ?_
  refine AW.seq ?_
  have hil : e.args.take i = e.args := List.take_of_length_le (by rw [List.length_map] at h18; omega)
  refine AW.reg (sM ?_)
  refine sB ?_
  exact aR (f1 (q := ⟨by rw [hil, nulB_eq], rfl⟩))
 iterate 4 refine oF ?_
 refine Z4 ?_
 refine sB ?_
 refine AW.seq (sR (sB ?_))
 refine AW.block ?_
 refine AW.wk (Wk.keep 31 [(1, .lp 1 0), (2, .c (bC false)), (3, .c (bC (decide (e.op = 1 ∧ e.vk = 0) || (e.args.take 0).any nulB))), (4, iX .i64 ((0 : Nat) : Int))] [(1, .box (zEx e))] (H) rfl ⟨rfl, rfl, by first | exact bCe (by simp; omega) | exact bCe (by simp) | exact bCe (by simp [*]), rfl, trivial⟩ ⟨rfl, trivial⟩ (fun _ _ h => h) rfl) ?_
 refine AW.loop (fun (i : Nat) s => (i ≤ e.args.length) ∧ s = ⟨31, sp [(1, .lp 1 0), (2, .c (bC false)), (3, .c (bC (decide (e.op = 1 ∧ e.vk = 0) || (e.args.take i).any nulB))), (4, iX .i64 ((i : Nat) : Int))], lv [(1, .box (zEx e))], H⟩) (fun i => e.args.length - i) 0 ⟨_, by exact Wk.keep 31 _ _ _ rfl ⟨rfl, rfl, rfl, rfl, trivial⟩ ⟨rfl, trivial⟩ (fun _ _ h => h) rfl, Nat.zero_le _, rfl⟩ (fun i s hs => ?_)
 obtain ⟨hi0, rfl⟩ := hs
 refine AW.seq (sR (sM ?_))
 refine Z1 Fx.fl26_5 ?_
 refine Z0 Fx.ty24 ?_
 refine Z22 Fx.un24 ?_
 refine Z30 ?_
 refine Z7 ?_
 refine cD ?_ ?_ <;> intro h18
 ·
  have hi : i < e.args.length := by rw [List.length_map] at h18; omega
  refine AW.skip (AW.seq (AW.block (AW.reg (sM ?_))))
  refine Z36 ?_ ?_ <;> intro g22
  ·
   iterate 6 refine oF ?_
   refine Z8 ?_
   refine sB ?_
   refine AW.reg (sM ?_)
   refine Z13 ?_
   refine sB ?_
   exact ⟨i + 1, _, by exact Wk.keep 31 _ _ _ rfl ⟨rfl, rfl, by rw [any_take hi, ← Bool.or_assoc]; first | (rw [g21]; rfl) | (rw [g22]; rfl) | (simp [*]; done), rfl, trivial⟩ ⟨rfl, trivial⟩ (fun _ _ h => h) rfl, by omega, hi, rfl⟩
  refine Z5 Fx.fl26_5 ?_
  refine Z3 Fx.ty24 ?_
  refine Z14 ?_
  refine Z15 Fx.sl24 (idx_ex hi) ?_
  refine Z19 (.g [_, _, _, _, _, _, _, _]) Fx.ty26 ?_
  refine Z35 Fx.fn34 (ih _ (List.getElem_mem hi)) ?_
  refine Z4 ?_
  refine sB ?_
  refine AW.reg (sM ?_)
  refine Z13 ?_
  refine sB ?_
  exact ⟨i + 1, _, by exact Wk.keep 31 _ _ _ rfl ⟨rfl, rfl, by rw [any_take hi, ← Bool.or_assoc]; first | (rw [g21]; rfl) | (rw [g22]; rfl) | (simp [*]; done), rfl, trivial⟩ ⟨rfl, trivial⟩ (fun _ _ h => h) rfl, by omega, hi, rfl⟩
 refine AW.exit ?_
 refine eth_e ?_
 refine eth_e ?_
 refine exit_here ?_
 refine AW.seq ?_
 have hil : e.args.take i = e.args := List.take_of_length_le (by rw [List.length_map] at h18; omega)
 refine AW.reg (sM ?_)
 refine sB ?_
 exact aR (f1 (q := ⟨by rw [hil, nulB_eq], rfl⟩))
theorem null_any (e : Ex) : rgE' e → Pure Tryz.prog 34 [exC e] (.c (bC (nulB e))) := by
  induction e using Ex.ind with
  | h e ih =>
    intro hr
    have h := (rgE_eq e).1 hr
    exact null_of e h.1.2.2.2 fun a ha => ih a ha (h.2 a ha)
theorem part23_0 (x0 : Int) (x1 : Int) (x2 : ByteArray) (w : World) : (part 3 #[.int .i64 x0, .int .i64 x1, .string x2] 0).run Tryz.prog w = .ok (.int .i64 x0) w := by kernel_rfl
theorem part23_1 (x0 : Int) (x1 : Int) (x2 : ByteArray) (w : World) : (part 2 #[.int .i64 x0, .int .i64 x1, .string x2] 1).run Tryz.prog w = .ok (.int .i64 x1) w := by kernel_rfl
theorem part23_2 (x0 : Int) (x1 : Int) (x2 : ByteArray) (w : World) : (part 9 #[.int .i64 x0, .int .i64 x1, .string x2] 2).run Tryz.prog w = .ok (.string x2) w := by kernel_rfl
theorem eq23 (x0 : Int) (x1 : Int) (x2 : ByteArray) (y0 : Int) (y1 : Int) (y2 : ByteArray) (w : World) : (Op.equalIn 10000 23 (.agg #[.int .i64 x0, .int .i64 x1, .string x2]) (.agg #[.int .i64 y0, .int .i64 y1, .string y2])).run Tryz.prog w = .ok (decide (x0 = y0) && decide (x1 = y1) && decide (x2 = y2)) w := by
  have e2 : ∀ (a b : Int), (Op.equalIn 9999 2 (.int .i64 a) (.int .i64 b)).run Tryz.prog w = .ok (a == b) w := fun a b => run_equalIn_int w 9998 2 .i64 .i64 _ _ Tryz.underlying2
  have e3 : ∀ (a b : Int), (Op.equalIn 9999 3 (.int .i64 a) (.int .i64 b)).run Tryz.prog w = .ok (a == b) w := fun a b => run_equalIn_int w 9998 3 .i64 .i64 _ _ Tryz.underlying3
  have e9 : ∀ (a b : ByteArray), (Op.equalIn 9999 9 (.string a) (.string b)).run Tryz.prog w = .ok (a.toList == b.toList) w := fun a b => run_equalIn_string w 9998 9 _ _ Tryz.underlying9
  rw [show (10000 : Nat) = 9999 + 1 from rfl, run_equalIn_agg w 9999 23 _ _ (by kernel_rfl) (by kernel_rfl)]
  simp only [Program.fieldsOf, Tryz.underlying23, Op.eqFields, Sem.run_bind, part23_0, part23_1, part23_2, e2, e3, e9, Result.andThen_ok, eqI, eqBt, eqBo]
  by_cases h0 : x0 = y0 <;> by_cases h1 : x1 = y1 <;> by_cases h2 : x2 = y2 <;> simp [Sem.run_bind, part23_0, part23_1, part23_2, e2, e3, e9, Result.andThen_ok, Result.andThen, eqI, eqBt, eqBo, h0, h1, h2]
def shP : Nat → Ex → Prop
  | 0, _ => False
  | d + 1, e => e.args.length ≤ 2 ∧ ∀ a ∈ e.args, shP d a
theorem nb {P : Prop} {H : Heap} : ∃ b, X.c (bC false) = X.c (bC b) ∧ (b = true → P) ∧ H = H := ⟨false, rfl, fun h => (by cases h), rfl⟩
theorem sh_args {d : Nat} {e : Ex} (h : shP d e) : e.args.length ≤ 2 ∧ ∀ a ∈ e.args, shP (d - 1) a := by
  cases d with
  | zero => exact h.elim
  | succ d => exact h
theorem sh_up {e : Ex} : ∀ {d : Nat}, shP d e → shP (d + 1) e := by
  induction e using Ex.ind with
  | h e ih =>
    intro d h
    cases d with
    | zero => exact h.elim
    | succ d => exact ⟨h.1, fun a ha => ih a ha (h.2 a ha)⟩
theorem pw_pos (d : Nat) : 1 ≤ 2 ^ d := Nat.one_le_two_pow
theorem cnt_sh : ∀ (d : Nat) (e : Ex), shP d e → (ofE e).2 = 0 → (ofE e).1.cnt + 2 ≤ 4 * 2 ^ d
  | 0, e, h, _ => h.elim
  | d + 1, e, h, h0 => by
    have hp := pw_pos d
    rw [Nat.pow_succ]
    have hs := fun a ha => cnt_sh d a (h.2 a ha)
    cases okE_inv h0 with
    | lit h1 h2 h3 h4 => rw [h3]; simp [Tm.cnt, cntPs]; omega
    | col h1 h2 h3 h4 => rw [h3]; simp [Tm.cnt, cntPs, Pt.cnt, cntTs]; omega
    | lenT a h1 h2 h3 h4 h5 => rw [h4]; simp [Tm.cnt, cntPs]; omega
    | lenC a h1 h2 h3 h0' h4 h5 => rw [h4]; simp [Tm.cnt, cntPs, Pt.cnt, cntTs]; omega
    | neg a h1 h2 h3 h4 =>
      have k1 := hs a (by rw [h2]; simp) h3
      have k2 := scale_cnt (ofE a).1 (-1)
      rw [h4]; omega
    | bin a b h1 h2 h3 h4 h5 =>
      have ka := hs a (by rw [h2]; simp) h3
      have kb := hs b (by rw [h2]; simp) h4
      have hc : (comb e.op (ofE a).1 (ofE b).1).2 = 0 := by rw [← h5]; exact h0
      rw [h5]
      have pa := (ofE a).1.cnt_pos
      have pb := (ofE b).1.cnt_pos
      have hadd : ∀ x y : Tm, (W.add x y).1.cnt ≤ x.cnt + y.cnt := fun x y => Nat.le_trans (lim_cnt' (t := sumT x y)) (sum_cnt x y)
      cases comb_inv h1 hc with
      | add k1 k2 => rw [k2]; have := hadd (ofE a).1 (ofE b).1; omega
      | sub k1 k3 k2 => rw [k2]; have := hadd (ofE a).1 (scale (ofE b).1 (-1)).1; have := scale_cnt (ofE b).1 (-1); omega
      | mulL k1 k3 k2 => rw [k2]; have := scale_cnt (ofE b).1 (ofE a).1.c; omega
      | mulR k1 k3 k2 => rw [k2]; have := scale_cnt (ofE a).1 (ofE b).1.c; omega
      | div k1 k3 k4 k5 k2 => rw [k2]; have := div_cnt (ofE a).1 (ofE b).1.c; omega
      | mod k1 k3 k4 k5 k6 k2 =>
        rw [k2]
        have q1 := hadd (ofE a).1 (scale (W.div (ofE a).1 (ofE b).1.c).1 (-(ofE b).1.c)).1
        have q2 := scale_cnt (W.div (ofE a).1 (ofE b).1.c).1 (-(ofE b).1.c)
        have q3 := div_cnt (ofE a).1 (ofE b).1.c
        omega
theorem gd_sh {d : Nat} {e : Ex} (h : shP d e) (hd : d ≤ 12) : gd (ofE e) := fun h0 => by
  refine ⟨(ofE_gd e h0).1, ?_⟩
  have h1 := cnt_sh d e h h0
  have h2 := Nat.pow_le_pow_right (show 0 < 2 by decide) hd
  omega
theorem okE_sh (e : Ex) : ∀ d, rgE' e → shP d e → d ≤ 12 → okE e := by
  induction e using Ex.ind with
  | h e ih =>
    intro d hr h hd
    have hr' := (rgE_eq e).1 hr
    obtain ⟨h1, h2⟩ := sh_args h
    cases e with | mk op tb nm ix vk vn vs args =>
    simp only [okE, okEs_iff]
    simp only [Ex.args] at h1 h2 ih hr'
    refine ⟨⟨hr'.1.2.1, by omega⟩, fun a ha => ?_⟩
    exact ⟨ih a ha (d - 1) (hr'.2 a ha) (h2 a ha) (by omega), gd_sh (h2 a ha) (by omega), ((rgE_eq a).1 (hr'.2 a ha)).1.2.2.1⟩
theorem short_of (e : Ex) (d : Nat) (hd : d ≤ 1000) (hr : e.args.length ≤ 1000000000000000000) (ih : 0 < d → ∀ a ∈ e.args, ∀ H : Heap, E.Spec Tryz.prog 31 [exC a, iC ((d - 1 : Nat) : Int)] H fun x H' => ∃ b, x = .c (bC b) ∧ (b = true → shP (d - 1) a) ∧ H' = H) (H : Heap) : E.Spec Tryz.prog 31 [exC e, iC (d : Int)] H fun x H' => ∃ b, x = .c (bC b) ∧ (b = true → shP d e) ∧ H' = H := by
 refine Spec.enter Tryz.func31 rfl ?_
 refine AW.wk (Wk.keep 30 [(0, .c (exC e)), (1, .c (iC (d : Int)))] [] (H) rfl ⟨rfl, rfl, trivial⟩ trivial (fun _ _ h => h) rfl) ?_
 refine sR (Z20 (r := [_, _, _, _, _, _, _, _]) ?_)
 refine sB ?_
 refine AW.seq (sR (sM ?_))
 refine Z9 ?_
 refine Z17 ?_ ?_ <;> intro g8
 ·
  iterate 4 refine oF ?_
  refine Z8 ?_
  refine Z7 (AW.condT rfl ?_)
  refine sR (sB ?_)
  exact aR (f1 (q := ⟨_, rfl, (fun h => by cases h), rfl⟩))
 refine Z5 Fx.fl26_5 ?_
 refine Z3 Fx.ty24 ?_
 refine Z50 Fx.un24 ?_
 refine SeqK.on (q_gtr rfl rfl rfl) rfl rfl rfl rfl rfl ?_
 refine Z4 ?_
 refine Z7 ?_
 refine cD ?_ ?_ <;> intro h13
 ·
  refine sR (sB ?_)
  exact aR (f1 (q := ⟨_, rfl, (fun h => by cases h), rfl⟩))
 refine AW.skip (AW.seq (sR (sB ?_)))
 refine AW.block ?_
 refine AW.loop (fun (i : Nat) s => (i ≤ e.args.length ∧ ∀ j (h : j < e.args.length), j < i → shP (d - 1) e.args[j]) ∧ s = ⟨30, sp [(1, .c (iC (d : Int))), (2, .lp 2 0), (4, .c (bC false)), (5, iX .i64 ((i : Nat) : Int))], lv [(2, .box (zEx e))], H⟩) (fun i => e.args.length - i) 0 ⟨_, by exact Wk.keep 30 _ _ _ rfl ⟨rfl, rfl, rfl, rfl, trivial⟩ ⟨rfl, trivial⟩ (fun _ _ h => h) rfl, ⟨Nat.zero_le _, up0⟩, rfl⟩ (fun i s hs => ?_)
 obtain ⟨⟨hi0, hU⟩, rfl⟩ := hs
 refine AW.seq (sR (sM ?_))
 refine Z1 Fx.fl26_5 ?_
 refine Z0 Fx.ty24 ?_
 refine Z22 Fx.un24 ?_
 refine Z30 ?_
 refine Z7 ?_
 refine cD ?_ ?_ <;> intro h18
 ·
  have hi : i < e.args.length := by rw [List.length_map] at h18; omega
  refine AW.skip (AW.seq (AW.block (sR (Z1 Fx.fl26_5 ?_))))
  refine Z0 Fx.ty24 ?_
  refine sM ?_
  refine Z24 Fx.sl24 (idx_ex hi) ?_
  refine Z28 (.g [_, _, _, _, _, _, _, _]) Fx.ty26 ?_
  refine sM ?_
  refine SeqK.q (q_sub _ rfl rfl rfl ((by rw [w64 (by omega) (by omega)]; omega : IntKind.i64.wrap _ = ((d - 1 : Nat) : Int)))) rfl rfl rfl ?_
  refine SeqK.callE rfl rfl rfl rfl Fx.fn31 rfl (ih (by omega) _ (List.getElem_mem hi) _) (fun _ _ h => by obtain ⟨b, hb, _⟩ := h; rw [hb]; rfl) (fun x28 H28 q28 => ?_)
  obtain ⟨b28, rfl, q28, hH⟩ := q28
  replace hH := hH.symm
  subst hH
  refine Z49 ?_
  refine Z7 ?_
  refine AW.cond _ rfl (fun h29 => ?_) (fun h29 => ?_)
  ·
   refine sR (sB ?_)
   exact aR (f1 (q := ⟨_, rfl, (fun h => by cases h), rfl⟩))
  refine AW.skip (AW.reg (sM ?_))
  refine Z13 ?_
  refine sB ?_
  exact ⟨i + 1, _, by exact Wk.keep 30 _ _ _ rfl ⟨rfl, rfl, rfl, rfl, trivial⟩ ⟨rfl, trivial⟩ (fun _ _ h => h) rfl, by omega, ⟨hi, upS hi hU (q28 (by simpa using h29))⟩, rfl⟩
 refine AW.exit ?_
 refine eth_e ?_
 refine eth_e ?_
 refine exit_here ?_
 refine sR (sB ?_)
 refine AW.ret ?_
 exact f1 (q := ⟨_, rfl, (fun _ => by
    obtain ⟨m, rfl⟩ : ∃ m, d = m + 1 := ⟨d - 1, by omega⟩
    refine ⟨(by first | omega | (simp only [List.length_map] at *; omega)), fun a ha => ?_⟩
    obtain ⟨j, hj, rfl⟩ := List.mem_iff_getElem.1 ha
    exact upE hU (by first | omega | (simp only [List.length_map] at *; omega)) j hj), rfl⟩)
theorem short_any : ∀ (d : Nat) (e : Ex), rgE' e → d ≤ 1000 → ∀ H : Heap, E.Spec Tryz.prog 31 [exC e, iC (d : Int)] H fun x H' => ∃ b, x = .c (bC b) ∧ (b = true → shP d e) ∧ H' = H
  | 0, e, hr, hd, H => short_of e 0 hd ((rgE_eq e).1 hr).1.2.2.2 (fun h => absurd h (by omega)) H
  | d + 1, e, hr, hd, H => short_of e (d + 1) hd ((rgE_eq e).1 hr).1.2.2.2 (fun _ a ha H => short_any d a (((rgE_eq e).1 hr).2 a ha) (by omega) H) H
end Go.Proofs.YtnnoafgdjjpidaaGreatDoor.W
