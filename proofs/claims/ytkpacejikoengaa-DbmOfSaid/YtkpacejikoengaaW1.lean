import Derived.Test.YtkpacejikoengaaB1
namespace Go.Proofs.Ytkpacejikoengaa.W
open Go.RowKit E M
set_option linter.unusedVariables false
set_option linter.unusedSimpArgs false
theorem xw_new (n : Int) (k0 k1 : Nat) : XW (.c (.g [A.t (.v (.int .i64 n)), litA (.slice none 0 0), .mp k1])) (.c (.g [.t (.v (.int .i64 n)), .ts k0 .ne 3 [], .mp k1])) := ⟨rfl, fun c v h => by
  obtain ⟨us, rfl, h2⟩ := h
  refine ⟨us, rfl, h2.1, fun i x v h3 h4 => ?_⟩
  match i with
  | 0 => exact h2.2 0 _ v h3 h4
  | 1 =>
    have := h2.2 1 (litA (.slice none 0 0)) v rfl h4
    simp at h3
    subst h3
    cases this with | t h => cases h; exact .ts0
  | 2 => exact h2.2 2 _ v h3 h4
  | i + 3 => simp at h3⟩
theorem mat_new {H : Heap} {k0 k1 k n : Nat} (h1 : H k1 = none) (h0 : upd H k1 (some (.map Fx.kk80 [] 0)) k0 = none) (h : upd (upd H k1 (some (.map Fx.kk80 [] 0))) k0 (some (.tip 78 3 0)) k = none) (hn : n ≤ 64) :
    Mat (upd (upd (upd H k1 (some (.map Fx.kk80 [] 0))) k0 (some (.tip 78 3 0))) k (some (.box [.t (.v (.int .i64 (n : Nat))), .ts k0 .ne 3 [], .mp k1]))) k n [] := by
  obtain ⟨n1, g1⟩ := upd_lt h
  obtain ⟨n2, g2⟩ := upd_lt g1
  obtain ⟨n3, g3⟩ := upd_lt h0
  refine ⟨.ne, k0, k1, [], 0, fun _ _ => none, ⟨upd_same _ _ _, by rw [upd_ne _ _ n2.symm, upd_ne _ _ n3.symm, upd_same], .nil, fun _ _ => rfl, fun _ _ b hb => by simp at hb, fun b hb => by simp at hb, hn, Nat.le_refl _⟩, by rw [upd_ne _ _ n1.symm, upd_same]; rfl⟩

set_option maxRecDepth 20000 in
theorem new_any (H : Heap) (n : Int) : E.Spec Try.prog 23 [iC n] H fun x H' => (¬ (0 ≤ n ∧ n ≤ 64) ∧ x = .tup [.a (.t (.v (.pointer none))), iC 1] ∧ H' = H) ∨ (0 ≤ n ∧ n ≤ 64 ∧ ∃ k, x = .tup [.a (.bp k 0), iC 0] ∧ Mat H' k n.toNat [] ∧ ∀ j o, H j = some o → H' j = some o) := by
  refine Spec.enter Try.func23 rfl ?_
  refine AW.wk (Wk.keep 14 [(0, .c (iC n))] [] (H) rfl ⟨rfl, trivial⟩ trivial (fun _ _ h => h) rfl) ?_
  refine AW.seq ?_
  refine AW.reg ?_
  refine SeqK.q (q_asC rfl rfl) rfl rfl rfl ?_
  refine SeqK.q (q_asC rfl rfl) rfl rfl rfl ?_
  refine SeqK.nil ?_
  refine AW.seq ?_
  refine AW.seq ?_
  refine AW.reg ?_
  refine SeqK.q (q_mvC rfl rfl) rfl rfl rfl ?_
  refine SeqK.q (q_lss rfl rfl rfl) rfl rfl rfl ?_
  refine SeqK.qD (q_mvC rfl rfl) rfl rfl rfl (fun g6 => ?_) (fun g6 => ?_)
  ·
    refine SeqK.off rfl rfl rfl rfl rfl rfl ?_
    refine SeqK.off rfl rfl rfl rfl rfl rfl ?_
    refine SeqK.q (q_pkT rfl rfl rfl) rfl rfl rfl ?_
    refine SeqK.nil ?_
    refine AW.condT rfl ?_
    refine AW.seq ?_
    refine AW.reg ?_
    refine SeqK.q (q_asC rfl rfl) rfl rfl rfl ?_
    refine SeqK.q (q_asC rfl rfl) rfl rfl rfl ?_
    refine SeqK.nil ?_
    refine AW.ret ?_
    exact fin_x (x := .tup [_, _]) (H) (.tmp rfl (.tmp rfl .nil)) rfl (fun _ _ h => h) (.inl ⟨by omega, rfl, rfl⟩)
  ·
    refine SeqK.on (q_mvC rfl rfl) rfl rfl rfl rfl rfl ?_
    refine SeqK.on (q_gtr rfl rfl rfl) rfl rfl rfl rfl rfl ?_
    refine SeqK.q (q_pkF rfl rfl rfl) rfl rfl rfl ?_
    refine SeqK.nil ?_
    refine AW.condD rfl (fun h9 => ?_) (fun h9 => ?_)
    ·
      refine AW.seq ?_
      refine AW.reg ?_
      refine SeqK.q (q_asC rfl rfl) rfl rfl rfl ?_
      refine SeqK.q (q_asC rfl rfl) rfl rfl rfl ?_
      refine SeqK.nil ?_
      refine AW.ret ?_
      exact fin_x (x := .tup [_, _]) (H) (.tmp rfl (.tmp rfl .nil)) rfl (fun _ _ h => h) (.inl ⟨by omega, rfl, rfl⟩)
    ·
      refine AW.skip ?_
      refine AW.seq ?_
      refine AW.reg ?_
      refine SeqK.q (q_mvC rfl rfl) rfl rfl rfl ?_
      refine SeqK.newMap Fx.kk80 rfl rfl rfl rfl (fun k11 hk11 => ?_)
      refine SeqK.q (q_build2 (zs := [_, _, _]) (r := [_, _, _]) [(0, 1), (1, 1), (2, 1)] _ rfl Fx.ze73 rfl Fx.bp73 rfl rfl rfl rfl) rfl rfl rfl ?_
      refine SeqK.gh (Gh.add (.tip 78 3 0) rfl) ?_
      rintro s ⟨k0, hk0, rfl⟩
      obtain ⟨m, rfl⟩ : ∃ m : Nat, n = m := ⟨n.toNat, by omega⟩
      refine SeqK.xw 12 rfl (xw_new _ k0 k11) ?_
      refine SeqK.newBox (r := [_, _, _]) rfl rfl rfl rfl rfl rfl (fun k13 hk13 => ?_)
      refine SeqK.q (q_asC rfl rfl) rfl rfl rfl ?_
      refine SeqK.q (q_asC rfl rfl) rfl rfl rfl ?_
      refine SeqK.nil ?_
      refine AW.ret ?_
      exact fin_x (x := .tup [_, _]) (_) (.tmp rfl (.tmp rfl .nil)) rfl (fun _ _ h => h) (.inr ⟨by omega, by omega, k13, rfl, mat_new hk11 hk0 hk13 (by omega), fun j o hj => upd_sub hk13 j o (upd_sub hk0 j o (upd_sub hk11 j o hj))⟩)

set_option maxRecDepth 20000 in
theorem is_any (H : Heap) (k n : Nat) (all : List Bd) (i : Int) (I : MatR H k n all) : E.Spec Try.prog 27 [.a (.bp k 0), iC i] H fun x H' => x = bX (decide (0 ≤ i ∧ i ≤ n)) ∧ H' = H := by
  obtain ⟨z, k3, k1, es, ck, r, I⟩ := I
  have hbox := I.box
  refine Spec.enter Try.func27 rfl ?_
  refine AW.wk (Wk.keep 15 [(0, .c (.a (.bp k 0))), (1, .c (iC i))] [] (H) rfl ⟨rfl, rfl, trivial⟩ trivial (fun _ _ h => h) rfl) ?_
  refine AW.seq ?_
  refine AW.reg ?_
  refine SeqK.q (q_asC rfl rfl) rfl rfl rfl ?_
  refine SeqK.nil ?_
  refine AW.seq ?_
  refine AW.reg ?_
  refine SeqK.q (q_mvC rfl rfl) rfl rfl rfl ?_
  refine SeqK.q (q_geq rfl rfl rfl) rfl rfl rfl ?_
  refine SeqK.qD (q_mvC rfl rfl) rfl rfl rfl (fun g7 => ?_) (fun g7 => ?_)
  ·
    refine SeqK.on (q_mvC rfl rfl) rfl rfl rfl rfl rfl ?_
    refine SeqK.on (q_mvC rfl rfl) rfl rfl rfl rfl rfl ?_
    refine SeqK.on (q_nilH rfl rfl) rfl rfl rfl rfl rfl ?_
    refine SeqK.on (q_fieldH _ rfl Fx.fl73_0 rfl rfl) rfl rfl rfl rfl rfl ?_
    refine SeqK.rOn (g_load (r := .a _) rfl Fx.ty3 rfl (by (repeat rw [upd_ne _ _ (by first | assumption | exact Ne.symm (by assumption))]); first | assumption | exact upd_same _ _ _) rfl rfl rfl rfl) rfl rfl rfl ?_
    refine SeqK.on (q_leq rfl rfl rfl) rfl rfl rfl rfl rfl ?_
    refine SeqK.q (q_pkT rfl rfl rfl) rfl rfl rfl ?_
    refine SeqK.q (q_asC rfl rfl) rfl rfl rfl ?_
    refine SeqK.nil ?_
    refine AW.ret ?_
    exact fin_x (x := .c _) (H) (.tmp rfl .nil) rfl (fun _ _ h => h) (⟨by simp; omega, rfl⟩)
  ·
    refine SeqK.off rfl rfl rfl rfl rfl rfl ?_
    refine SeqK.off rfl rfl rfl rfl rfl rfl ?_
    refine SeqK.off rfl rfl rfl rfl rfl rfl ?_
    refine SeqK.off rfl rfl rfl rfl rfl rfl ?_
    refine SeqK.off rfl rfl rfl rfl rfl rfl ?_
    refine SeqK.off rfl rfl rfl rfl rfl rfl ?_
    refine SeqK.q (q_pkF rfl rfl rfl) rfl rfl rfl ?_
    refine SeqK.q (q_asC rfl rfl) rfl rfl rfl ?_
    refine SeqK.nil ?_
    refine AW.ret ?_
    exact fin_x (x := .c _) (H) (.tmp rfl .nil) rfl (fun _ _ h => h) (⟨by rw [decide_eq_false (by omega)], rfl⟩)

end Go.Proofs.Ytkpacejikoengaa.W
