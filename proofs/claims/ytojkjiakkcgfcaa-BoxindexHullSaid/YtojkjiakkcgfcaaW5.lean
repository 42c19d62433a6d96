import Derived.Test.YtojkjiakkcgfcaaB2
namespace Go.Proofs.Ytojkjiakkcgfcaa.W
open Go.RowKit E
set_option linter.unusedVariables false
theorem idx_new {H : Heap} {a b c : Nat} (ha : H a = none) (hb : upd H a (some (.map KI [] 0)) b = none) (hc : upd (upd H a (some (.map KI [] 0))) b (some (.map KI [] 0)) c = none) :
    Idx (upd (upd (upd H a (some (.map KI [] 0))) b (some (.map KI [] 0))) c (some (.box [.mp a, .mp b]))) c (fun _ => none) 0 := by
  obtain ⟨n1, h1⟩ := upd_lt hb
  obtain ⟨n2, h2⟩ := upd_lt hc
  obtain ⟨n3, h3⟩ := upd_lt h2
  refine ⟨a, b, [], 0, [], 0, fun _ => none, ⟨upd_same _ _ _, by rw [upd_ne _ _ n3.symm, upd_ne _ _ n1.symm, upd_same], .nil, fun _ => rfl, by rw [upd_ne _ _ n2.symm, upd_same], .nil, fun _ => rfl, n1.symm, fun _ _ h => (by cases h), fun _ _ _ h => (by cases h), fun _ _ h => (by cases h), fun _ _ _ => rfl, fun _ _ h => (by cases h)⟩, rfl⟩

set_option maxRecDepth 20000 in
theorem new_any (H : Heap) : E.Spec Try.prog 17 [] H fun x H' => ∃ c, x = .c (.a (.bp c 0)) ∧ Idx H' c (fun _ => none) 0 ∧ ∀ j o, H j = some o → H' j = some o := by
  refine Spec.enter Try.func17 rfl ?_
  refine AW.wk (Wk.keep 5 [] [] (H) rfl trivial trivial (fun _ _ h => h) rfl) ?_
  refine AW.seq ?_
  refine AW.reg ?_
  refine SeqK.q (q_asC rfl rfl) rfl rfl rfl ?_
  refine SeqK.nil ?_
  refine AW.seq ?_
  refine AW.reg ?_
  refine SeqK.newMap (.int .i64) rfl rfl rfl rfl (fun k1 hk1 => ?_)
  refine SeqK.newMap (.int .i64) rfl rfl rfl rfl (fun k2 hk2 => ?_)
  refine SeqK.q (q_build2 (zs := [_, _]) (r := [_, _]) [(0, 1), (1, 1)] _ rfl Fx.ze63 rfl Fx.bp63 rfl rfl rfl rfl) rfl rfl rfl ?_
  refine SeqK.newBox (r := [_, _]) rfl rfl rfl rfl rfl rfl (fun k4 hk4 => ?_)
  refine SeqK.q (q_asC rfl rfl) rfl rfl rfl ?_
  refine SeqK.nil ?_
  refine AW.ret ?_
  exact fin_x (x := .c _) (_) (.tmp rfl .nil) rfl (fun _ _ h => h) (⟨k4, rfl, idx_new hk1 hk2 hk4, fun j o hj => upd_sub hk4 j o (upd_sub hk2 j o (upd_sub hk1 j o hj))⟩)

set_option maxRecDepth 20000 in
theorem len_any (H : Heap) (k N : Nat) (f : Int → Option Bx) (I : Idx H k f N) : E.Spec Try.prog 12 [.a (.bp k 0)] H fun x H' => x = iX .i64 ((N : Nat) : Int) ∧ H' = H := by
  obtain ⟨k1, k2, es1, c1, es2, c2, g, I, hN⟩ := I
  have hbox := I.box
  have hm1 := I.m1
  have hm2 := I.m2
  refine Spec.enter Try.func12 rfl ?_
  refine AW.wk (Wk.keep 8 [(0, .c (.a (.bp k 0)))] [] (H) rfl ⟨rfl, trivial⟩ trivial (fun _ _ h => h) rfl) ?_
  refine AW.seq ?_
  refine AW.reg ?_
  refine SeqK.q (q_asC rfl rfl) rfl rfl rfl ?_
  refine SeqK.nil ?_
  refine AW.seq ?_
  refine AW.reg ?_
  refine SeqK.q (q_mvC rfl rfl) rfl rfl rfl ?_
  refine SeqK.q (q_nilH rfl rfl) rfl rfl rfl ?_
  refine SeqK.q (q_fieldH _ rfl Fx.fl63_0 rfl rfl) rfl rfl rfl ?_
  refine SeqK.r (g_load (r := .a _) rfl Fx.ty60 rfl (by (repeat rw [upd_ne _ _ (by first | assumption | exact Ne.symm (by assumption))]); first | assumption | exact upd_same _ _ _) rfl rfl rfl rfl) rfl ?_
  refine SeqK.r (g_lenM rfl Fx.un60 rfl (by (repeat rw [upd_ne _ _ (by first | assumption | exact Ne.symm (by assumption))]); first | assumption | exact upd_same _ _ _) rfl rfl) rfl ?_
  refine SeqK.q (q_asC rfl rfl) rfl rfl rfl ?_
  refine SeqK.nil ?_
  refine AW.ret ?_
  exact fin_x (x := .c _) (H) (.tmp rfl .nil) rfl (fun _ _ h => h) (⟨by rw [hN], rfl⟩)

set_option maxRecDepth 20000 in
theorem del_any (H : Heap) (k N : Nat) (f : Int → Option Bx) (id : Int) (I : Idx H k f N) : E.Spec Try.prog 20 [.a (.bp k 0), iC id] H fun x H' => x = bX (f id).isSome ∧ Idx H' k (fdel f id) (if (f id).isSome = true then N - 1 else N) := by
  obtain ⟨k1, k2, es1, c1, es2, c2, g, I, hN⟩ := I
  have hbox := I.box
  have hm1 := I.m1
  have hm2 := I.m2
  obtain ⟨nk1, nk2⟩ := I.k1
  have n12 := I.n12
  refine Spec.enter Try.func20 rfl ?_
  refine AW.wk (Wk.keep 30 [(0, .c (.a (.bp k 0))), (1, .c (iC id))] [] (H) rfl ⟨rfl, rfl, trivial⟩ trivial (fun _ _ h => h) rfl) ?_
  refine AW.seq ?_
  refine AW.reg ?_
  refine SeqK.q (q_asC rfl rfl) rfl rfl rfl ?_
  refine SeqK.nil ?_
  refine AW.seq ?_
  rcases hf : f id with _ | b
  ·
    have hlen : (mdel (iv id) es1).length = N := by rw [mdel_length, I.get1, hf]; exact hN
    refine AW.reg ?_
    refine SeqK.q (q_mvC rfl rfl) rfl rfl rfl ?_
    refine SeqK.q (q_nilH rfl rfl) rfl rfl rfl ?_
    refine SeqK.q (q_fieldH _ rfl Fx.fl63_0 rfl rfl) rfl rfl rfl ?_
    refine SeqK.r (g_load (r := .a _) rfl Fx.ty60 rfl (by (repeat rw [upd_ne _ _ (by first | assumption | exact Ne.symm (by assumption))]); first | assumption | exact upd_same _ _ _) rfl rfl rfl rfl) rfl ?_
    refine SeqK.q (q_mvC rfl rfl) rfl rfl rfl ?_
    refine SeqK.r (g_lookup (r := .tup [.g [_, _], .a (.t (.v (.bool _)))]) (.int Fx.un2) rfl Fx.un60 Fx.ze40 rfl (by (repeat rw [upd_ne _ _ (by first | assumption | exact Ne.symm (by assumption))]); first | assumption | exact upd_same _ _ _) rfl rfl (by rw [I.get1, hf]) rfl rfl rfl) rfl ?_
    refine SeqK.q (q_mvT rfl rfl) rfl rfl rfl ?_
    refine SeqK.q (q_extract _ rfl rfl rfl) rfl rfl rfl ?_
    refine SeqK.q (q_extract _ rfl rfl rfl) rfl rfl rfl ?_
    refine SeqK.r (b_alloc (r := [_, _]) rfl rfl Fx.ze40 rfl rfl rfl rfl) rfl ?_
    refine SeqK.r (b_store (r := [_, _]) rfl rfl Fx.ty40 rfl rfl rfl rfl rfl rfl) rfl ?_
    refine SeqK.q (q_asC rfl rfl) rfl rfl rfl ?_
    refine SeqK.nil ?_
    refine AW.seq ?_
    refine AW.reg ?_
    refine SeqK.q (q_mvC rfl rfl) rfl rfl rfl ?_
    refine SeqK.q (q_nilH rfl rfl) rfl rfl rfl ?_
    refine SeqK.q (q_fieldH _ rfl Fx.fl63_0 rfl rfl) rfl rfl rfl ?_
    refine SeqK.r (g_load (r := .a _) rfl Fx.ty60 rfl (by (repeat rw [upd_ne _ _ (by first | assumption | exact Ne.symm (by assumption))]); first | assumption | exact upd_same _ _ _) rfl rfl rfl rfl) rfl ?_
    refine SeqK.q (q_mvC rfl rfl) rfl rfl rfl ?_
    refine SeqK.r (g_delete (.int Fx.un2) rfl rfl Fx.un60 rfl (by (repeat rw [upd_ne _ _ (by first | assumption | exact Ne.symm (by assumption))]); first | assumption | exact upd_same _ _ _) rfl rfl) rfl ?_
    refine SeqK.nil ?_
    refine AW.seq ?_
    rcases hg : g 0 with _ | k3
    ·
      refine AW.draw Fx.mo ?_
      refine LexK.q (q_mvC rfl rfl) rfl rfl rfl ?_
      refine LexK.q (q_nilH rfl rfl) rfl rfl rfl ?_
      refine LexK.q (q_fieldH _ rfl Fx.fl63_1 rfl rfl) rfl rfl rfl ?_
      refine LexK.r (g_load (r := .a _) rfl Fx.ty61 rfl (by (repeat rw [upd_ne _ _ (by first | assumption | exact Ne.symm (by assumption))]); first | assumption | exact upd_same _ _ _) rfl rfl rfl rfl) rfl ?_
      refine LexK.q (q_fieldL _ rfl Fx.fl40_0 rfl rfl) rfl rfl rfl ?_
      refine LexK.r (b_load (r := .a _) rfl Fx.ty3 rfl rfl rfl rfl rfl rfl) rfl ?_
      refine LexK.r (g_lookup (r := .c (.a _)) (.int Fx.un3) rfl Fx.un61 Fx.ze64 rfl (by (repeat rw [upd_ne _ _ (by first | assumption | exact Ne.symm (by assumption))]); first | assumption | exact upd_same _ _ _) rfl rfl (by rw [I.get2, hg]) rfl rfl rfl) rfl ?_
      refine LexK.q (q_mvC rfl rfl) rfl rfl rfl ?_
      refine LexK.q0 (q_deleteN (.int Fx.un2) rfl Fx.un64 rfl rfl rfl) rfl rfl ?_
      refine LexK.nil (by kernel_rfl) ?_
      refine AW.seq ?_
      refine AW.reg ?_
      refine SeqK.q (q_mvC rfl rfl) rfl rfl rfl ?_
      refine SeqK.q (q_asC rfl rfl) rfl rfl rfl ?_
      refine SeqK.nil ?_
      refine AW.ret ?_
      exact fin_x (x := .c _) (_) (.tmp rfl .nil) rfl (fun _ _ h => h) (⟨rfl, ⟨_, _, _, _, _, _, _, I.del0 id (fun t => by unfold inTab; rw [hf]), hlen⟩⟩)
    ·
      obtain ⟨es3, c3, h3, ok3, get3⟩ := I.tab 0 k3 hg
      obtain ⟨n31, n32, n3k⟩ := I.gne 0 k3 hg
      refine AW.draw Fx.mo ?_
      refine LexK.q (q_mvC rfl rfl) rfl rfl rfl ?_
      refine LexK.q (q_nilH rfl rfl) rfl rfl rfl ?_
      refine LexK.q (q_fieldH _ rfl Fx.fl63_1 rfl rfl) rfl rfl rfl ?_
      refine LexK.r (g_load (r := .a _) rfl Fx.ty61 rfl (by (repeat rw [upd_ne _ _ (by first | assumption | exact Ne.symm (by assumption))]); first | assumption | exact upd_same _ _ _) rfl rfl rfl rfl) rfl ?_
      refine LexK.q (q_fieldL _ rfl Fx.fl40_0 rfl rfl) rfl rfl rfl ?_
      refine LexK.r (b_load (r := .a _) rfl Fx.ty3 rfl rfl rfl rfl rfl rfl) rfl ?_
      refine LexK.r (g_lookup (r := .c (.a _)) (.int Fx.un3) rfl Fx.un61 Fx.ze64 rfl (by (repeat rw [upd_ne _ _ (by first | assumption | exact Ne.symm (by assumption))]); first | assumption | exact upd_same _ _ _) rfl rfl (by rw [I.get2, hg]) rfl rfl rfl) rfl ?_
      refine LexK.q (q_mvC rfl rfl) rfl rfl rfl ?_
      refine LexK.r (g_delete (.int Fx.un2) rfl rfl Fx.un64 rfl (by (repeat rw [upd_ne _ _ (by first | assumption | exact Ne.symm (by assumption))]); first | assumption | exact upd_same _ _ _) rfl rfl) rfl ?_
      refine LexK.nil (by kernel_rfl) ?_
      refine AW.seq ?_
      refine AW.reg ?_
      refine SeqK.q (q_mvC rfl rfl) rfl rfl rfl ?_
      refine SeqK.q (q_asC rfl rfl) rfl rfl rfl ?_
      refine SeqK.nil ?_
      refine AW.ret ?_
      exact fin_x (x := .c _) (_) (.tmp rfl .nil) rfl (fun _ _ h => h) (⟨rfl, ⟨_, _, _, _, _, _, _, I.del1 id 0 k3 es3 c3 hg h3 (fun t _ => by unfold inTab; rw [hf]), hlen⟩⟩)
  ·
    have hlen : (mdel (iv id) es1).length = N - 1 := by rw [mdel_length, I.get1, hf]; show es1.length - 1 = _; rw [hN]
    have hit : ∀ t, t ≠ b.tb → inTab f t id = false := fun t ht => by unfold inTab; rw [hf]; simp [Ne.symm ht]
    refine AW.reg ?_
    refine SeqK.q (q_mvC rfl rfl) rfl rfl rfl ?_
    refine SeqK.q (q_nilH rfl rfl) rfl rfl rfl ?_
    refine SeqK.q (q_fieldH _ rfl Fx.fl63_0 rfl rfl) rfl rfl rfl ?_
    refine SeqK.r (g_load (r := .a _) rfl Fx.ty60 rfl (by (repeat rw [upd_ne _ _ (by first | assumption | exact Ne.symm (by assumption))]); first | assumption | exact upd_same _ _ _) rfl rfl rfl rfl) rfl ?_
    refine SeqK.q (q_mvC rfl rfl) rfl rfl rfl ?_
    refine SeqK.r (g_lookup (r := .tup [.g [_, _], .a (.t (.v (.bool _)))]) (.int Fx.un2) rfl Fx.un60 Fx.ze40 rfl (by (repeat rw [upd_ne _ _ (by first | assumption | exact Ne.symm (by assumption))]); first | assumption | exact upd_same _ _ _) rfl rfl (by rw [I.get1, hf]) rfl rfl rfl) rfl ?_
    refine SeqK.q (q_mvT rfl rfl) rfl rfl rfl ?_
    refine SeqK.q (q_extract _ rfl rfl rfl) rfl rfl rfl ?_
    refine SeqK.q (q_extract _ rfl rfl rfl) rfl rfl rfl ?_
    refine SeqK.r (b_alloc (r := [_, _]) rfl rfl Fx.ze40 rfl rfl rfl rfl) rfl ?_
    refine SeqK.r (b_store (r := [_, _]) rfl rfl Fx.ty40 rfl rfl rfl rfl rfl rfl) rfl ?_
    refine SeqK.q (q_asC rfl rfl) rfl rfl rfl ?_
    refine SeqK.nil ?_
    refine AW.seq ?_
    refine AW.reg ?_
    refine SeqK.q (q_mvC rfl rfl) rfl rfl rfl ?_
    refine SeqK.q (q_nilH rfl rfl) rfl rfl rfl ?_
    refine SeqK.q (q_fieldH _ rfl Fx.fl63_0 rfl rfl) rfl rfl rfl ?_
    refine SeqK.r (g_load (r := .a _) rfl Fx.ty60 rfl (by (repeat rw [upd_ne _ _ (by first | assumption | exact Ne.symm (by assumption))]); first | assumption | exact upd_same _ _ _) rfl rfl rfl rfl) rfl ?_
    refine SeqK.q (q_mvC rfl rfl) rfl rfl rfl ?_
    refine SeqK.r (g_delete (.int Fx.un2) rfl rfl Fx.un60 rfl (by (repeat rw [upd_ne _ _ (by first | assumption | exact Ne.symm (by assumption))]); first | assumption | exact upd_same _ _ _) rfl rfl) rfl ?_
    refine SeqK.nil ?_
    refine AW.seq ?_
    rcases hg : g b.tb with _ | k3
    ·
      refine AW.draw Fx.mo ?_
      refine LexK.q (q_mvC rfl rfl) rfl rfl rfl ?_
      refine LexK.q (q_nilH rfl rfl) rfl rfl rfl ?_
      refine LexK.q (q_fieldH _ rfl Fx.fl63_1 rfl rfl) rfl rfl rfl ?_
      refine LexK.r (g_load (r := .a _) rfl Fx.ty61 rfl (by (repeat rw [upd_ne _ _ (by first | assumption | exact Ne.symm (by assumption))]); first | assumption | exact upd_same _ _ _) rfl rfl rfl rfl) rfl ?_
      refine LexK.q (q_fieldL _ rfl Fx.fl40_0 rfl rfl) rfl rfl rfl ?_
      refine LexK.r (b_load (r := .a _) rfl Fx.ty3 rfl rfl rfl rfl rfl rfl) rfl ?_
      refine LexK.r (g_lookup (r := .c (.a _)) (.int Fx.un3) rfl Fx.un61 Fx.ze64 rfl (by (repeat rw [upd_ne _ _ (by first | assumption | exact Ne.symm (by assumption))]); first | assumption | exact upd_same _ _ _) rfl rfl (by rw [I.get2, hg]) rfl rfl rfl) rfl ?_
      refine LexK.q (q_mvC rfl rfl) rfl rfl rfl ?_
      refine LexK.q0 (q_deleteN (.int Fx.un2) rfl Fx.un64 rfl rfl rfl) rfl rfl ?_
      refine LexK.nil (by kernel_rfl) ?_
      refine AW.seq ?_
      refine AW.reg ?_
      refine SeqK.q (q_mvC rfl rfl) rfl rfl rfl ?_
      refine SeqK.q (q_asC rfl rfl) rfl rfl rfl ?_
      refine SeqK.nil ?_
      refine AW.ret ?_
      exact fin_x (x := .c _) (_) (.tmp rfl .nil) rfl (fun _ _ h => h) (⟨rfl, ⟨_, _, _, _, _, _, _, I.del0 id (fun t => by
        by_cases ht : t = b.tb
        · rw [ht]; exact I.no _ hg id
        · exact hit t ht), hlen⟩⟩)
    ·
      obtain ⟨es3, c3, h3, ok3, get3⟩ := I.tab b.tb k3 hg
      obtain ⟨n31, n32, n3k⟩ := I.gne b.tb k3 hg
      refine AW.draw Fx.mo ?_
      refine LexK.q (q_mvC rfl rfl) rfl rfl rfl ?_
      refine LexK.q (q_nilH rfl rfl) rfl rfl rfl ?_
      refine LexK.q (q_fieldH _ rfl Fx.fl63_1 rfl rfl) rfl rfl rfl ?_
      refine LexK.r (g_load (r := .a _) rfl Fx.ty61 rfl (by (repeat rw [upd_ne _ _ (by first | assumption | exact Ne.symm (by assumption))]); first | assumption | exact upd_same _ _ _) rfl rfl rfl rfl) rfl ?_
      refine LexK.q (q_fieldL _ rfl Fx.fl40_0 rfl rfl) rfl rfl rfl ?_
      refine LexK.r (b_load (r := .a _) rfl Fx.ty3 rfl rfl rfl rfl rfl rfl) rfl ?_
      refine LexK.r (g_lookup (r := .c (.a _)) (.int Fx.un3) rfl Fx.un61 Fx.ze64 rfl (by (repeat rw [upd_ne _ _ (by first | assumption | exact Ne.symm (by assumption))]); first | assumption | exact upd_same _ _ _) rfl rfl (by rw [I.get2, hg]) rfl rfl rfl) rfl ?_
      refine LexK.q (q_mvC rfl rfl) rfl rfl rfl ?_
      refine LexK.r (g_delete (.int Fx.un2) rfl rfl Fx.un64 rfl (by (repeat rw [upd_ne _ _ (by first | assumption | exact Ne.symm (by assumption))]); first | assumption | exact upd_same _ _ _) rfl rfl) rfl ?_
      refine LexK.nil (by kernel_rfl) ?_
      refine AW.seq ?_
      refine AW.reg ?_
      refine SeqK.q (q_mvC rfl rfl) rfl rfl rfl ?_
      refine SeqK.q (q_asC rfl rfl) rfl rfl rfl ?_
      refine SeqK.nil ?_
      refine AW.ret ?_
      exact fin_x (x := .c _) (_) (.tmp rfl .nil) rfl (fun _ _ h => h) (⟨rfl, ⟨_, _, _, _, _, _, _, I.del1 id b.tb k3 es3 c3 hg h3 hit, hlen⟩⟩)

end Go.Proofs.Ytojkjiakkcgfcaa.W
