import Derived.Test.YtojkjiakkcgfcaaW5
namespace Go.Proofs.Ytojkjiakkcgfcaa.W
open Go.RowKit E
set_option linter.unusedVariables false
theorem upd_comm {α : Type} {f : Nat → α} {a b : Nat} {x y : α} (h : a ≠ b) : upd (upd f a x) b y = upd (upd f b y) a x := by
  funext i
  by_cases h1 : i = a
  · subst h1; rw [upd_ne _ _ h, upd_same, upd_same]
  · by_cases h2 : i = b
    · subst h2; rw [upd_same, upd_ne _ _ h1, upd_same]
    · rw [upd_ne _ _ h2, upd_ne _ _ h1, upd_ne _ _ h1, upd_ne _ _ h2]
theorem IdxAt.put2 {H : Heap} {k k1 k2 : Nat} {es1 : List ME} {c1 : Nat} {es2 : List ME} {c2 : Nat} {g : Int → Option Nat} {f : Int → Option Bx} (h : IdxAt H k k1 k2 es1 c1 es2 c2 g f) (id : Int) (b : Bx) (hb : b.ss.length ≠ 0) (hs : b.ss.length ≤ 1000000) (k3 : Nat) (hg : g b.tb = none) (h3 : H k3 = none) (hi0 : ∀ t, inTab f t id = false) :
    IdxAt (upd (upd (upd (upd H k1 (some (.map KI (mset (iv id) (bxC .un b) c1 es1) (mclock (iv id) es1 c1)))) k3 (some (.map KI [] 0))) k2 (some (.map KI (mset (iv b.tb) (.a (.mp k3)) c2 es2) (mclock (iv b.tb) es2 c2)))) k3 (some (.map KI (mset (iv id) yes 0 []) (mclock (iv id) [] 0)))) k k1 k2 (mset (iv id) (bxC .un b) c1 es1) (mclock (iv id) es1 c1) (mset (iv b.tb) (.a (.mp k3)) c2 es2) (mclock (iv b.tb) es2 c2) (fun t => if t = b.tb then some k3 else g t) (fput f id b) := by
  have n31 : k3 ≠ k1 := fun e => by rw [e, h.m1] at h3; cases h3
  have n32 : k3 ≠ k2 := fun e => by rw [e, h.m2] at h3; cases h3
  have := (h.newTab b.tb k3 hg h3).put1 id b hb hs k3 [] 0 (if_pos rfl) (by rw [upd_ne _ _ n32, upd_same]) hi0
  rw [upd_comm (f := H) n31.symm, upd_comm (a := k1) (b := k2) h.n12]
  exact this

set_option maxRecDepth 20000 in
theorem put_any (H : Heap) (k N : Nat) (f : Int → Option Bx) (id : Int) (b : Bx) (z : Nz) (I : Idx H k f N) (hs : b.ss.length ≤ 1000000) : E.Spec Try.prog 18 [.a (.bp k 0), iC id, bxC z b] H fun x H' => x = .tup [] ∧ Idx H' k (fput f id b) ((if (f id).isSome = true then N - 1 else N) + 1) := by
  refine Spec.enter Try.func18 rfl ?_
  refine AW.wk (Wk.keep 46 [(0, .c (.a (.bp k 0))), (1, .c (iC id)), (2, .c (bxC z b))] [] (H) rfl ⟨rfl, rfl, rfl, trivial⟩ trivial (fun _ _ h => h) rfl) ?_
  refine AW.seq ?_
  refine AW.reg ?_
  refine SeqK.r (b_box (r := [_, _]) rfl rfl rfl rfl rfl rfl) rfl ?_
  refine SeqK.nil ?_
  refine AW.seq ?_
  refine AW.reg ?_
  refine SeqK.q (q_mvC rfl rfl) rfl rfl rfl ?_
  refine SeqK.q (q_mvC rfl rfl) rfl rfl rfl ?_
  refine SeqK.callE rfl rfl rfl rfl Fx.fn20 rfl (del_any _ _ _ _ _ I) (fun _ _ h => by rw [h.1]; rfl) (fun x8 H8 q8 => ?_)
  obtain ⟨rfl, I⟩ := q8
  refine SeqK.nil ?_
  refine AW.seq ?_
  obtain ⟨k1, k2, es1, c1, es2, c2, g, I, hN⟩ := I
  have hbox := I.box
  have hm1 := I.m1
  have hm2 := I.m2
  obtain ⟨nk1, nk2⟩ := I.k1
  have n12 := I.n12
  have hf1 : fdel f id id = none := by simp [fdel]
  have hi0 : ∀ t, inTab (fdel f id) t id = false := fun t => by unfold inTab; rw [hf1]
  have hlen : (mset (iv id) (bxC .un b) c1 es1).length = (if (f id).isSome = true then N - 1 else N) + 1 := by rw [mset_length, I.get1, hf1]; show es1.length + 1 = _; rw [hN]
  refine AW.reg ?_
  refine SeqK.q (q_fieldL _ rfl Fx.fl40_1 rfl rfl) rfl rfl rfl ?_
  refine SeqK.r (b_load (r := .a _) rfl Fx.ty38 rfl rfl rfl rfl rfl rfl) rfl ?_
  refine SeqK.q (q_call _ rfl Fx.fn27 rfl (clone_any _ _ (by simp; omega)) rfl) rfl rfl rfl ?_
  refine SeqK.q (q_fieldL _ rfl Fx.fl40_1 rfl rfl) rfl rfl rfl ?_
  refine SeqK.r (b_store (r := [_, _]) rfl rfl Fx.ty38 rfl rfl rfl rfl rfl rfl) rfl ?_
  refine SeqK.nil ?_
  refine AW.seq ?_
  refine AW.draw Fx.mo ?_
  refine LexK.q (q_mvC rfl rfl) rfl rfl rfl ?_
  refine LexK.q (q_nilH rfl rfl) rfl rfl rfl ?_
  refine LexK.q (q_fieldH _ rfl Fx.fl63_0 rfl rfl) rfl rfl rfl ?_
  refine LexK.r (g_load (r := .a _) rfl Fx.ty60 rfl (by (repeat rw [upd_ne _ _ (by first | assumption | exact Ne.symm (by assumption))]); first | assumption | exact upd_same _ _ _) rfl rfl rfl rfl) rfl ?_
  refine LexK.q (q_mvC rfl rfl) rfl rfl rfl ?_
  refine LexK.r (b_load (r := .g [_, _]) rfl Fx.ty40 rfl rfl rfl rfl rfl rfl) rfl ?_
  refine LexK.r (g_mapUpdate (.int Fx.un2) rfl rfl Fx.un60 rfl (by (repeat rw [upd_ne _ _ (by first | assumption | exact Ne.symm (by assumption))]); first | assumption | exact upd_same _ _ _) rfl rfl rfl) rfl ?_
  refine LexK.nil (by kernel_rfl) ?_
  refine AW.seq ?_
  refine AW.seq ?_
  refine AW.reg ?_
  refine SeqK.q (q_fieldL _ rfl Fx.fl40_1 rfl rfl) rfl rfl rfl ?_
  refine SeqK.r (b_load (r := .a _) rfl Fx.ty38 rfl rfl rfl rfl rfl rfl) rfl ?_
  refine SeqK.q (q_len rfl Fx.un38 rfl) rfl rfl rfl ?_
  refine SeqK.q (q_eql rfl rfl rfl) rfl rfl rfl ?_
  refine SeqK.nil ?_
  refine AW.condD rfl (fun h22 => ?_) (fun h22 => ?_)
  ·
    have hb0 : b.ss.length = 0 := by simpa using h22
    refine AW.ret ?_
    exact fin_x (x := .tup []) (_) .nil rfl (fun _ _ h => h) (⟨rfl, by
      have := I.put0 id b hb0 hi0
      rw [fput_fdel] at this
      exact ⟨_, _, _, _, _, _, _, this, hlen⟩⟩)
  ·
    have hb0 : b.ss.length ≠ 0 := by simpa using h22
    refine AW.skip ?_
    refine AW.seq ?_
    refine AW.seq ?_
    rcases hg : g b.tb with _ | k3
    ·
      refine AW.draw Fx.mo ?_
      refine LexK.q (q_mvC rfl rfl) rfl rfl rfl ?_
      refine LexK.q (q_nilH rfl rfl) rfl rfl rfl ?_
      refine LexK.q (q_fieldH _ rfl Fx.fl63_1 rfl rfl) rfl rfl rfl ?_
      refine LexK.r (g_load (r := .a _) rfl Fx.ty61 rfl (by (repeat rw [upd_ne _ _ (by first | assumption | exact Ne.symm (by assumption))]); first | assumption | exact upd_same _ _ _) rfl rfl rfl rfl) rfl ?_
      refine LexK.q (q_fieldL _ rfl Fx.fl40_0 rfl rfl) rfl rfl rfl ?_
      refine LexK.r (b_load (r := .a _) rfl Fx.ty3 rfl rfl rfl rfl rfl rfl) rfl ?_
      refine LexK.r (g_lookup (r := .c (.a _)) (.int Fx.un3) rfl Fx.un61 Fx.ze64 rfl (by (repeat rw [upd_ne _ _ (by first | assumption | exact Ne.symm (by assumption))]); first | assumption | exact upd_same _ _ _) rfl rfl (by rw [I.get2, hg]) rfl rfl rfl) rfl ?_
      refine LexK.q (q_eqlN rfl rfl rfl Fx.nk64) rfl rfl rfl ?_
      refine LexK.nil (by kernel_rfl) ?_
      refine AW.condT rfl ?_
      refine AW.draw Fx.mo ?_
      refine LexK.q (q_mvC rfl rfl) rfl rfl rfl ?_
      refine LexK.q (q_nilH rfl rfl) rfl rfl rfl ?_
      refine LexK.q (q_fieldH _ rfl Fx.fl63_1 rfl rfl) rfl rfl rfl ?_
      refine LexK.r (g_load (r := .a _) rfl Fx.ty61 rfl (by (repeat rw [upd_ne _ _ (by first | assumption | exact Ne.symm (by assumption))]); first | assumption | exact upd_same _ _ _) rfl rfl rfl rfl) rfl ?_
      refine LexK.q (q_fieldL _ rfl Fx.fl40_0 rfl rfl) rfl rfl rfl ?_
      refine LexK.r (b_load (r := .a _) rfl Fx.ty3 rfl rfl rfl rfl rfl rfl) rfl ?_
      refine LexK.r (b_makeMap (.int .i64) rfl rfl rfl rfl) rfl ?_
      refine LexK.last (by kernel_rfl) (by kernel_rfl) ?_
      refine OpW.exp 37 rfl (by intros; intro h; cases h) (fun k3 hk3 => ?_)
      obtain ⟨n31, hk3b⟩ := upd_lt hk3
      have n32 : k3 ≠ k2 := fun e => by rw [e, hm2] at hk3b; cases hk3b
      have n3k : k3 ≠ k := fun e => by rw [e, hbox] at hk3b; cases hk3b
      refine OpW.r (g_mapUpdate (.int Fx.un3) rfl rfl Fx.un61 rfl (by rw [upd_ne _ _ (Ne.symm n32), upd_ne _ _ (Ne.symm n12)]; exact hm2) rfl rfl rfl) rfl ?_
      refine LexK.nil (by kernel_rfl) ?_
      refine AW.draw Fx.mo ?_
      refine LexK.q (q_mvC rfl rfl) rfl rfl rfl ?_
      refine LexK.q (q_nilH rfl rfl) rfl rfl rfl ?_
      refine LexK.q (q_fieldH _ rfl Fx.fl63_1 rfl rfl) rfl rfl rfl ?_
      refine LexK.r (g_load (r := .a _) rfl Fx.ty61 rfl (by (repeat rw [upd_ne _ _ (by first | assumption | exact Ne.symm (by assumption))]); first | assumption | exact upd_same _ _ _) rfl rfl rfl rfl) rfl ?_
      refine LexK.q (q_fieldL _ rfl Fx.fl40_0 rfl rfl) rfl rfl rfl ?_
      refine LexK.r (b_load (r := .a _) rfl Fx.ty3 rfl rfl rfl rfl rfl rfl) rfl ?_
      refine LexK.r (g_lookup (r := .c (.a _)) (.int Fx.un3) rfl Fx.un61 Fx.ze64 rfl (by (repeat rw [upd_ne _ _ (by first | assumption | exact Ne.symm (by assumption))]); first | assumption | exact upd_same _ _ _) rfl rfl (by rw [mget_mset rfl rfl I.ok2.key, keq_iv, decide_eq_true rfl]) rfl rfl rfl) rfl ?_
      refine LexK.q (q_mvC rfl rfl) rfl rfl rfl ?_
      refine LexK.r (g_mapUpdate (.int Fx.un2) rfl rfl Fx.un64 rfl (by (repeat rw [upd_ne _ _ (by first | assumption | exact Ne.symm (by assumption))]); first | assumption | exact upd_same _ _ _) rfl rfl rfl) rfl ?_
      refine LexK.nil (by kernel_rfl) ?_
      exact fin_xN (x := .tup []) (_) .nil rfl (fun _ _ h => h) (⟨rfl, by
        have := I.put2 id b hb0 hs k3 hg hk3b hi0
        rw [fput_fdel] at this
        exact ⟨_, _, _, _, _, _, _, this, hlen⟩⟩)
    ·
      obtain ⟨es3, c3, h3, ok3, get3⟩ := I.tab b.tb k3 hg
      obtain ⟨n31, n32, n3k⟩ := I.gne b.tb k3 hg
      refine AW.draw Fx.mo ?_
      refine LexK.q (q_mvC rfl rfl) rfl rfl rfl ?_
      refine LexK.q (q_nilH rfl rfl) rfl rfl rfl ?_
      refine LexK.q (q_fieldH _ rfl Fx.fl63_1 rfl rfl) rfl rfl rfl ?_
      refine LexK.r (g_load (r := .a _) rfl Fx.ty61 rfl (by (repeat rw [upd_ne _ _ (by first | assumption | exact Ne.symm (by assumption))]); first | assumption | exact upd_same _ _ _) rfl rfl rfl rfl) rfl ?_
      refine LexK.q (q_fieldL _ rfl Fx.fl40_0 rfl rfl) rfl rfl rfl ?_
      refine LexK.r (b_load (r := .a _) rfl Fx.ty3 rfl rfl rfl rfl rfl rfl) rfl ?_
      refine LexK.r (g_lookup (r := .c (.a _)) (.int Fx.un3) rfl Fx.un61 Fx.ze64 rfl (by (repeat rw [upd_ne _ _ (by first | assumption | exact Ne.symm (by assumption))]); first | assumption | exact upd_same _ _ _) rfl rfl (by rw [I.get2, hg]) rfl rfl rfl) rfl ?_
      refine LexK.q (q_eqlN rfl rfl rfl Fx.nk64) rfl rfl rfl ?_
      refine LexK.nil (by kernel_rfl) ?_
      refine AW.condF rfl ?_
      refine AW.skip ?_
      refine AW.draw Fx.mo ?_
      refine LexK.q (q_mvC rfl rfl) rfl rfl rfl ?_
      refine LexK.q (q_nilH rfl rfl) rfl rfl rfl ?_
      refine LexK.q (q_fieldH _ rfl Fx.fl63_1 rfl rfl) rfl rfl rfl ?_
      refine LexK.r (g_load (r := .a _) rfl Fx.ty61 rfl (by (repeat rw [upd_ne _ _ (by first | assumption | exact Ne.symm (by assumption))]); first | assumption | exact upd_same _ _ _) rfl rfl rfl rfl) rfl ?_
      refine LexK.q (q_fieldL _ rfl Fx.fl40_0 rfl rfl) rfl rfl rfl ?_
      refine LexK.r (b_load (r := .a _) rfl Fx.ty3 rfl rfl rfl rfl rfl rfl) rfl ?_
      refine LexK.r (g_lookup (r := .c (.a _)) (.int Fx.un3) rfl Fx.un61 Fx.ze64 rfl (by (repeat rw [upd_ne _ _ (by first | assumption | exact Ne.symm (by assumption))]); first | assumption | exact upd_same _ _ _) rfl rfl (by rw [I.get2, hg]) rfl rfl rfl) rfl ?_
      refine LexK.q (q_mvC rfl rfl) rfl rfl rfl ?_
      refine LexK.r (g_mapUpdate (.int Fx.un2) rfl rfl Fx.un64 rfl (by (repeat rw [upd_ne _ _ (by first | assumption | exact Ne.symm (by assumption))]); first | assumption | exact upd_same _ _ _) rfl rfl rfl) rfl ?_
      refine LexK.nil (by kernel_rfl) ?_
      exact fin_xN (x := .tup []) (_) .nil rfl (fun _ _ h => h) (⟨rfl, by
        have := I.put1 id b hb0 hs k3 es3 c3 hg h3 hi0
        rw [fput_fdel] at this
        exact ⟨_, _, _, _, _, _, _, this, hlen⟩⟩)

end Go.Proofs.Ytojkjiakkcgfcaa.W
