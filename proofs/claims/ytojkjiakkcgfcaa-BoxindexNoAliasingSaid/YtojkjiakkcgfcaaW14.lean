import Derived.Test.YtojkjiakkcgfcaaW13
import Derived.Test.YtojkjiakkcgfcaaE29
namespace Go.Proofs.Ytojkjiakkcgfcaa.W
open Go.RowKit E
set_option linter.unusedVariables false
abbrev rowO (ss : List Sd) : AO := .row 55 6 ((ss.map sdT).flatten.map .t)
theorem rowO_ne {ss : List Sd} (h : ¬ (rowO ss).empty) : ss ≠ [] := fun e => h (by subst e; rfl)
theorem rowO_full {ss : List Sd} (h : ss ≠ []) : ¬ (rowO ss).empty := fun e => by
  match ss, h with
  | s :: r, _ => cases e
theorem six (ss : List Sd) : ∀ e ∈ ss.map sdT, e.length = 6 := fun e he => by obtain ⟨s, _, rfl⟩ := List.mem_map.1 he; rfl

theorem clone_row (ss : List Sd) (H : Heap) (k : Nat) (hk : ss ≠ [] → H k = some (rowO ss)) (hb : ss.length ≤ 1000000) : E.Spec Try.prog 27 [.a (.os k 0 ss.length 6)] H fun x H' => x = .c (.a (.t (.sl .un 6 (ss.map sdT)))) ∧ H' = H := by
  refine Spec.enter Try.func27 rfl ?_
  refine AW.wk (Wk.keep 8 [(0, .c (.a (.os k 0 ss.length 6)))] [] (H) rfl ⟨rfl, trivial⟩ trivial (fun _ _ h => h) rfl) ?_
  refine AW.seq ?_
  refine AW.reg ?_
  refine SeqK.q (q_asC rfl rfl) rfl rfl rfl ?_
  refine SeqK.nil ?_
  refine AW.seq ?_
  refine AW.seq ?_
  refine AW.reg ?_
  refine SeqK.q (q_mvC rfl rfl) rfl rfl rfl ?_
  refine SeqK.eqlNR rfl rfl rfl rfl rfl rfl Fx.nk38 (fun b4 hb4 => ?_)
  refine SeqK.nil ?_
  refine AW.cond _ rfl (fun h4 => ?_) (fun h4 => ?_)
  ·
    obtain rfl : ss = [] := List.eq_nil_of_length_eq_zero (hb4 h4)
    refine AW.seq ?_
    refine AW.reg ?_
    refine SeqK.q (q_asC rfl rfl) rfl rfl rfl ?_
    refine SeqK.nil ?_
    refine AW.xw 2 rfl (XW.nilU (sz := 6)) ?_
    refine AW.ret ?_
    exact fin_x (x := .c _) (H) (.tmp rfl .nil) rfl (fun _ _ h => h) (⟨rfl, rfl⟩)
  ·
    refine AW.skip ?_
    refine AW.seq ?_
    refine AW.reg ?_
    refine SeqK.q (q_build0 rfl Fx.el38) rfl rfl rfl ?_
    refine SeqK.q (q_mvC rfl rfl) rfl rfl rfl ?_
    refine SeqK.r (g_app0R (es := ss.map sdT) rfl rfl Fx.el38 rfl rfl (by simp) (six ss) (fun h => hk (rowO_ne h)) (by simp; omega) rfl) rfl ?_
    refine SeqK.q (q_asC rfl rfl) rfl rfl rfl ?_
    refine SeqK.nil ?_
    refine AW.xw 2 rfl .un ?_
    refine AW.ret ?_
    exact fin_x (x := .c _) (H) (.tmp rfl .nil) rfl (fun _ _ h => h) (⟨rfl, rfl⟩)

theorem put_row (H A B : Heap) (k N : Nat) (f : Int → Option Bx) (id : Int) (b : Bx) (kr : Nat) (PT : Part H A B) (I : Idx A k f N) (hkr : b.ss ≠ [] → B kr = some (rowO b.ss)) (hs : b.ss.length ≤ 1000000) : E.Spec Try.prog 18 [.a (.bp k 0), iC id, .g [.t (.v (.int .i64 b.tb)), .os kr 0 b.ss.length 6]] H fun x H' => x = .tup [] ∧ Idx H' k (fput f id b) ((if (f id).isSome = true then N - 1 else N) + 1) ∧ (b.ss ≠ [] → H' kr = some (rowO b.ss)) := by
  refine Spec.enter Try.func18 rfl ?_
  refine AW.wk (Wk.keep 46 [(0, .c (.a (.bp k 0))), (1, .c (iC id)), (2, .c (.g [.t (.v (.int .i64 b.tb)), .os kr 0 b.ss.length 6]))] [] (H) rfl ⟨rfl, rfl, rfl, trivial⟩ trivial (fun _ _ h => h) rfl) ?_
  refine AW.seq ?_
  refine AW.reg ?_
  refine SeqK.r (b_box (r := [_, _]) rfl rfl rfl rfl rfl rfl) rfl ?_
  refine SeqK.nil ?_
  refine AW.seq ?_
  refine AW.reg ?_
  refine SeqK.q (q_mvC rfl rfl) rfl rfl rfl ?_
  refine SeqK.q (q_mvC rfl rfl) rfl rfl rfl ?_
  refine SeqK.callE rfl rfl rfl rfl Fx.fn20 rfl (E.Spec.frame2 (del_any A _ _ _ _ I) PT) (fun _ _ h => by obtain ⟨_, h, _⟩ := h; rw [h.1]; rfl) (fun x8 H8 q8 => ?_)
  obtain ⟨A2, ⟨rfl, I⟩, PT⟩ := q8
  replace I := I.full.mono (H' := H8) (fun k o h _ => PT.left k o h)
  have hrow : b.ss ≠ [] → H8 kr = some (rowO b.ss) := fun h => PT.sub _ _ (hkr h)
  refine SeqK.nil ?_
  refine AW.seq ?_
  obtain ⟨k1, k2, es1, c1, es2, c2, g, I, hN⟩ := I
  have hbox := I.box
  have hm1 := I.m1
  have hm2 := I.m2
  obtain ⟨nk1, nk2⟩ := I.k1
  have n12 := I.n12
  have hf1 : fdel f id id = none := by simp [fdel]
  have hi0 : ∀ t, inTab (fdel f id) t id = false := fun t => by unfold inTab; rw [hf1]
  have hlen : (mset (iv id) (bxC .un b) c1 es1).length = (if (f id).isSome = true then N - 1 else N) + 1 := by rw [mset_length, I.get1, hf1]; show es1.length + 1 = _; rw [hN]
  refine AW.reg ?_
  refine SeqK.q (q_fieldL _ rfl Fx.fl40_1 rfl rfl) rfl rfl rfl ?_
  refine SeqK.r (b_load (r := .a _) rfl Fx.ty38 rfl rfl rfl rfl rfl rfl) rfl ?_
  refine SeqK.r (g_call rfl Fx.fn27 rfl (clone_row b.ss _ kr hrow hs) rfl rfl rfl) rfl ?_
  refine SeqK.q (q_fieldL _ rfl Fx.fl40_1 rfl rfl) rfl rfl rfl ?_
  refine SeqK.r (b_store (r := [_, _]) rfl rfl Fx.ty38 rfl rfl rfl rfl rfl rfl) rfl ?_
  refine SeqK.nil ?_
  refine AW.seq ?_
  refine AW.draw Fx.mo ?_
  refine LexK.q (q_mvC rfl rfl) rfl rfl rfl ?_
  refine LexK.q (q_nilH rfl rfl) rfl rfl rfl ?_
  refine LexK.q (q_fieldH _ rfl Fx.fl63_0 rfl rfl) rfl rfl rfl ?_
  refine LexK.r (g_load (r := .a _) rfl Fx.ty60 rfl (by (repeat rw [upd_ne _ _ (by first | assumption | exact Ne.symm (by assumption))]); first | assumption | exact upd_same _ _ _) rfl rfl rfl rfl) rfl ?_
  refine LexK.q (q_mvC rfl rfl) rfl rfl rfl ?_
  refine LexK.r (b_load (r := .g [_, _]) rfl Fx.ty40 rfl rfl rfl rfl rfl rfl) rfl ?_
  refine LexK.r (g_mapUpdate (.int Fx.un2) rfl rfl Fx.un60 rfl (by (repeat rw [upd_ne _ _ (by first | assumption | exact Ne.symm (by assumption))]); first | assumption | exact upd_same _ _ _) rfl rfl rfl) rfl ?_
  refine LexK.nil (by kernel_rfl) ?_
  refine AW.seq ?_
  refine AW.seq ?_
  refine AW.reg ?_
  refine SeqK.q (q_fieldL _ rfl Fx.fl40_1 rfl rfl) rfl rfl rfl ?_
  refine SeqK.r (b_load (r := .a _) rfl Fx.ty38 rfl rfl rfl rfl rfl rfl) rfl ?_
  refine SeqK.q (q_len rfl Fx.un38 rfl) rfl rfl rfl ?_
  refine SeqK.q (q_eql rfl rfl rfl) rfl rfl rfl ?_
  refine SeqK.nil ?_
  refine AW.condD rfl (fun h22 => ?_) (fun h22 => ?_)
  ·
    have hb0 : b.ss.length = 0 := by simpa using h22
    refine AW.ret ?_
    exact fin_x (x := .tup []) (_) .nil rfl (fun _ _ h => h) (⟨rfl, (by
      have := I.put0 id b hb0 hi0
      rw [fput_fdel] at this
      exact ⟨_, _, _, _, _, _, _, this, hlen⟩), fun h => absurd (List.eq_nil_of_length_eq_zero hb0) h⟩)
  ·
    have hb0 : b.ss.length ≠ 0 := by simpa using h22
    refine AW.skip ?_
    refine AW.seq ?_
    refine AW.seq ?_
    rcases hg : g b.tb with _ | k3
    ·
      refine AW.draw Fx.mo ?_
      refine LexK.q (q_mvC rfl rfl) rfl rfl rfl ?_
      refine LexK.q (q_nilH rfl rfl) rfl rfl rfl ?_
      refine LexK.q (q_fieldH _ rfl Fx.fl63_1 rfl rfl) rfl rfl rfl ?_
      refine LexK.r (g_load (r := .a _) rfl Fx.ty61 rfl (by (repeat rw [upd_ne _ _ (by first | assumption | exact Ne.symm (by assumption))]); first | assumption | exact upd_same _ _ _) rfl rfl rfl rfl) rfl ?_
      refine LexK.q (q_fieldL _ rfl Fx.fl40_0 rfl rfl) rfl rfl rfl ?_
      refine LexK.r (b_load (r := .a _) rfl Fx.ty3 rfl rfl rfl rfl rfl rfl) rfl ?_
      refine LexK.r (g_lookup (r := .c (.a _)) (.int Fx.un3) rfl Fx.un61 Fx.ze64 rfl (by (repeat rw [upd_ne _ _ (by first | assumption | exact Ne.symm (by assumption))]); first | assumption | exact upd_same _ _ _) rfl rfl (by rw [I.get2, hg]) rfl rfl rfl) rfl ?_
      refine LexK.q (q_eqlN rfl rfl rfl Fx.nk64) rfl rfl rfl ?_
      refine LexK.nil (by kernel_rfl) ?_
      refine AW.condT rfl ?_
      refine AW.draw Fx.mo ?_
      refine LexK.q (q_mvC rfl rfl) rfl rfl rfl ?_
      refine LexK.q (q_nilH rfl rfl) rfl rfl rfl ?_
      refine LexK.q (q_fieldH _ rfl Fx.fl63_1 rfl rfl) rfl rfl rfl ?_
      refine LexK.r (g_load (r := .a _) rfl Fx.ty61 rfl (by (repeat rw [upd_ne _ _ (by first | assumption | exact Ne.symm (by assumption))]); first | assumption | exact upd_same _ _ _) rfl rfl rfl rfl) rfl ?_
      refine LexK.q (q_fieldL _ rfl Fx.fl40_0 rfl rfl) rfl rfl rfl ?_
      refine LexK.r (b_load (r := .a _) rfl Fx.ty3 rfl rfl rfl rfl rfl rfl) rfl ?_
      refine LexK.r (b_makeMap (.int .i64) rfl rfl rfl rfl) rfl ?_
      refine LexK.last (by kernel_rfl) (by kernel_rfl) ?_
      refine OpW.exp 37 rfl (by intros; intro h; cases h) (fun k3 hk3 => ?_)
      obtain ⟨n31, hk3b⟩ := upd_lt hk3
      have n32 : k3 ≠ k2 := fun e => by rw [e, hm2] at hk3b; cases hk3b
      have n3k : k3 ≠ k := fun e => by rw [e, hbox] at hk3b; cases hk3b
      refine OpW.r (g_mapUpdate (.int Fx.un3) rfl rfl Fx.un61 rfl (by rw [upd_ne _ _ (Ne.symm n32), upd_ne _ _ (Ne.symm n12)]; exact hm2) rfl rfl rfl) rfl ?_
      refine LexK.nil (by kernel_rfl) ?_
      refine AW.draw Fx.mo ?_
      refine LexK.q (q_mvC rfl rfl) rfl rfl rfl ?_
      refine LexK.q (q_nilH rfl rfl) rfl rfl rfl ?_
      refine LexK.q (q_fieldH _ rfl Fx.fl63_1 rfl rfl) rfl rfl rfl ?_
      refine LexK.r (g_load (r := .a _) rfl Fx.ty61 rfl (by (repeat rw [upd_ne _ _ (by first | assumption | exact Ne.symm (by assumption))]); first | assumption | exact upd_same _ _ _) rfl rfl rfl rfl) rfl ?_
      refine LexK.q (q_fieldL _ rfl Fx.fl40_0 rfl rfl) rfl rfl rfl ?_
      refine LexK.r (b_load (r := .a _) rfl Fx.ty3 rfl rfl rfl rfl rfl rfl) rfl ?_
      refine LexK.r (g_lookup (r := .c (.a _)) (.int Fx.un3) rfl Fx.un61 Fx.ze64 rfl (by (repeat rw [upd_ne _ _ (by first | assumption | exact Ne.symm (by assumption))]); first | assumption | exact upd_same _ _ _) rfl rfl (by rw [mget_mset rfl rfl I.ok2.key, keq_iv, decide_eq_true rfl]) rfl rfl rfl) rfl ?_
      refine LexK.q (q_mvC rfl rfl) rfl rfl rfl ?_
      refine LexK.r (g_mapUpdate (.int Fx.un2) rfl rfl Fx.un64 rfl (by (repeat rw [upd_ne _ _ (by first | assumption | exact Ne.symm (by assumption))]); first | assumption | exact upd_same _ _ _) rfl rfl rfl) rfl ?_
      refine LexK.nil (by kernel_rfl) ?_
      exact fin_xN (x := .tup []) (_) .nil rfl (fun _ _ h => h) (⟨rfl, (by
        have := I.put2 id b hb0 hs k3 hg hk3b hi0
        rw [fput_fdel] at this
        exact ⟨_, _, _, _, _, _, _, this, hlen⟩), fun h => by
        have n1 : kr ≠ k1 := fun e => by have := hrow h; rw [e, hm1] at this; cases this
        have n2 : kr ≠ k2 := fun e => by have := hrow h; rw [e, hm2] at this; cases this
        have n3 : kr ≠ k3 := fun e => by have := hrow h; rw [e, hk3b] at this; cases this
        show upd (upd (upd (upd _ k1 _) k3 _) k2 _) k3 _ kr = _
        rw [upd_ne _ _ n3, upd_ne _ _ n2, upd_ne _ _ n3, upd_ne _ _ n1]; exact hrow h⟩)
    ·
      obtain ⟨es3, c3, h3, ok3, get3⟩ := I.tab b.tb k3 hg
      obtain ⟨n31, n32, n3k⟩ := I.gne b.tb k3 hg
      refine AW.draw Fx.mo ?_
      refine LexK.q (q_mvC rfl rfl) rfl rfl rfl ?_
      refine LexK.q (q_nilH rfl rfl) rfl rfl rfl ?_
      refine LexK.q (q_fieldH _ rfl Fx.fl63_1 rfl rfl) rfl rfl rfl ?_
      refine LexK.r (g_load (r := .a _) rfl Fx.ty61 rfl (by (repeat rw [upd_ne _ _ (by first | assumption | exact Ne.symm (by assumption))]); first | assumption | exact upd_same _ _ _) rfl rfl rfl rfl) rfl ?_
      refine LexK.q (q_fieldL _ rfl Fx.fl40_0 rfl rfl) rfl rfl rfl ?_
      refine LexK.r (b_load (r := .a _) rfl Fx.ty3 rfl rfl rfl rfl rfl rfl) rfl ?_
      refine LexK.r (g_lookup (r := .c (.a _)) (.int Fx.un3) rfl Fx.un61 Fx.ze64 rfl (by (repeat rw [upd_ne _ _ (by first | assumption | exact Ne.symm (by assumption))]); first | assumption | exact upd_same _ _ _) rfl rfl (by rw [I.get2, hg]) rfl rfl rfl) rfl ?_
      refine LexK.q (q_eqlN rfl rfl rfl Fx.nk64) rfl rfl rfl ?_
      refine LexK.nil (by kernel_rfl) ?_
      refine AW.condF rfl ?_
      refine AW.skip ?_
      refine AW.draw Fx.mo ?_
      refine LexK.q (q_mvC rfl rfl) rfl rfl rfl ?_
      refine LexK.q (q_nilH rfl rfl) rfl rfl rfl ?_
      refine LexK.q (q_fieldH _ rfl Fx.fl63_1 rfl rfl) rfl rfl rfl ?_
      refine LexK.r (g_load (r := .a _) rfl Fx.ty61 rfl (by (repeat rw [upd_ne _ _ (by first | assumption | exact Ne.symm (by assumption))]); first | assumption | exact upd_same _ _ _) rfl rfl rfl rfl) rfl ?_
      refine LexK.q (q_fieldL _ rfl Fx.fl40_0 rfl rfl) rfl rfl rfl ?_
      refine LexK.r (b_load (r := .a _) rfl Fx.ty3 rfl rfl rfl rfl rfl rfl) rfl ?_
      refine LexK.r (g_lookup (r := .c (.a _)) (.int Fx.un3) rfl Fx.un61 Fx.ze64 rfl (by (repeat rw [upd_ne _ _ (by first | assumption | exact Ne.symm (by assumption))]); first | assumption | exact upd_same _ _ _) rfl rfl (by rw [I.get2, hg]) rfl rfl rfl) rfl ?_
      refine LexK.q (q_mvC rfl rfl) rfl rfl rfl ?_
      refine LexK.r (g_mapUpdate (.int Fx.un2) rfl rfl Fx.un64 rfl (by (repeat rw [upd_ne _ _ (by first | assumption | exact Ne.symm (by assumption))]); first | assumption | exact upd_same _ _ _) rfl rfl rfl) rfl ?_
      refine LexK.nil (by kernel_rfl) ?_
      exact fin_xN (x := .tup []) (_) .nil rfl (fun _ _ h => h) (⟨rfl, (by
        have := I.put1 id b hb0 hs k3 es3 c3 hg h3 hi0
        rw [fput_fdel] at this
        exact ⟨_, _, _, _, _, _, _, this, hlen⟩), fun h => by
        have n1 : kr ≠ k1 := fun e => by have := hrow h; rw [e, hm1] at this; cases this
        have n2 : kr ≠ k2 := fun e => by have := hrow h; rw [e, hm2] at this; cases this
        have n3 : kr ≠ k3 := fun e => by have := hrow h; rw [e, h3] at this; cases this
        show upd (upd _ k1 _) k3 _ kr = _
        rw [upd_ne _ _ n3, upd_ne _ _ n1]; exact hrow h⟩)

end Go.Proofs.Ytojkjiakkcgfcaa.W
