import Derived.Test.YtojkjiakkcgfcaaW11
import Derived.Test.YtojkjiakkcgfcaaE28
namespace Go.Proofs.Ytojkjiakkcgfcaa.W
open Go.RowKit E
set_option linter.unusedVariables false
theorem IdxAt.mono' {H H' : Heap} {k k1 k2 : Nat} {es1 : List ME} {c1 : Nat} {es2 : List ME} {c2 : Nat} {g : Int → Option Nat} {f : Int → Option Bx} (h : IdxAt H k k1 k2 es1 c1 es2 c2 g f) (hs : ∀ k o, H k = some o → ¬ o.empty → (∀ e sz cs, o ≠ .row e sz cs) → H' k = some o) : IdxAt H' k k1 k2 es1 c1 es2 c2 g f :=
  ⟨hs _ _ h.box (fun e => e) (fun _ _ _ e => by cases e), hs _ _ h.m1 (fun e => e) (fun _ _ _ e => by cases e), h.ok1, h.get1, hs _ _ h.m2 (fun e => e) (fun _ _ _ e => by cases e), h.ok2, h.get2, h.n12, h.gne, h.ginj, fun t k3 hk => by
    obtain ⟨es3, c3, h1, h2, h3⟩ := h.tab t k3 hk
    exact ⟨es3, c3, hs _ _ h1 (fun e => e) (fun _ _ _ e => by cases e), h2, h3⟩, h.no, h.ss⟩
theorem Idx.mono' {H H' : Heap} {k N : Nat} {f : Int → Option Bx} (h : Idx H k f N) (hs : ∀ k o, H k = some o → ¬ o.empty → (∀ e sz cs, o ≠ .row e sz cs) → H' k = some o) : Idx H' k f N := by
  obtain ⟨k1, k2, es1, c1, es2, c2, g, h, hN⟩ := h
  exact ⟨k1, k2, es1, c1, es2, c2, g, h.mono' hs, hN⟩
theorem Idx.mono {H H' : Heap} {k N : Nat} {f : Int → Option Bx} (h : Idx H k f N) (hs : ∀ k o, H k = some o → ¬ o.empty → H' k = some o) : Idx H' k f N := h.mono' fun k o h1 h2 _ => hs k o h1 h2
theorem Idx.turn {H : Heap} {k N kr : Nat} {f : Int → Option Bx} {e sz : Nat} {cs : List A} {o : Option AO} (h : Idx H k f N) (hr : H kr = some (.row e sz cs)) : Idx (upd H kr o) k f N := h.mono' fun j x h1 _ h3 => by
  by_cases hj : j = kr
  · subst hj; rw [hr] at h1; injection h1 with h1; exact absurd h1.symm (h3 e sz cs)
  · rw [upd_ne _ _ hj]; exact h1
theorem Idx.fresh {H : Heap} {k N kr : Nat} {f : Int → Option Bx} {o : Option AO} (h : Idx H k f N) (hr : H kr = none) : Idx (upd H kr o) k f N := h.mono' fun j x h1 _ h3 => by
  by_cases hj : j = kr
  · subst hj; rw [hr] at h1; cases h1
  · rw [upd_ne _ _ hj]; exact h1
theorem Idx.full {H : Heap} {k N : Nat} {f : Int → Option Bx} (h : Idx H k f N) : Idx (full H) k f N := h.mono fun k o h1 h2 => full_some.2 ⟨h1, h2⟩
theorem idx_map1 {α : Type} {f : α → List T} {l : List α} {j : Nat} (h : j < l.length) : (l.map f)[(((j + 1 : Nat) : Int) - 1).toNat]? = some (f l[j]) := by
  have e : (((j + 1 : Nat) : Int) - 1).toNat = j := by omega
  rw [e]; simp [h]
theorem ins_front {id : Int} {b : Bx} : ∀ {l : List (Int × Bx)}, (∀ p ∈ l, id < p.1) → ins id b l = (id, b) :: l
  | [], _ => rfl
  | y :: l, h => by simp [ins, h y (by simp)]
theorem refPut_front {id : Int} {b : Bx} {l : List (Int × Bx)} (h : ((id, b) :: l).Pairwise fun p q => p.1 < q.1) : refPut l id b = (id, b) :: l := by
  have h1 := (List.pairwise_cons.1 h).1
  have h2 : refDel l id = l := List.filter_eq_self.2 fun p hp => by have := h1 p hp; simp; omega
  unfold refPut
  rw [h2, ins_front h1]
theorem drop_put {its : List (Int × Bx)} {f : Int → Option Bx} {j : Nat} (R : Rel f its) (h : j < its.length) : refPut (its.drop (j + 1)) its[j].1 its[j].2 = its.drop j := by
  rw [List.drop_eq_getElem_cons h]
  exact refPut_front (by have := R.asc.sublist (List.drop_sublist j its); rwa [List.drop_eq_getElem_cons h] at this)
theorem fair_app {l : List Opn} {b : Bx} {m : Int} (h : fairB (l ++ [⟨0, 0, b⟩]) m = true) : (l.length : Int) + 1 ≤ m ∧ (∀ o ∈ l, o.b.ss.length ≤ 1000000) ∧ b.ss.length ≤ 1000000 := by
  have h1 := fairB_len h
  have h2 := fairB_small h
  refine ⟨by simpa using h1, fun o ho => h2 o (by simp [ho]), h2 ⟨0, 0, b⟩ (by simp)⟩
theorem app_big {l : List Opn} {b : Bx} (hs : ∀ o ∈ l, o.b.ss.length ≤ 140737488351232) (hb : b.ss.length ≤ 140737488351232) : ∀ o ∈ l ++ [⟨0, 0, b⟩], o.b.ss.length ≤ 140737488351232 := fun o ho => by
  rcases List.mem_append.1 ho with h | h
  · exact hs o h
  · simp at h; subst h; exact hb

theorem order_law (l : List Opn) (b : Bx) (hl : l.length * 48 ≤ 140737488351232) (hs : ∀ o ∈ l, o.b.ss.length ≤ 140737488351232) (hb : b.ss.length ≤ 140737488351232) (H : Heap) : E.Spec Try.prog 5 [opL l, bxC .un b] H fun x _ => x = bX true := by
  refine Spec.enter Try.func5 rfl ?_
  refine AW.wk (Wk.keep 70 [(0, .c (opL l)), (1, .c (bxC .un b))] [] (H) rfl ⟨rfl, rfl, trivial⟩ trivial (fun _ _ h => h) rfl) ?_
  refine AW.seq ?_
  refine AW.reg ?_
  refine SeqK.r (b_box (r := [_, _]) rfl rfl rfl rfl rfl rfl) rfl ?_
  refine SeqK.q (q_asC rfl rfl) rfl rfl rfl ?_
  refine SeqK.nil ?_
  refine AW.seq ?_
  refine AW.seq ?_
  refine AW.reg ?_
  refine SeqK.callE rfl rfl rfl rfl Fx.fn9 rfl (awake_any _) (fun _ _ h => by rw [h]; rfl) (fun x10 H10 q10 => ?_)
  obtain rfl := q10
  refine SeqK.q (q_not rfl rfl) rfl rfl rfl ?_
  refine SeqK.nil ?_
  refine AW.condF rfl ?_
  refine AW.skip ?_
  refine AW.seq ?_
  refine AW.seq ?_
  refine AW.draw Fx.mo ?_
  refine LexK.q (q_build0 rfl Fx.el22) rfl rfl rfl ?_
  refine LexK.q (q_mvC rfl rfl) rfl rfl rfl ?_
  refine LexK.r (b_app0 rfl Fx.el22 rfl rfl (by simp; omega) rfl rfl rfl) rfl ?_
  refine LexK.r (b_load (r := .g [_, _]) rfl Fx.ty32 rfl rfl rfl rfl rfl rfl) rfl ?_
  refine LexK.q (q_build2 (zs := [_, _, _, _]) (r := [_, _, _, _]) [(0, 1), (1, 1), (2, 2)] _ rfl Fx.ze34 rfl Fx.bp34 rfl rfl rfl rfl) rfl rfl rfl ?_
  refine LexK.q (q_buildSlice _ rfl Fx.el22 rfl (by decide) rfl) rfl rfl rfl ?_
  refine LexK.r (b_app rfl Fx.el22 rfl rfl rfl ((by simp : _ = (l ++ [(⟨0, 0, b⟩ : Opn)]).map opT)) (by simp; omega) rfl rfl) rfl ?_
  refine LexK.q (q_call _ rfl Fx.fn10 rfl (fair_any _ (l ++ [⟨0, 0, b⟩]) _ (by simp; omega) (app_big hs hb)) rfl) rfl rfl rfl ?_
  refine LexK.q (q_not rfl rfl) rfl rfl rfl ?_
  refine LexK.nil (by kernel_rfl) ?_
  refine AW.cond _ rfl (fun h20 => ?_) (fun h20 => ?_)
  ·
    refine AW.seq ?_
    refine AW.reg ?_
    refine SeqK.q (q_asC rfl rfl) rfl rfl rfl ?_
    refine SeqK.nil ?_
    refine AW.ret ?_
    exact fin_x (x := .c _) (_) (.tmp rfl .nil) rfl (fun _ _ h => h) (rfl)
  ·
    have hfair : fairB (l ++ [⟨0, 0, b⟩]) 41 = true := by simpa using h20
    obtain ⟨hl60, hsm, hbm⟩ := fair_app hfair
    refine AW.skip ?_
    refine AW.seq ?_
    refine AW.reg ?_
    refine SeqK.q (q_mvC rfl rfl) rfl rfl rfl ?_
    refine SeqK.callE rfl rfl rfl rfl Fx.fn11 rfl (play_any l (by omega) hsm _) (fun _ _ h => by obtain ⟨_, _, _, h, _⟩ := h; rw [h]; rfl) (fun x23 H23 q23 => ?_)
    obtain ⟨c, f, its, rfl, I, R, hit, hil⟩ := q23
    refine SeqK.q (q_mvT rfl rfl) rfl rfl rfl ?_
    refine SeqK.q (q_extract _ rfl rfl rfl) rfl rfl rfl ?_
    refine SeqK.q (q_extract _ rfl rfl rfl) rfl rfl rfl ?_
    refine SeqK.q (q_extract _ rfl rfl rfl) rfl rfl rfl ?_
    refine SeqK.q (q_asC rfl rfl) rfl rfl rfl ?_
    refine SeqK.q (q_asC rfl rfl) rfl rfl rfl ?_
    refine SeqK.q (q_asC rfl rfl) rfl rfl rfl ?_
    refine SeqK.nil ?_
    refine AW.seq ?_
    refine AW.reg ?_
    refine SeqK.callE rfl rfl rfl rfl Fx.fn17 rfl (E.Spec.frame2 (new_any (fun _ => none)) (Part.start H23)) (fun _ _ h => by obtain ⟨_, ⟨_, h, _⟩, _⟩ := h; rw [h]; rfl) (fun x27 H27 q27 => ?_)
    obtain ⟨A1, ⟨c2, rfl, J, _⟩, PT⟩ := q27
    replace J := J.full
    refine SeqK.q (q_asC rfl rfl) rfl rfl rfl ?_
    refine SeqK.nil ?_
    refine AW.seq ?_
    refine AW.seq ?_
    refine AW.reg ?_
    refine SeqK.q (q_mvC rfl rfl) rfl rfl rfl ?_
    refine SeqK.q (q_not rfl rfl) rfl rfl rfl ?_
    refine SeqK.q (q_mvC rfl rfl) rfl rfl rfl ?_
    refine SeqK.on (q_mvC rfl rfl) rfl rfl rfl rfl rfl ?_
    refine SeqK.on (q_eqlN rfl rfl rfl Fx.nk25) rfl rfl rfl rfl rfl ?_
    refine SeqK.q (q_pkF rfl rfl rfl) rfl rfl rfl ?_
    refine SeqK.nil ?_
    refine AW.condF rfl ?_
    refine AW.skip ?_
    refine AW.seq ?_
    refine AW.seq ?_
    refine AW.reg ?_
    refine SeqK.q (q_mvC rfl rfl) rfl rfl rfl ?_
    refine SeqK.q (q_len rfl Fx.un26 rfl) rfl rfl rfl ?_
    refine SeqK.q (q_sub _ rfl rfl rfl ((by rw [List.length_map]; exact w64 (by omega) (by omega) : IntKind.i64.wrap _ = ((its.length : Nat) : Int) - 1))) rfl rfl rfl ?_
    refine SeqK.q (q_asC rfl rfl) rfl rfl rfl ?_
    refine SeqK.nil ?_
    refine AW.block ?_
    refine AW.loop (fun (k : Nat) s => ∃ (Hx A : Heap) (g : Int → Option Bx) (M : Nat), (k ≤ its.length ∧ M = (its.drop k).length ∧ Part Hx A (full H23) ∧ Idx A c2 g M ∧ Rel g (its.drop k)) ∧ s = ⟨70, sp [(3, .lp 3 0), (5, .c (.a (.bp c 0))), (6, .c (itL .ne its)), (8, .c (.a (.bp c2 0))), (9, iX .i64 (((k : Nat) : Int) - 1))], lv [(3, .box [.t (.v (.int .i64 b.tb)), .t (.sl .un 6 (b.ss.map sdT))])], Hx⟩) (fun k => k) its.length ⟨_, Wk.keep 70 [(3, .lp 3 0), (5, .c (.a (.bp c 0))), (6, .c (itL .ne its)), (8, .c (.a (.bp c2 0))), (9, iX .i64 ((((its.length) : Nat) : Int) - 1))] [(3, .box [.t (.v (.int .i64 b.tb)), .t (.sl .un 6 (b.ss.map sdT))])] ((H27)) rfl ⟨rfl, rfl, rfl, rfl, rfl, trivial⟩ ⟨rfl, trivial⟩ (fun _ _ h => h) rfl, H27, _, _, 0, ⟨Nat.le_refl _, by simp, PT, J, by rw [List.drop_length]; exact .nil⟩, rfl⟩ (fun k s hs => ?_)
    obtain ⟨Hx, A, g, M, ⟨hk, hM, PT, J, RJ⟩, rfl⟩ := hs
    refine AW.seq ?_
    refine AW.seq ?_
    refine AW.reg ?_
    refine SeqK.q (q_mvC rfl rfl) rfl rfl rfl ?_
    refine SeqK.q (q_geq rfl rfl rfl) rfl rfl rfl ?_
    refine SeqK.nil ?_
    refine AW.condD rfl (fun h38 => ?_) (fun h38 => ?_)
    ·
      obtain ⟨j, rfl⟩ : ∃ j, k = j + 1 := ⟨k - 1, by simp at h38; omega⟩
      have hka : j < its.length := by omega
      have hsz := hit _ (List.getElem_mem hka)
      refine AW.skip ?_
      refine AW.seq ?_
      refine AW.block ?_
      refine AW.draw Fx.mo ?_
      refine LexK.q (q_mvC rfl rfl) rfl rfl rfl ?_
      refine LexK.q (q_mvC rfl rfl) rfl rfl rfl ?_
      refine LexK.q (q_mvC rfl rfl) rfl rfl rfl ?_
      refine LexK.q (q_index _ rfl Fx.sl26 rfl rfl (by omega) (idx_map1 hka)) rfl rfl rfl ?_
      refine LexK.q (q_fieldP _ rfl Fx.fl47_0 rfl rfl) rfl rfl rfl ?_
      refine LexK.q (q_load (.a _) rfl Fx.ty2 rfl rfl rfl) rfl rfl rfl ?_
      refine LexK.q (q_mvC rfl rfl) rfl rfl rfl ?_
      refine LexK.q (q_mvC rfl rfl) rfl rfl rfl ?_
      refine LexK.q (q_index _ rfl Fx.sl26 rfl rfl (by omega) (idx_map1 hka)) rfl rfl rfl ?_
      refine LexK.q (q_fieldP _ rfl Fx.fl47_1 rfl rfl) rfl rfl rfl ?_
      refine LexK.q (q_load (.g [_, _]) rfl Fx.ty32 rfl rfl rfl) rfl rfl rfl ?_
      refine LexK.q (q_call _ rfl Fx.fn15 rfl (to_any _ _ (by assumption)) rfl) rfl rfl rfl ?_
      refine LexK.callE rfl rfl rfl rfl Fx.fn18 rfl (E.Spec.frame2 (put_any _ _ _ _ _ _ _ J hsz) PT) (fun _ _ h => by obtain ⟨_, h, _⟩ := h; rw [h.1]; rfl) (by kernel_rfl) (by kernel_rfl) (fun x53 H53 q53 => ?_)
      obtain ⟨A2, ⟨rfl, J⟩, PT⟩ := q53
      replace J := J.full
      refine LexK.nil (by kernel_rfl) ?_
      refine AW.reg ?_
      refine SeqK.q (q_mvC rfl rfl) rfl rfl rfl ?_
      refine SeqK.q (q_sub _ rfl rfl rfl ((by rw [w64 (by omega) (by omega)]; omega : IntKind.i64.wrap _ = ((j : Nat) : Int) - 1))) rfl rfl rfl ?_
      refine SeqK.q (q_asC rfl rfl) rfl rfl rfl ?_
      refine SeqK.nil ?_
      exact ⟨j, _, Wk.keep 70 [(3, .lp 3 0), (5, .c (.a (.bp c 0))), (6, .c (itL .ne its)), (8, .c (.a (.bp c2 0))), (9, iX .i64 ((((j) : Nat) : Int) - 1))] [(3, .box [.t (.v (.int .i64 b.tb)), .t (.sl .un 6 (b.ss.map sdT))])] ((_)) rfl ⟨rfl, rfl, rfl, rfl, rfl, trivial⟩ ⟨rfl, trivial⟩ (fun _ _ h => h) rfl, by omega, _, _, _, _, ⟨by omega, rfl, PT, by rw [← drop_put R hka, RJ.put_len, ← hM]; exact J, by rw [← drop_put R hka]; exact RJ.put _ _⟩, rfl⟩
    ·
      refine AW.exit ?_
      refine eth_e ?_
      refine eth_e ?_
      refine exit_here ?_
      refine AW.seq ?_
      obtain rfl : k = 0 := by simp at h38; omega
      obtain rfl : M = its.length := by simpa using hM
      have I : Idx Hx c f its.length := (I.full (H := H23)).mono fun k o h _ => PT.sub k o h
      have J : Idx Hx c2 g its.length := J.mono fun k o h _ => PT.left k o h
      have RJ : Rel g its := RJ
      refine AW.draw Fx.mo ?_
      refine LexK.q (q_mvC rfl rfl) rfl rfl rfl ?_
      refine LexK.r (g_call rfl Fx.fn12 rfl (len_any _ _ _ _ I) rfl rfl rfl) rfl ?_
      refine LexK.q (q_mvC rfl rfl) rfl rfl rfl ?_
      refine LexK.r (g_call rfl Fx.fn12 rfl (len_any _ _ _ _ J) rfl rfl rfl) rfl ?_
      refine LexK.q (q_eql rfl rfl rfl) rfl rfl rfl ?_
      refine LexK.qD (q_mvC rfl rfl) rfl rfl rfl (fun g59 => ?_) (fun g59 => ?_)
      ·
        refine LexK.on (q_mvC rfl rfl) rfl rfl rfl rfl rfl ?_
        refine LexK.rOn (b_load (r := .g [_, _]) rfl Fx.ty32 rfl rfl rfl rfl rfl rfl) rfl rfl rfl ?_
        refine LexK.on (q_call _ rfl Fx.fn15 rfl (to_any _ _ (by assumption)) rfl) rfl rfl rfl rfl rfl ?_
        refine LexK.rOn (g_call rfl Fx.fn14 rfl (cand_pure _ _ _ _ _ _ _ I R (by omega) hbm) rfl rfl rfl) rfl rfl rfl ?_
        refine LexK.on (q_mvC rfl rfl) rfl rfl rfl rfl rfl ?_
        refine LexK.rOn (b_load (r := .g [_, _]) rfl Fx.ty32 rfl rfl rfl rfl rfl rfl) rfl rfl rfl ?_
        refine LexK.on (q_call _ rfl Fx.fn15 rfl (to_any _ _ (by assumption)) rfl) rfl rfl rfl rfl rfl ?_
        refine LexK.rOn (g_call rfl Fx.fn14 rfl (cand_pure _ _ _ _ _ _ _ J RJ (by omega) hbm) rfl rfl rfl) rfl rfl rfl ?_
        refine LexK.on (q_call _ rfl Fx.fn13 rfl (same_true _ _ _ (Nat.le_trans wantedL_len (by omega))) rfl) rfl rfl rfl rfl rfl ?_
        refine LexK.q (q_pkT rfl rfl rfl) rfl rfl rfl ?_
        refine LexK.q (q_asC rfl rfl) rfl rfl rfl ?_
        refine LexK.nil (by kernel_rfl) ?_
        refine AW.ret ?_
        exact fin_x (x := .c _) (_) (.tmp rfl .nil) rfl (fun _ _ h => h) (rfl)
      ·
        exact (g59 rfl).elim

end Go.Proofs.Ytojkjiakkcgfcaa.W
