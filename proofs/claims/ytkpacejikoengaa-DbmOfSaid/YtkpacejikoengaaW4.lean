import Derived.Test.YtkpacejikoengaaW3
import Derived.Test.YtkpacejikoengaaP1
namespace Go.Proofs.Ytkpacejikoengaa.W
open Go.RowKit E M
set_option linter.unusedVariables false
set_option linter.unusedSimpArgs false
abbrev lvT (l : List Wk) : List T := [.sl .un 3 (l.map wkT)]
theorem wk3 : ∀ x : Wk, (wkT x).length = 3 := fun _ => rfl
theorem fill_step {l : List Wk} {m i : Nat} {f : Int → Wk} (hl : l.length = m) (hi : i < m) (h : ∀ v : Nat, v < i → l.getD v ⟨false, 0, -1⟩ = f v) {x : Wk} (hx : x = f i) : (l.set i x).length = m ∧ ∀ v : Nat, v < i + 1 → (l.set i x).getD v ⟨false, 0, -1⟩ = f v := by
  refine ⟨by simpa using hl, fun v hv => ?_⟩
  simp only [List.getD_eq_getElem?_getD, List.getElem?_set]
  by_cases e : i = v
  · subst e; rw [if_pos rfl, if_pos (by omega), hx]; rfl
  · rw [if_neg e]
    have := h v (by omega)
    rwa [List.getD_eq_getElem?_getD] at this
theorem wipe_step {l cur : List Wk} {m i : Nat} (hl : l.length = m) (hi : i < m) (h : ∀ v : Nat, v < m → l.getD v ⟨false, 0, -1⟩ = if v < i then { cur.getD v ⟨false, 0, -1⟩ with last := -1 } else cur.getD v ⟨false, 0, -1⟩) :
    (l.set i { l[i] with last := -1 }).length = m ∧ ∀ v : Nat, v < m → (l.set i { l[i] with last := -1 }).getD v ⟨false, 0, -1⟩ = if v < i + 1 then { cur.getD v ⟨false, 0, -1⟩ with last := -1 } else cur.getD v ⟨false, 0, -1⟩ := by
  refine ⟨by simpa using hl, fun v hv => ?_⟩
  have hg := h v hv
  simp only [List.getD_eq_getElem?_getD, List.getElem?_set] at hg ⊢
  by_cases e : i = v
  · subst e
    rw [if_neg (by omega), List.getElem?_eq_getElem (by omega)] at hg
    rw [if_pos rfl, if_pos (by omega), if_pos (by omega), ← hg]; rfl
  · rw [if_neg e, hg]
    by_cases e2 : v < i
    · rw [if_pos e2, if_pos (by omega)]
    · rw [if_neg e2, if_neg (by omega)]
theorem at_get {l : List Wk} {v : Int} (hv : v.toNat < l.length) : at' l v = l[v.toNat] := by
  unfold at'; rw [List.getD_eq_getElem?_getD, List.getElem?_eq_getElem hv]; rfl

set_option maxRecDepth 20000 in
theorem clone_row (H : Heap) (z : Nz) (l : List Wk) (m : Nat) (hm : l.length = m) (h0 : 0 < m) (hb : m ≤ 1000) : E.Spec Try.prog 32 [.a (.t (.sl z 3 (l.map wkT)))] H fun x H' => ∃ k, H k = none ∧ x = .c (.a (.os k 0 m 3)) ∧ H' = upd H k (some (.row 66 3 (rowE wkT l))) := by
  refine Spec.enter Try.func32 rfl ?_
  refine AW.wk (Wk.keep 8 [(0, .c (.a (.t (.sl z 3 (l.map wkT)))))] [] (H) rfl ⟨rfl, trivial⟩ trivial (fun _ _ h => h) rfl) ?_
  refine AW.seq ?_
  refine AW.reg ?_
  refine SeqK.q (q_asC rfl rfl) rfl rfl rfl ?_
  refine SeqK.nil ?_
  refine AW.seq ?_
  refine AW.seq ?_
  refine AW.reg ?_
  refine SeqK.q (q_mvC rfl rfl) rfl rfl rfl ?_
  refine SeqK.eqlNU rfl rfl rfl rfl rfl rfl Fx.nk67 (fun b4 hb4 => ?_)
  refine SeqK.nil ?_
  refine AW.cond _ rfl (fun h4 => ?_) (fun h4 => ?_)
  ·
    exact absurd (hb4 h4) (fun e => by have := congrArg List.length e; simp at this; subst this; simp at hm; omega)
  ·
    refine AW.skip ?_
    refine AW.seq ?_
    refine AW.reg ?_
    refine SeqK.q (q_build0 rfl Fx.el67) rfl rfl rfl ?_
    refine SeqK.q (q_mvC rfl rfl) rfl rfl rfl ?_
    refine SeqK.appZR (es := l.map wkT) rfl rfl Fx.el67 rfl rfl (by simp; omega) rfl rfl (fun k7 hk7 => ?_)
    rw [show (l.map wkT).length = m by simpa using hm]
    refine SeqK.q (q_asC rfl rfl) rfl rfl rfl ?_
    refine SeqK.nil ?_
    refine AW.ret ?_
    exact fin_x (x := .c _) (_) (.tmp rfl .nil) rfl (fun _ _ h => h) (⟨k7, hk7, rfl, rfl⟩)

set_option maxRecDepth 20000 in
theorem walks_at (H : Heap) (k n : Nat) (all : List Bd) (fr : Int) {z : Nz} {k3 k1 : Nat} {es : List ME} {ck : Nat} {r : Int → Int → Option Nat} (I : MatAt H k n all z k3 k1 es ck r) (hal : all.length ≤ 100000) : E.Spec Try.prog 28 [.a (.bp k 0), iC fr] H fun x H' => ∃ ls, x = .c (.a (.t (.sl .nn 1 (ls.map lvT)))) ∧ Pre all n (fun v => decide (fr < 0) || decide (v = fr)) ls (n + 1) ∧ (∀ ts, TightEx r ts → ls = walksF all ts (firstF n fr) (n + 1)) ∧ H' = H := by
  have hbnd := I.bnd
  have hn64 := I.n64
  have IM : ∀ H', (∀ j o, H j = some o → H' j = some o) → MatAt H' k n all z k3 k1 es ck r := fun H' h => I.mono fun j o hj _ _ => h j o hj
  have hbox := I.box
  refine Spec.enter Try.func28 rfl ?_
  refine AW.wk (Wk.keep 121 [(0, .c (.a (.bp k 0))), (1, .c (iC fr))] [] (H) rfl ⟨rfl, rfl, trivial⟩ trivial (fun _ _ h => h) rfl) ?_
  refine AW.seq ?_
  refine AW.reg ?_
  refine SeqK.q (q_asC rfl rfl) rfl rfl rfl ?_
  refine SeqK.nil ?_
  refine AW.seq ?_
  refine AW.reg ?_
  refine SeqK.q (q_mvC rfl rfl) rfl rfl rfl ?_
  refine SeqK.q (q_nilH rfl rfl) rfl rfl rfl ?_
  refine SeqK.q (q_fieldH _ rfl Fx.fl73_0 rfl rfl) rfl rfl rfl ?_
  refine SeqK.r (g_load (r := .a _) rfl Fx.ty3 rfl (by (repeat rw [upd_ne _ _ (by first | assumption | exact Ne.symm (by assumption))]); first | assumption | exact upd_same _ _ _) rfl rfl rfl rfl) rfl ?_
  refine SeqK.q (q_add _ rfl rfl rfl ((by rw [w64 (by omega) (by omega)]; omega : IntKind.i64.wrap _ = ((n + 1 : Nat) : Int)))) rfl rfl rfl ?_
  refine SeqK.make (zc := (wkT ⟨false, 0, 0⟩).map .t) rfl rfl Fx.el67 Fx.ze66 rfl rfl rfl rfl (by omega) rfl rfl (fun k19 hk19 => ?_)
  rw [rowE_rep]
  refine SeqK.q (q_asC rfl rfl) rfl rfl rfl ?_
  refine SeqK.nil ?_
  refine AW.seq ?_
  refine AW.seq ?_
  refine AW.reg ?_
  refine SeqK.q (q_mvC rfl rfl) rfl rfl rfl ?_
  refine SeqK.q (q_lenOs rfl Fx.un67 rfl) rfl rfl rfl ?_
  refine SeqK.q (q_mvC rfl rfl) rfl rfl rfl ?_
  refine SeqK.nil ?_
  refine AW.block ?_
  refine AW.loop (fun (i : Nat) s => ∃ (l : List Wk), (i ≤ n + 1 ∧ l.length = n + 1 ∧ ∀ v : Nat, v < i → l.getD v ⟨false, 0, -1⟩ = stW fr v) ∧ s = ⟨121, sp [(0, .c (.a (.bp k 0))), (1, .c (iC fr)), (5, .c (.a (.os k19 0 (n + 1) 3))), (21, iX .i64 ((n + 1 : Nat) : Int)), (22, iX .i64 ((i : Nat) : Int))], lv [], upd H k19 (some (.row 66 3 (rowE wkT l)))⟩) (fun i => n + 1 - i) 0 ⟨_, Wk.keep 121 [(0, .c (.a (.bp k 0))), (1, .c (iC fr)), (5, .c (.a (.os k19 0 (n + 1) 3))), (21, iX .i64 ((n + 1 : Nat) : Int)), (22, iX .i64 ((((0 : Nat)) : Nat) : Int))] [] (upd H k19 (some (.row 66 3 (rowE wkT (List.replicate (n + 1) ⟨false, 0, 0⟩))))) rfl ⟨rfl, rfl, rfl, rfl, rfl, trivial⟩ trivial (fun _ _ h => h) rfl, List.replicate (n + 1) ⟨false, 0, 0⟩, ⟨by omega, by simp, fun v hv => absurd hv (Nat.not_lt_zero v)⟩, rfl⟩ (fun i s hs => ?_)
  obtain ⟨l, ⟨hi, hl, hf⟩, rfl⟩ := hs
  refine AW.seq ?_
  refine AW.reg ?_
  refine SeqK.q (q_lss rfl rfl rfl) rfl rfl rfl ?_
  refine SeqK.nil ?_
  refine AW.seq ?_
  refine AW.condD rfl (fun h23 => ?_) (fun h23 => ?_)
  ·
    have hka : i < l.length := by simp at h23; omega
    refine AW.skip ?_
    refine AW.seq ?_
    refine AW.block ?_
    refine AW.seq ?_
    refine AW.reg ?_
    refine SeqK.q (q_mvC rfl rfl) rfl rfl rfl ?_
    refine SeqK.q (q_asC rfl rfl) rfl rfl rfl ?_
    refine SeqK.nil ?_
    refine AW.reg ?_
    refine SeqK.q (q_mvC rfl rfl) rfl rfl rfl ?_
    refine SeqK.q (q_mvC rfl rfl) rfl rfl rfl ?_
    refine SeqK.q (q_mvC rfl rfl) rfl rfl rfl ?_
    refine SeqK.q (q_lss rfl rfl rfl) rfl rfl rfl ?_
    refine SeqK.qD (q_mvC rfl rfl) rfl rfl rfl (fun g29 => ?_) (fun g29 => ?_)
    ·
      refine SeqK.off rfl rfl rfl rfl rfl rfl ?_
      refine SeqK.off rfl rfl rfl rfl rfl rfl ?_
      refine SeqK.off rfl rfl rfl rfl rfl rfl ?_
      refine SeqK.q (q_pkT rfl rfl rfl) rfl rfl rfl ?_
      refine SeqK.q (q_build2 (zs := [_, _, _]) (r := [_, _, _]) [(0, 1), (1, 1), (2, 1)] _ rfl Fx.ze66 rfl Fx.bp66 rfl rfl rfl rfl) rfl rfl rfl ?_
      refine SeqK.q (q_indexOs _ rfl Fx.sl67 rfl rfl (by omega) (by omega) rfl) rfl rfl rfl ?_
      refine SeqK.r (g_storeR rfl rfl Fx.ty66 rfl rfl (by (repeat rw [upd_ne _ _ (by first | assumption | exact Ne.symm (by assumption))]); first | assumption | exact upd_same _ _ _) (row_st wk3 hka ⟨true, 0, -1⟩) rfl (row_in0 wk3 hka) (by decide)) rfl ?_
      refine SeqK.nil ?_
      refine AW.reg ?_
      refine SeqK.q (q_add _ rfl rfl rfl (w64 (by omega) (by omega))) rfl rfl rfl ?_
      refine SeqK.q (q_mvC rfl rfl) rfl rfl rfl ?_
      refine SeqK.nil ?_
      exact ⟨i + 1, _, Wk.keep 121 [(0, .c (.a (.bp k 0))), (1, .c (iC fr)), (5, .c (.a (.os k19 0 (n + 1) 3))), (21, iX .i64 ((n + 1 : Nat) : Int)), (22, iX .i64 (((i + 1) : Nat) : Int))] [] (upd H k19 (some (.row 66 3 (rowE wkT (l.set i ⟨true, 0, -1⟩))))) rfl ⟨rfl, rfl, rfl, rfl, rfl, trivial⟩ trivial (fun j o h => by show upd (upd _ k19 _) k19 _ j = _; rw [upd_upd]; exact h) rfl, by omega, l.set i ⟨true, 0, -1⟩, ⟨by omega, (fill_step hl (by omega) hf (by simp [stW, g29])).1, (fill_step hl (by omega) hf (by simp [stW, g29])).2⟩, rfl⟩
    ·
      refine SeqK.on (q_mvC rfl rfl) rfl rfl rfl rfl rfl ?_
      refine SeqK.on (q_mvC rfl rfl) rfl rfl rfl rfl rfl ?_
      refine SeqK.on (q_eql rfl rfl rfl) rfl rfl rfl rfl rfl ?_
      refine SeqK.q (q_pkF rfl rfl rfl) rfl rfl rfl ?_
      refine SeqK.q (q_build2 (zs := [_, _, _]) (r := [_, _, _]) [(0, 1), (1, 1), (2, 1)] _ rfl Fx.ze66 rfl Fx.bp66 rfl rfl rfl rfl) rfl rfl rfl ?_
      refine SeqK.q (q_indexOs _ rfl Fx.sl67 rfl rfl (by omega) (by omega) rfl) rfl rfl rfl ?_
      refine SeqK.r (g_storeR rfl rfl Fx.ty66 rfl rfl (by (repeat rw [upd_ne _ _ (by first | assumption | exact Ne.symm (by assumption))]); first | assumption | exact upd_same _ _ _) (row_st wk3 hka ⟨decide ((i : Int) = fr), 0, -1⟩) rfl (row_in0 wk3 hka) (by decide)) rfl ?_
      refine SeqK.nil ?_
      refine AW.reg ?_
      refine SeqK.q (q_add _ rfl rfl rfl (w64 (by omega) (by omega))) rfl rfl rfl ?_
      refine SeqK.q (q_mvC rfl rfl) rfl rfl rfl ?_
      refine SeqK.nil ?_
      exact ⟨i + 1, _, Wk.keep 121 [(0, .c (.a (.bp k 0))), (1, .c (iC fr)), (5, .c (.a (.os k19 0 (n + 1) 3))), (21, iX .i64 ((n + 1 : Nat) : Int)), (22, iX .i64 (((i + 1) : Nat) : Int))] [] (upd H k19 (some (.row 66 3 (rowE wkT (l.set i ⟨decide ((i : Int) = fr), 0, -1⟩))))) rfl ⟨rfl, rfl, rfl, rfl, rfl, trivial⟩ trivial (fun j o h => by show upd (upd _ k19 _) k19 _ j = _; rw [upd_upd]; exact h) rfl, by omega, l.set i ⟨decide ((i : Int) = fr), 0, -1⟩, ⟨by omega, (fill_step hl (by omega) hf (by simp [stW, g29])).1, (fill_step hl (by omega) hf (by simp [stW, g29])).2⟩, rfl⟩
  ·
    refine AW.exit ?_
    refine eth_e ?_
    refine eth_e ?_
    refine exit_here ?_
    refine AW.seq ?_
    obtain rfl : i = n + 1 := by simp at h23; omega
    refine AW.gh (Gh.freeze k19 3 66 (l.map wkT) (upd_same _ _ _) (fun e he => by obtain ⟨x, _, rfl⟩ := List.mem_map.1 he; rfl) (by decide)) ?_
    rintro s rfl
    refine AW.wk (Wk.keep 121 [(0, .c (.a (.bp k 0))), (1, .c (iC fr)), (5, .c (.a (.t (.sl .un 3 (l.map wkT)))))] [] (H) rfl ⟨rfl, rfl, by show fzX _ _ _ (.c (.a (.os _ 0 (n + 1) 3))) = _; rw [show n + 1 = (l.map wkT).length by simp [hl]]; simp [fzX, fzC, fzA], trivial⟩ trivial (fun j o h => by show upd (upd H k19 _) k19 none j = _; rw [upd_back hk19]; exact h) rfl) ?_
    refine AW.reg ?_
    refine SeqK.q (q_mvC rfl rfl) rfl rfl rfl ?_
    refine SeqK.buildTip (es := [lvT l]) rfl rfl Fx.el68 rfl (by decide) (by decide) rfl rfl rfl (fun k38 hk38 => ?_)
    have nk38 : k ≠ k38 := fun e => by rw [← e, hbox] at hk38; cases hk38
    refine SeqK.q (q_asC rfl rfl) rfl rfl rfl ?_
    refine SeqK.nil ?_
    refine AW.seq ?_
    refine AW.seq ?_
    refine AW.reg ?_
    refine SeqK.q (q_mvC rfl rfl) rfl rfl rfl ?_
    refine SeqK.q (q_nilH rfl rfl) rfl rfl rfl ?_
    refine SeqK.q (q_fieldH _ rfl Fx.fl73_0 rfl rfl) rfl rfl rfl ?_
    refine SeqK.r (g_load (r := .a _) rfl Fx.ty3 rfl (by (repeat rw [upd_ne _ _ (by first | assumption | exact Ne.symm (by assumption))]); first | assumption | exact upd_same _ _ _) rfl rfl rfl rfl) rfl ?_
    refine SeqK.q (q_add _ rfl rfl rfl ((by rw [w64 (by omega) (by omega)]; omega : IntKind.i64.wrap _ = ((n + 1 : Nat) : Int)))) rfl rfl rfl ?_
    refine SeqK.q (q_mvC rfl rfl) rfl rfl rfl ?_
    refine SeqK.nil ?_
    refine AW.block ?_
    refine AW.loop (fun (t : Nat) s => ∃ (k7 : Nat) (ls : List (List Wk)) (cur : List Wk) (E : List (List T)), (t ≤ n + 1 ∧ H k7 = none ∧ E = ls.map lvT ∧ Pre all n (fun v => decide (fr < 0) || decide (v = fr)) ls t ∧ cur = ls.getD t [] ∧ ∀ ts, TightEx r ts → ls = walksF all ts (firstF n fr) t) ∧ s = ⟨121, sp [(0, .c (.a (.bp k 0))), (7, .c (.a (.ts k7 .nn 1 E))), (43, iX .i64 ((n + 1 : Nat) : Int)), (44, iX .i64 ((t : Nat) : Int)), (5, .c (.a (.t (.sl .un 3 (cur.map wkT)))))], lv [], upd H k7 (some (.tip 67 1 E.length))⟩) (fun t => n + 1 - t) 0 ⟨_, Wk.keep 121 [(0, .c (.a (.bp k 0))), (7, .c (.a (.ts (k38) .nn 1 ([lvT l])))), (43, iX .i64 ((n + 1 : Nat) : Int)), (44, iX .i64 ((((0 : Nat)) : Nat) : Int)), (5, .c (.a (.t (.sl .un 3 ((l).map wkT)))))] [] (upd H (k38) (some (.tip 67 1 ([lvT l]).length))) rfl ⟨rfl, rfl, rfl, rfl, rfl, trivial⟩ trivial (fun _ _ h => h) rfl, k38, [l], l, [lvT l], ⟨by omega, hk38, rfl, Pre.start hl (fun v hv => hf v hv), rfl, fun ts _ => by rw [first_eq hl hf]; rfl⟩, rfl⟩ (fun t s hs => ?_)
    obtain ⟨k7, ls, cur, E, ⟨ht, hk7, hE, hpre, hcur, hdet⟩, rfl⟩ := hs
    have nk7 : k ≠ k7 := fun e => by rw [← e, hbox] at hk7; cases hk7
    have hcl : cur.length = n + 1 := by rw [hcur]; exact hpre.lens (Nat.le_refl _)
    have hcs : ∀ v, B50 t (at' cur v).w := fun v => by rw [hcur]; exact hpre.small t (Nat.le_refl _) v
    have hEl : E.length = t + 1 := by rw [hE, List.length_map]; exact hpre.len
    refine AW.seq ?_
    refine AW.reg ?_
    refine SeqK.q (q_lss rfl rfl rfl) rfl rfl rfl ?_
    refine SeqK.nil ?_
    refine AW.seq ?_
    refine AW.condD rfl (fun h45 => ?_) (fun h45 => ?_)
    ·
      refine AW.skip ?_
      refine AW.seq ?_
      refine AW.block ?_
      refine AW.seq ?_
      refine AW.reg ?_
      refine SeqK.q (q_mvC rfl rfl) rfl rfl rfl ?_
      refine SeqK.callE rfl rfl rfl rfl Fx.fn32 rfl (clone_row _ _ cur (n + 1) hcl (by omega) (by omega)) (fun _ _ h => by obtain ⟨_, _, h, _⟩ := h; rw [h]; rfl) (fun x47 H47 q47 => ?_)
      obtain ⟨k8, hk8, rfl, rfl⟩ := q47
      have nk8 : k ≠ k8 := fun e => by rw [← e, upd_ne _ _ nk7, hbox] at hk8; cases hk8
      refine SeqK.q (q_asC rfl rfl) rfl rfl rfl ?_
      refine SeqK.nil ?_
      refine AW.seq ?_
      refine AW.seq ?_
      refine AW.reg ?_
      refine SeqK.q (q_mvC rfl rfl) rfl rfl rfl ?_
      refine SeqK.q (q_lenOs rfl Fx.un67 rfl) rfl rfl rfl ?_
      refine SeqK.q (q_mvC rfl rfl) rfl rfl rfl ?_
      refine SeqK.nil ?_
      refine AW.block ?_
      refine AW.loop (fun (i : Nat) s => ∃ (l : List Wk), (i ≤ n + 1 ∧ l.length = n + 1 ∧ ∀ v : Nat, v < n + 1 → l.getD v ⟨false, 0, -1⟩ = if v < i then { cur.getD v ⟨false, 0, -1⟩ with last := -1 } else cur.getD v ⟨false, 0, -1⟩) ∧ s = ⟨121, sp [(0, .c (.a (.bp k 0))), (7, .c (.a (.ts k7 .nn 1 E))), (43, iX .i64 ((n + 1 : Nat) : Int)), (44, iX .i64 ((t : Nat) : Int)), (5, .c (.a (.t (.sl .un 3 (cur.map wkT))))), (8, .c (.a (.os k8 0 (n + 1) 3))), (49, iX .i64 ((n + 1 : Nat) : Int)), (50, iX .i64 ((i : Nat) : Int))], lv [], upd (upd H k7 (some (.tip 67 1 E.length))) k8 (some (.row 66 3 (rowE wkT l)))⟩) (fun i => n + 1 - i) 0 ⟨_, Wk.keep 121 [(0, .c (.a (.bp k 0))), (7, .c (.a (.ts k7 .nn 1 E))), (43, iX .i64 ((n + 1 : Nat) : Int)), (44, iX .i64 ((t : Nat) : Int)), (5, .c (.a (.t (.sl .un 3 (cur.map wkT))))), (8, .c (.a (.os k8 0 (n + 1) 3))), (49, iX .i64 ((n + 1 : Nat) : Int)), (50, iX .i64 ((((0 : Nat)) : Nat) : Int))] [] (upd (upd H k7 (some (.tip 67 1 E.length))) k8 (some (.row 66 3 (rowE wkT (cur))))) rfl ⟨rfl, rfl, rfl, rfl, rfl, rfl, rfl, rfl, trivial⟩ trivial (fun _ _ h => h) rfl, cur, ⟨by omega, hcl, fun v hv => by rw [if_neg (by omega)]⟩, rfl⟩ (fun i s hs => ?_)
      obtain ⟨l, ⟨hi, hl, hf⟩, rfl⟩ := hs
      refine AW.seq ?_
      refine AW.reg ?_
      refine SeqK.q (q_lss rfl rfl rfl) rfl rfl rfl ?_
      refine SeqK.nil ?_
      refine AW.seq ?_
      refine AW.condD rfl (fun h51 => ?_) (fun h51 => ?_)
      ·
        have hka : i < l.length := by simp at h51; omega
        refine AW.skip ?_
        refine AW.seq ?_
        refine AW.block ?_
        refine AW.seq ?_
        refine AW.reg ?_
        refine SeqK.q (q_mvC rfl rfl) rfl rfl rfl ?_
        refine SeqK.q (q_asC rfl rfl) rfl rfl rfl ?_
        refine SeqK.nil ?_
        refine AW.reg ?_
        refine SeqK.q (q_mvC rfl rfl) rfl rfl rfl ?_
        refine SeqK.q (q_mvC rfl rfl) rfl rfl rfl ?_
        refine SeqK.q (q_indexOs _ rfl Fx.sl67 rfl rfl (by omega) (by omega) rfl) rfl rfl rfl ?_
        refine SeqK.q (q_fieldH _ rfl Fx.fl66_2 rfl rfl) rfl rfl rfl ?_
        refine SeqK.r (g_storeR rfl rfl Fx.ty3 rfl rfl (by (repeat rw [upd_ne _ _ (by first | assumption | exact Ne.symm (by assumption))]); first | assumption | exact upd_same _ _ _) (row_stf wk3 hka (by decide) { l[i] with last := -1 } rfl) rfl (row_in wk3 hka (by decide)) (by decide)) rfl ?_
        refine SeqK.nil ?_
        refine AW.reg ?_
        refine SeqK.q (q_add _ rfl rfl rfl (w64 (by omega) (by omega))) rfl rfl rfl ?_
        refine SeqK.q (q_mvC rfl rfl) rfl rfl rfl ?_
        refine SeqK.nil ?_
        exact ⟨i + 1, _, Wk.keep 121 [(0, .c (.a (.bp k 0))), (7, .c (.a (.ts k7 .nn 1 E))), (43, iX .i64 ((n + 1 : Nat) : Int)), (44, iX .i64 ((t : Nat) : Int)), (5, .c (.a (.t (.sl .un 3 (cur.map wkT))))), (8, .c (.a (.os k8 0 (n + 1) 3))), (49, iX .i64 ((n + 1 : Nat) : Int)), (50, iX .i64 (((i + 1) : Nat) : Int))] [] (upd (upd H k7 (some (.tip 67 1 E.length))) k8 (some (.row 66 3 (rowE wkT (l.set i { l[i] with last := -1 }))))) rfl ⟨rfl, rfl, rfl, rfl, rfl, rfl, rfl, rfl, trivial⟩ trivial (fun j o h => by show upd (upd _ k8 _) k8 _ j = _; rw [upd_upd]; exact h) rfl, by omega, l.set i { l[i] with last := -1 }, ⟨by omega, (wipe_step hl (by omega) hf).1, (wipe_step hl (by omega) hf).2⟩, rfl⟩
      ·
        refine AW.exit ?_
        refine eth_e ?_
        refine eth_e ?_
        refine exit_here ?_
        refine AW.seq ?_
        refine AW.seq ?_
        obtain rfl : i = n + 1 := by simp at h51; omega
        refine AW.reg ?_
        refine SeqK.q (q_mvC rfl rfl) rfl rfl rfl ?_
        refine SeqK.callE rfl rfl rfl rfl Fx.fn33 rfl (tight_any _ k n all (IM _ fun j o h => upd_sub hk8 j o (upd_sub hk7 j o h)) hal) (fun _ _ h => by obtain ⟨_, _, _, _, h, _⟩ := h; rw [h]; rfl) (fun x59 H59 q59 => ?_)
        obtain ⟨ts, hts, hte, htl, rfl, rfl⟩ := q59
        refine SeqK.q (q_len rfl Fx.un36 rfl) rfl rfl rfl ?_
        refine SeqK.q (q_mvC rfl rfl) rfl rfl rfl ?_
        refine SeqK.nil ?_
        refine AW.block ?_
        refine AW.loop (fun (p : Nat) s => ∃ (l : List Wk), (p ≤ ts.length ∧ PS all n ts cur l t p) ∧ s = ⟨121, sp [(0, .c (.a (.bp k 0))), (7, .c (.a (.ts k7 .nn 1 E))), (43, iX .i64 ((n + 1 : Nat) : Int)), (44, iX .i64 ((t : Nat) : Int)), (5, .c (.a (.t (.sl .un 3 (cur.map wkT))))), (8, .c (.a (.os k8 0 (n + 1) 3))), (59, .c (.a (.t (.sl .un 1 (ts.map i64T))))), (60, iX .i64 ((ts.map i64T).length : Nat)), (61, iX .i64 ((p : Nat) : Int))], lv [], upd (upd H k7 (some (.tip 67 1 E.length))) k8 (some (.row 66 3 (rowE wkT l)))⟩) (fun p => ts.length - p) 0 ⟨_, Wk.keep 121 [(0, .c (.a (.bp k 0))), (7, .c (.a (.ts k7 .nn 1 E))), (43, iX .i64 ((n + 1 : Nat) : Int)), (44, iX .i64 ((t : Nat) : Int)), (5, .c (.a (.t (.sl .un 3 (cur.map wkT))))), (8, .c (.a (.os k8 0 (n + 1) 3))), (59, .c (.a (.t (.sl .un 1 (ts.map i64T))))), (60, iX .i64 ((ts.map i64T).length : Nat)), (61, iX .i64 ((((0 : Nat)) : Nat) : Int))] [] (upd (upd H k7 (some (.tip 67 1 E.length))) k8 (some (.row 66 3 (rowE wkT (l))))) rfl ⟨rfl, rfl, rfl, rfl, rfl, rfl, rfl, rfl, rfl, trivial⟩ trivial (fun _ _ h => h) rfl, l, ⟨by omega, PS.start hl hcl (fun v hv => by have := hf v hv; rwa [if_pos (by omega)] at this) hcs⟩, rfl⟩ (fun p s hs => ?_)
        obtain ⟨l, ⟨hp, hps⟩, rfl⟩ := hs
        refine AW.seq ?_
        refine AW.reg ?_
        refine SeqK.q (q_lss rfl rfl rfl) rfl rfl rfl ?_
        refine SeqK.nil ?_
        refine AW.seq ?_
        refine AW.condD rfl (fun h62 => ?_) (fun h62 => ?_)
        ·
          have hka : p < ts.length := by simp at h62; omega
          have hq := hts.1 _ (List.getElem_mem hka)
          have hq9 : ts[p].toNat < all.length := by omega
          obtain ⟨ho1, ho2, ho3, ho4, ho5, ho6⟩ := hbnd _ (List.getElem_mem hq9)
          have hj9 : all[ts[p].toNat].j.toNat < cur.length := by omega
          have hi9 : all[ts[p].toNat].i.toNat < l.length := by rw [hps.len]; omega
          have hw := hcs all[ts[p].toNat].j
          rw [at_get hj9] at hw
          obtain ⟨hw1, hw2⟩ := hw
          refine AW.skip ?_
          refine AW.seq ?_
          refine AW.block ?_
          refine AW.seq ?_
          refine AW.reg ?_
          refine SeqK.q (q_index _ rfl Fx.sl36 rfl rfl (by omega) (idx_map hka)) rfl rfl rfl ?_
          refine SeqK.q (q_load (.a _) rfl Fx.ty3 rfl rfl rfl) rfl rfl rfl ?_
          refine SeqK.q (q_asC rfl rfl) rfl rfl rfl ?_
          refine SeqK.nil ?_
          refine AW.seq ?_
          refine AW.reg ?_
          refine SeqK.q (q_mvC rfl rfl) rfl rfl rfl ?_
          refine SeqK.q (q_nilH rfl rfl) rfl rfl rfl ?_
          refine SeqK.q (q_fieldH _ rfl Fx.fl73_1 rfl rfl) rfl rfl rfl ?_
          refine SeqK.r (g_load (r := .a _) rfl Fx.ty70 rfl (by (repeat rw [upd_ne _ _ (by first | assumption | exact Ne.symm (by assumption))]); first | assumption | exact upd_same _ _ _) rfl rfl rfl rfl) rfl ?_
          refine SeqK.q (q_mvC rfl rfl) rfl rfl rfl ?_
          refine SeqK.q (q_indexTs _ rfl Fx.sl70 rfl rfl (by omega) (idx_mapI hq9)) rfl rfl rfl ?_
          refine SeqK.q (q_load (.g [_, _, _]) rfl Fx.ty78 rfl rfl rfl) rfl rfl rfl ?_
          refine SeqK.r (b_alloc (r := [_, _, _]) rfl rfl Fx.ze78 rfl rfl rfl rfl) rfl ?_
          refine SeqK.r (b_store (r := [_, _, _]) rfl rfl Fx.ty78 rfl rfl rfl rfl rfl rfl) rfl ?_
          refine SeqK.nil ?_
          refine AW.seq ?_
          refine AW.reg ?_
          refine SeqK.q (q_mvC rfl rfl) rfl rfl rfl ?_
          refine SeqK.q (q_fieldL _ rfl Fx.fl78_1 rfl rfl) rfl rfl rfl ?_
          refine SeqK.r (b_load (r := .a _) rfl Fx.ty3 rfl rfl rfl rfl rfl rfl) rfl ?_
          refine SeqK.q (q_index _ rfl Fx.sl67 rfl rfl (by omega) (idx_mapI hj9)) rfl rfl rfl ?_
          refine SeqK.q (q_load (.g [_, _, _]) rfl Fx.ty66 rfl rfl rfl) rfl rfl rfl ?_
          refine SeqK.r (b_alloc (r := [_, _, _]) rfl rfl Fx.ze66 rfl rfl rfl rfl) rfl ?_
          refine SeqK.r (b_store (r := [_, _, _]) rfl rfl Fx.ty66 rfl rfl rfl rfl rfl rfl) rfl ?_
          refine SeqK.nil ?_
          refine AW.seq ?_
          refine AW.draw Fx.mo ?_
          refine LexK.q (q_fieldL _ rfl Fx.fl66_0 rfl rfl) rfl rfl rfl ?_
          refine LexK.r (b_load (r := .a _) rfl Fx.ty4 rfl rfl rfl rfl rfl rfl) rfl ?_
          refine LexK.qB (q_mvC rfl rfl) rfl rfl rfl (fun g79 => ?_) (fun g79 => ?_)
          ·
            refine LexK.on (q_mvC rfl rfl) rfl rfl rfl rfl rfl ?_
            refine LexK.on (q_fieldL _ rfl Fx.fl78_0 rfl rfl) rfl rfl rfl rfl rfl ?_
            refine LexK.rOn (b_load (r := .a _) rfl Fx.ty3 rfl rfl rfl rfl rfl rfl) rfl rfl rfl ?_
            refine LexK.on (q_indexOs _ rfl Fx.sl67 rfl rfl (by omega) (by omega) rfl) rfl rfl rfl rfl rfl ?_
            refine LexK.on (q_fieldH _ rfl Fx.fl66_0 rfl rfl) rfl rfl rfl rfl rfl ?_
            refine LexK.rOn (g_loadR rfl Fx.ty4 rfl (by (repeat rw [upd_ne _ _ (by first | assumption | exact Ne.symm (by assumption))]); first | assumption | exact upd_same _ _ _) (congrArg (mkC _) (row_ldf wk3 hi9 (by decide))) (row_in wk3 hi9 (by decide)) (by decide) rfl rfl) rfl rfl rfl ?_
            refine LexK.on (q_not rfl rfl) rfl rfl rfl rfl rfl ?_
            refine LexK.onB (q_mvC rfl rfl) rfl rfl rfl rfl rfl (fun g87 => ?_) (fun g87 => ?_)
            ·
              refine LexK.off rfl rfl rfl rfl rfl rfl ?_
              refine LexK.off rfl rfl rfl rfl rfl rfl ?_
              refine LexK.off rfl rfl rfl rfl rfl rfl ?_
              refine LexK.off rfl rfl rfl rfl rfl rfl ?_
              refine LexK.off rfl rfl rfl rfl rfl rfl ?_
              refine LexK.off rfl rfl rfl rfl rfl rfl ?_
              refine LexK.off rfl rfl rfl rfl rfl rfl ?_
              refine LexK.off rfl rfl rfl rfl rfl rfl ?_
              refine LexK.off rfl rfl rfl rfl rfl rfl ?_
              refine LexK.off rfl rfl rfl rfl rfl rfl ?_
              refine LexK.off rfl rfl rfl rfl rfl rfl ?_
              refine LexK.off rfl rfl rfl rfl rfl rfl ?_
              refine LexK.on (q_pkT rfl rfl rfl) rfl rfl rfl rfl rfl ?_
              refine LexK.q (q_pkT rfl rfl rfl) rfl rfl rfl ?_
              refine LexK.nil (by kernel_rfl) ?_
              refine AW.condT rfl ?_
              refine AW.reg ?_
              refine SeqK.q (q_mvC rfl rfl) rfl rfl rfl ?_
              refine SeqK.q (q_fieldL _ rfl Fx.fl78_0 rfl rfl) rfl rfl rfl ?_
              refine SeqK.r (b_load (r := .a _) rfl Fx.ty3 rfl rfl rfl rfl rfl rfl) rfl ?_
              refine SeqK.q (q_fieldL _ rfl Fx.fl66_1 rfl rfl) rfl rfl rfl ?_
              refine SeqK.r (b_load (r := .a _) rfl Fx.ty2 rfl rfl rfl rfl rfl rfl) rfl ?_
              refine SeqK.q (q_fieldL _ rfl Fx.fl78_2 rfl rfl) rfl rfl rfl ?_
              refine SeqK.r (b_load (r := .a _) rfl Fx.ty2 rfl rfl rfl rfl rfl rfl) rfl ?_
              refine SeqK.q (q_add _ rfl rfl rfl (w64 (by omega) (by omega))) rfl rfl rfl ?_
              refine SeqK.q (q_mvC rfl rfl) rfl rfl rfl ?_
              refine SeqK.q (q_build2 (zs := [_, _, _]) (r := [_, _, _]) [(0, 1), (1, 1), (2, 1)] _ rfl Fx.ze66 rfl Fx.bp66 rfl rfl rfl rfl) rfl rfl rfl ?_
              refine SeqK.q (q_indexOs _ rfl Fx.sl67 rfl rfl (by omega) (by omega) rfl) rfl rfl rfl ?_
              refine SeqK.r (g_storeR rfl rfl Fx.ty66 rfl rfl (by (repeat rw [upd_ne _ _ (by first | assumption | exact Ne.symm (by assumption))]); first | assumption | exact upd_same _ _ _) (row_st wk3 hi9 ⟨true, _, _⟩) rfl (row_in0 wk3 hi9) (by decide)) rfl ?_
              refine SeqK.nil ?_
              refine AW.reg ?_
              refine SeqK.q (q_add _ rfl rfl rfl (w64 (by omega) (by omega))) rfl rfl rfl ?_
              refine SeqK.q (q_mvC rfl rfl) rfl rfl rfl ?_
              refine SeqK.nil ?_
              exact ⟨p + 1, _, Wk.keep 121 [(0, .c (.a (.bp k 0))), (7, .c (.a (.ts k7 .nn 1 E))), (43, iX .i64 ((n + 1 : Nat) : Int)), (44, iX .i64 ((t : Nat) : Int)), (5, .c (.a (.t (.sl .un 3 (cur.map wkT))))), (8, .c (.a (.os k8 0 (n + 1) 3))), (59, .c (.a (.t (.sl .un 1 (ts.map i64T))))), (60, iX .i64 ((ts.map i64T).length : Nat)), (61, iX .i64 (((p + 1) : Nat) : Int))] [] (upd (upd H k7 (some (.tip 67 1 E.length))) k8 (some (.row 66 3 (rowE wkT (l.set all[ts[p].toNat].i.toNat ⟨true, cur[all[ts[p].toNat].j.toNat].w + all[ts[p].toNat].c, ts[p]⟩))))) rfl ⟨rfl, rfl, rfl, rfl, rfl, rfl, rfl, rfl, rfl, trivial⟩ trivial (fun j o h => by show upd (upd _ k8 _) k8 _ j = _; rw [upd_upd]; exact h) rfl, by omega, l.set all[ts[p].toNat].i.toNat ⟨true, cur[all[ts[p].toNat].j.toNat].w + all[ts[p].toNat].c, ts[p]⟩, ⟨by omega, by
                have := hps.relax hbnd hka hq hcs (by rw [bd_get hq9, at_get hj9]; exact g79) (by rw [bd_get hq9, at_get hj9, at_get hi9]; intro h9; simp [h9] at g87)
                rw [bd_get hq9, at_get hj9] at this
                exact this⟩, rfl⟩
            ·
              refine LexK.on (q_fieldL _ rfl Fx.fl66_1 rfl rfl) rfl rfl rfl rfl rfl ?_
              refine LexK.rOn (b_load (r := .a _) rfl Fx.ty2 rfl rfl rfl rfl rfl rfl) rfl rfl rfl ?_
              refine LexK.on (q_fieldL _ rfl Fx.fl78_2 rfl rfl) rfl rfl rfl rfl rfl ?_
              refine LexK.rOn (b_load (r := .a _) rfl Fx.ty2 rfl rfl rfl rfl rfl rfl) rfl rfl rfl ?_
              refine LexK.on (q_add _ rfl rfl rfl (w64 (by omega) (by omega))) rfl rfl rfl rfl rfl ?_
              refine LexK.on (q_mvC rfl rfl) rfl rfl rfl rfl rfl ?_
              refine LexK.on (q_fieldL _ rfl Fx.fl78_0 rfl rfl) rfl rfl rfl rfl rfl ?_
              refine LexK.rOn (b_load (r := .a _) rfl Fx.ty3 rfl rfl rfl rfl rfl rfl) rfl rfl rfl ?_
              refine LexK.on (q_indexOs _ rfl Fx.sl67 rfl rfl (by omega) (by omega) rfl) rfl rfl rfl rfl rfl ?_
              refine LexK.on (q_fieldH _ rfl Fx.fl66_1 rfl rfl) rfl rfl rfl rfl rfl ?_
              refine LexK.rOn (g_loadR rfl Fx.ty2 rfl (by (repeat rw [upd_ne _ _ (by first | assumption | exact Ne.symm (by assumption))]); first | assumption | exact upd_same _ _ _) (congrArg (mkC _) (row_ldf wk3 hi9 (by decide))) (row_in wk3 hi9 (by decide)) (by decide) rfl rfl) rfl rfl rfl ?_
              refine LexK.on (q_lss rfl rfl rfl) rfl rfl rfl rfl rfl ?_
              refine LexK.on (q_pkF rfl rfl rfl) rfl rfl rfl rfl rfl ?_
              refine LexK.q (q_pkT rfl rfl rfl) rfl rfl rfl ?_
              refine LexK.nil (by kernel_rfl) ?_
              refine AW.condD rfl (fun h101 => ?_) (fun h101 => ?_)
              ·
                refine AW.reg ?_
                refine SeqK.q (q_mvC rfl rfl) rfl rfl rfl ?_
                refine SeqK.q (q_fieldL _ rfl Fx.fl78_0 rfl rfl) rfl rfl rfl ?_
                refine SeqK.r (b_load (r := .a _) rfl Fx.ty3 rfl rfl rfl rfl rfl rfl) rfl ?_
                refine SeqK.q (q_fieldL _ rfl Fx.fl66_1 rfl rfl) rfl rfl rfl ?_
                refine SeqK.r (b_load (r := .a _) rfl Fx.ty2 rfl rfl rfl rfl rfl rfl) rfl ?_
                refine SeqK.q (q_fieldL _ rfl Fx.fl78_2 rfl rfl) rfl rfl rfl ?_
                refine SeqK.r (b_load (r := .a _) rfl Fx.ty2 rfl rfl rfl rfl rfl rfl) rfl ?_
                refine SeqK.q (q_add _ rfl rfl rfl (w64 (by omega) (by omega))) rfl rfl rfl ?_
                refine SeqK.q (q_mvC rfl rfl) rfl rfl rfl ?_
                refine SeqK.q (q_build2 (zs := [_, _, _]) (r := [_, _, _]) [(0, 1), (1, 1), (2, 1)] _ rfl Fx.ze66 rfl Fx.bp66 rfl rfl rfl rfl) rfl rfl rfl ?_
                refine SeqK.q (q_indexOs _ rfl Fx.sl67 rfl rfl (by omega) (by omega) rfl) rfl rfl rfl ?_
                refine SeqK.r (g_storeR rfl rfl Fx.ty66 rfl rfl (by (repeat rw [upd_ne _ _ (by first | assumption | exact Ne.symm (by assumption))]); first | assumption | exact upd_same _ _ _) (row_st wk3 hi9 ⟨true, _, _⟩) rfl (row_in0 wk3 hi9) (by decide)) rfl ?_
                refine SeqK.nil ?_
                refine AW.reg ?_
                refine SeqK.q (q_add _ rfl rfl rfl (w64 (by omega) (by omega))) rfl rfl rfl ?_
                refine SeqK.q (q_mvC rfl rfl) rfl rfl rfl ?_
                refine SeqK.nil ?_
                exact ⟨p + 1, _, Wk.keep 121 [(0, .c (.a (.bp k 0))), (7, .c (.a (.ts k7 .nn 1 E))), (43, iX .i64 ((n + 1 : Nat) : Int)), (44, iX .i64 ((t : Nat) : Int)), (5, .c (.a (.t (.sl .un 3 (cur.map wkT))))), (8, .c (.a (.os k8 0 (n + 1) 3))), (59, .c (.a (.t (.sl .un 1 (ts.map i64T))))), (60, iX .i64 ((ts.map i64T).length : Nat)), (61, iX .i64 (((p + 1) : Nat) : Int))] [] (upd (upd H k7 (some (.tip 67 1 E.length))) k8 (some (.row 66 3 (rowE wkT (l.set all[ts[p].toNat].i.toNat ⟨true, cur[all[ts[p].toNat].j.toNat].w + all[ts[p].toNat].c, ts[p]⟩))))) rfl ⟨rfl, rfl, rfl, rfl, rfl, rfl, rfl, rfl, rfl, trivial⟩ trivial (fun j o h => by show upd (upd _ k8 _) k8 _ j = _; rw [upd_upd]; exact h) rfl, by omega, l.set all[ts[p].toNat].i.toNat ⟨true, cur[all[ts[p].toNat].j.toNat].w + all[ts[p].toNat].c, ts[p]⟩, ⟨by omega, by
                  have := hps.relax hbnd hka hq hcs (by rw [bd_get hq9, at_get hj9]; exact g79) (by rw [bd_get hq9, at_get hj9, at_get hi9]; intro _; exact h101)
                  rw [bd_get hq9, at_get hj9] at this
                  exact this⟩, rfl⟩
              ·
                refine AW.skip ?_
                refine AW.reg ?_
                refine SeqK.q (q_add _ rfl rfl rfl (w64 (by omega) (by omega))) rfl rfl rfl ?_
                refine SeqK.q (q_mvC rfl rfl) rfl rfl rfl ?_
                refine SeqK.nil ?_
                exact ⟨p + 1, _, Wk.keep 121 [(0, .c (.a (.bp k 0))), (7, .c (.a (.ts k7 .nn 1 E))), (43, iX .i64 ((n + 1 : Nat) : Int)), (44, iX .i64 ((t : Nat) : Int)), (5, .c (.a (.t (.sl .un 3 (cur.map wkT))))), (8, .c (.a (.os k8 0 (n + 1) 3))), (59, .c (.a (.t (.sl .un 1 (ts.map i64T))))), (60, iX .i64 ((ts.map i64T).length : Nat)), (61, iX .i64 (((p + 1) : Nat) : Int))] [] (upd (upd H k7 (some (.tip 67 1 E.length))) k8 (some (.row 66 3 (rowE wkT (l))))) rfl ⟨rfl, rfl, rfl, rfl, rfl, rfl, rfl, rfl, rfl, trivial⟩ trivial (fun _ _ h => h) rfl, by omega, l, ⟨by omega, hps.skip hka (by rw [bd_get hq9, at_get hj9, at_get hi9]; intro _; exact ⟨by simpa using g87, by omega⟩)⟩, rfl⟩
          ·
            refine LexK.off rfl rfl rfl rfl rfl rfl ?_
            refine LexK.off rfl rfl rfl rfl rfl rfl ?_
            refine LexK.off rfl rfl rfl rfl rfl rfl ?_
            refine LexK.off rfl rfl rfl rfl rfl rfl ?_
            refine LexK.off rfl rfl rfl rfl rfl rfl ?_
            refine LexK.off rfl rfl rfl rfl rfl rfl ?_
            refine LexK.off rfl rfl rfl rfl rfl rfl ?_
            refine LexK.off rfl rfl rfl rfl rfl rfl ?_
            refine LexK.offU rfl rfl rfl rfl rfl ?_
            refine LexK.offU rfl rfl rfl rfl rfl ?_
            refine LexK.offU rfl rfl rfl rfl rfl ?_
            refine LexK.offU rfl rfl rfl rfl rfl ?_
            refine LexK.offU rfl rfl rfl rfl rfl ?_
            refine LexK.offU rfl rfl rfl rfl rfl ?_
            refine LexK.offU rfl rfl rfl rfl rfl ?_
            refine LexK.offU rfl rfl rfl rfl rfl ?_
            refine LexK.offU rfl rfl rfl rfl rfl ?_
            refine LexK.offU rfl rfl rfl rfl rfl ?_
            refine LexK.offU rfl rfl rfl rfl rfl ?_
            refine LexK.offU rfl rfl rfl rfl rfl ?_
            refine LexK.off rfl rfl rfl rfl rfl rfl ?_
            refine LexK.q (q_pkF rfl rfl rfl) rfl rfl rfl ?_
            refine LexK.nil (by kernel_rfl) ?_
            refine AW.condF rfl ?_
            refine AW.skip ?_
            refine AW.reg ?_
            refine SeqK.q (q_add _ rfl rfl rfl (w64 (by omega) (by omega))) rfl rfl rfl ?_
            refine SeqK.q (q_mvC rfl rfl) rfl rfl rfl ?_
            refine SeqK.nil ?_
            exact ⟨p + 1, _, Wk.keep 121 [(0, .c (.a (.bp k 0))), (7, .c (.a (.ts k7 .nn 1 E))), (43, iX .i64 ((n + 1 : Nat) : Int)), (44, iX .i64 ((t : Nat) : Int)), (5, .c (.a (.t (.sl .un 3 (cur.map wkT))))), (8, .c (.a (.os k8 0 (n + 1) 3))), (59, .c (.a (.t (.sl .un 1 (ts.map i64T))))), (60, iX .i64 ((ts.map i64T).length : Nat)), (61, iX .i64 (((p + 1) : Nat) : Int))] [] (upd (upd H k7 (some (.tip 67 1 E.length))) k8 (some (.row 66 3 (rowE wkT (l))))) rfl ⟨rfl, rfl, rfl, rfl, rfl, rfl, rfl, rfl, rfl, trivial⟩ trivial (fun _ _ h => h) rfl, by omega, l, ⟨by omega, hps.skip hka (by rw [bd_get hq9, at_get hj9, at_get hi9]; intro h9; rw [h9] at g79; cases g79)⟩, rfl⟩
        ·
          refine AW.exit ?_
          refine eth_e ?_
          refine eth_e ?_
          refine exit_here ?_
          obtain rfl : p = ts.length := by simp at h62; omega
          have hl := hps.len
          refine AW.gh (Gh.freeze k8 3 66 (l.map wkT) (upd_same _ _ _) (fun e he => by obtain ⟨x, _, rfl⟩ := List.mem_map.1 he; rfl) (by decide)) ?_
          rintro s rfl
          refine AW.wk (Wk.keep 121 [(0, .c (.a (.bp k 0))), (7, .c (.a (.ts k7 .nn 1 E))), (43, iX .i64 ((n + 1 : Nat) : Int)), (44, iX .i64 ((t : Nat) : Int)), (8, .c (.a (.t (.sl .un 3 (l.map wkT)))))] [] (upd H k7 (some (.tip 67 1 E.length))) rfl ⟨rfl, rfl, rfl, rfl, by show fzX _ _ _ (.c (.a (.os _ 0 (n + 1) 3))) = _; rw [show n + 1 = (l.map wkT).length by simp [hl]]; simp [fzX, fzC, fzA], trivial⟩ trivial (fun j o h => by show upd (upd (upd H k7 _) k8 _) k8 none j = _; rw [upd_back hk8]; exact h) rfl) ?_
          refine AW.reg ?_
          refine SeqK.q (q_mvC rfl rfl) rfl rfl rfl ?_
          refine SeqK.q (q_mvC rfl rfl) rfl rfl rfl ?_
          refine SeqK.q (q_buildSlice _ rfl Fx.el68 rfl (by decide) rfl) rfl rfl rfl ?_
          refine SeqK.app1 rfl (by assumption) rfl Fx.el68 rfl rfl (by simp; omega) rfl rfl (fun k117 hk117 => ?_)
          refine SeqK.q (q_mvC rfl rfl) rfl rfl rfl ?_
          refine SeqK.q (q_asC rfl rfl) rfl rfl rfl ?_
          refine SeqK.q (q_asC rfl rfl) rfl rfl rfl ?_
          refine SeqK.nil ?_
          refine AW.reg ?_
          refine SeqK.q (q_add _ rfl rfl rfl (w64 (by omega) (by omega))) rfl rfl rfl ?_
          refine SeqK.q (q_mvC rfl rfl) rfl rfl rfl ?_
          refine SeqK.nil ?_
          exact ⟨t + 1, _, Wk.keep 121 [(0, .c (.a (.bp k 0))), (7, .c (.a (.ts (k117) .nn 1 (E ++ [lvT l])))), (43, iX .i64 ((n + 1 : Nat) : Int)), (44, iX .i64 (((t + 1) : Nat) : Int)), (5, .c (.a (.t (.sl .un 3 ((l).map wkT)))))] [] (upd H (k117) (some (.tip 67 1 (E ++ [lvT l]).length))) rfl ⟨rfl, rfl, rfl, rfl, rfl, trivial⟩ trivial (fun _ _ h => h) rfl, by omega, k117, ls ++ [l], l, E ++ [lvT l], ⟨by omega, hk117, by rw [hE]; simp, hpre.snoc (by rw [← hcur]; exact hps.done hts.2) hps.small, by rw [getD_snoc, if_neg (by rw [hpre.len]; omega), if_pos (by rw [hpre.len])], fun ts2 h2 => by
            rw [← hte.uniq h2]
            show _ = walksF all ts _ t ++ [nextF all ts ((walksF all ts _ t).getD t [])]
            rw [← hdet ts hte, ← hcur, ← hps.next]⟩, rfl⟩
    ·
      refine AW.exit ?_
      refine eth_e ?_
      refine eth_e ?_
      refine exit_here ?_
      refine AW.seq ?_
      refine AW.reg ?_
      refine SeqK.q (q_mvC rfl rfl) rfl rfl rfl ?_
      refine SeqK.q (q_asC rfl rfl) rfl rfl rfl ?_
      refine SeqK.nil ?_
      refine AW.ret ?_
      obtain rfl : t = n + 1 := by simp at h45; omega
      exact fin_w (x := .c _) (H) (.tmp rfl .nil) rfl (upd_sub hk7) (⟨ls, by rw [hE]; rfl, hpre, hdet, rfl⟩)


theorem walks_any (H : Heap) (k n : Nat) (all : List Bd) (fr : Int) (I : MatR H k n all) (hal : all.length ≤ 100000) :
    E.Spec Try.prog 28 [.a (.bp k 0), iC fr] H fun x H' => ∃ ls, x = .c (.a (.t (.sl .nn 1 (ls.map lvT)))) ∧ Pre all n (fun v => decide (fr < 0) || decide (v = fr)) ls (n + 1) ∧ H' = H := by
  obtain ⟨z, k3, k1, es, ck, r, I⟩ := I
  exact (walks_at H k n all fr I hal).mono fun _ _ ⟨ls, h1, h2, _, h3⟩ => ⟨ls, h1, h2, h3⟩
/-- the levels do not hang on the order that the map was walked in -/
theorem walks_pure (H : Heap) (k n : Nat) (all : List Bd) (fr : Int) (I : MatR H k n all) (hal : all.length ≤ 100000) :
    ∃ ls, Pre all n (fun v => decide (fr < 0) || decide (v = fr)) ls (n + 1) ∧ E.Spec Try.prog 28 [.a (.bp k 0), iC fr] H fun x H' => x = .c (.a (.t (.sl .nn 1 (ls.map lvT)))) ∧ H' = H := by
  obtain ⟨z, k3, k1, es, ck, r, I⟩ := I
  have hr : ∀ i j k, r i j = some k → k < all.length := fun i j k h => by have := I.least i j; rw [h] at this; exact this.1
  obtain ⟨ts, hts⟩ := TightEx.ex hr
  refine ⟨walksF all ts (firstF n fr) (n + 1), Pre.ex I.bnd (fun v hv => ?_) (fun b hb => ?_) _, (walks_at H k n all fr I hal).mono fun _ _ ⟨ls, h1, h2, h3, h4⟩ => ⟨by rw [h1, h3 ts hts], h4⟩⟩
  · obtain ⟨i, j, k, h1, rfl⟩ := hts.of v hv
    have := hr i j k h1; omega
  · have hl := I.least b.i b.j
    cases h : r b.i b.j with
    | none => rw [h] at hl; exact absurd ⟨rfl, rfl⟩ (hl b hb)
    | some k9 =>
      rw [h] at hl
      refine ⟨(k9 : Int), hts.mem _ _ _ h, ?_⟩
      have := hl.2.2.2 b hb rfl rfl
      exact ⟨by simpa using hl.2.1, by simpa using hl.2.2.1, by simpa using this⟩

end Go.Proofs.Ytkpacejikoengaa.W
