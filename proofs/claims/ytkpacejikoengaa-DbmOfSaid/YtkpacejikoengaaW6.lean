import Derived.Test.YtkpacejikoengaaW5
import Derived.Test.YtkpacejikoengaaP1
namespace Go.Proofs.Ytkpacejikoengaa.W
open Go.RowKit E M
set_option linter.unusedVariables false
set_option linter.unusedSimpArgs false
theorem sat_pure (H : Heap) (k n : Nat) (all : List Bd) (IR : MatR H k n all) (hal : all.length ≤ 100000) {b : Bool} (hb : satB all = b) : E.Spec Try.prog 15 [.a (.bp k 0)] H fun x H' => x = bX b ∧ H' = H :=
  (sat_any H k n all IR hal).mono fun x H' ⟨b', h1, h2, h3⟩ => ⟨by rw [h1, ← hb, satB_of h3], h2⟩
theorem is_pure (H : Heap) (k n : Nat) (all : List Bd) (i : Int) (I : MatR H k n all) {b : Bool} (hb : decide (0 ≤ i ∧ i ≤ n) = b) : E.Spec Try.prog 27 [.a (.bp k 0), iC i] H fun x H' => x = bX b ∧ H' = H :=
  (is_any H k n all i I).mono fun x H' h => ⟨by rw [h.1, hb], h.2⟩

set_option maxRecDepth 20000 in
theorem bound_any (H : Heap) (k n : Nat) (all : List Bd) (i j : Int) (IR : MatR H k n all) (hal : all.length ≤ 100000) : E.Spec Try.prog 16 [.a (.bp k 0), iC i, iC j] H fun x H' => (∃ c ok, x = .tup [iC c, .a (.t (.v (.bool ok)))] ∧ BRes all n i j c ok) ∧ H' = H := by
  have hbnd := IR.bnd
  have hn64 := IR.n64
  have hbox : ∃ A B, H k = some (.box [.t (.v (.int .i64 (n : Nat))), A, B]) := by obtain ⟨z, k3, k1, es, ck, r, I⟩ := IR; exact ⟨_, _, I.box⟩
  obtain ⟨A3, B3, hbox⟩ := hbox
  refine Spec.enter Try.func16 rfl ?_
  refine AW.wk (Wk.keep 42 [(0, .c (.a (.bp k 0))), (1, .c (iC i)), (2, .c (iC j))] [] (H) rfl ⟨rfl, rfl, rfl, trivial⟩ trivial (fun _ _ h => h) rfl) ?_
  refine AW.seq ?_
  refine AW.reg ?_
  refine SeqK.q (q_asC rfl rfl) rfl rfl rfl ?_
  refine SeqK.q (q_asC rfl rfl) rfl rfl rfl ?_
  refine SeqK.nil ?_
  refine AW.seq ?_
  refine AW.seq ?_
  rcases em3 (0 ≤ i ∧ i ≤ n) (0 ≤ j ∧ j ≤ n) (Sat all) with hi | ⟨hi, hj⟩ | ⟨hi, hj, hs⟩ | ⟨hi, hj, hs⟩
  ·
    have hcase : True := trivial
    refine AW.reg ?_
    refine SeqK.q (q_mvC rfl rfl) rfl rfl rfl ?_
    refine SeqK.q (q_mvC rfl rfl) rfl rfl rfl ?_
    refine SeqK.r (g_call rfl Fx.fn27 rfl (is_pure H k n all i IR (decide_eq_false hi)) rfl rfl rfl) rfl ?_
    refine SeqK.q (q_not rfl rfl) rfl rfl rfl ?_
    refine SeqK.q (q_mvC rfl rfl) rfl rfl rfl ?_
    refine SeqK.off rfl rfl rfl rfl rfl rfl ?_
    refine SeqK.off rfl rfl rfl rfl rfl rfl ?_
    refine SeqK.off rfl rfl rfl rfl rfl rfl ?_
    refine SeqK.off rfl rfl rfl rfl rfl rfl ?_
    refine SeqK.q (q_pkT rfl rfl rfl) rfl rfl rfl ?_
    refine SeqK.q (q_mvC rfl rfl) rfl rfl rfl ?_
    refine SeqK.off rfl rfl rfl rfl rfl rfl ?_
    refine SeqK.off rfl rfl rfl rfl rfl rfl ?_
    refine SeqK.off rfl rfl rfl rfl rfl rfl ?_
    refine SeqK.q (q_pkT rfl rfl rfl) rfl rfl rfl ?_
    refine SeqK.nil ?_
    refine AW.condT rfl ?_
    refine AW.seq ?_
    refine AW.reg ?_
    refine SeqK.q (q_asC rfl rfl) rfl rfl rfl ?_
    refine SeqK.q (q_asC rfl rfl) rfl rfl rfl ?_
    refine SeqK.nil ?_
    refine AW.ret ?_
    exact fin_x (x := .tup [_, _]) (H) (.tmp rfl (.tmp rfl .nil)) rfl (fun _ _ h => h) (⟨⟨_, _, rfl, .inl ⟨fun h => hi h.1, rfl, rfl⟩⟩, rfl⟩)
  ·
    have hcase : True := trivial
    refine AW.reg ?_
    refine SeqK.q (q_mvC rfl rfl) rfl rfl rfl ?_
    refine SeqK.q (q_mvC rfl rfl) rfl rfl rfl ?_
    refine SeqK.r (g_call rfl Fx.fn27 rfl (is_pure H k n all i IR (decide_eq_true hi)) rfl rfl rfl) rfl ?_
    refine SeqK.q (q_not rfl rfl) rfl rfl rfl ?_
    refine SeqK.q (q_mvC rfl rfl) rfl rfl rfl ?_
    refine SeqK.on (q_mvC rfl rfl) rfl rfl rfl rfl rfl ?_
    refine SeqK.on (q_mvC rfl rfl) rfl rfl rfl rfl rfl ?_
    refine SeqK.rOn (g_call rfl Fx.fn27 rfl (is_pure H k n all j IR (decide_eq_false hj)) rfl rfl rfl) rfl rfl rfl ?_
    refine SeqK.on (q_not rfl rfl) rfl rfl rfl rfl rfl ?_
    refine SeqK.q (q_pkF rfl rfl rfl) rfl rfl rfl ?_
    refine SeqK.q (q_mvC rfl rfl) rfl rfl rfl ?_
    refine SeqK.off rfl rfl rfl rfl rfl rfl ?_
    refine SeqK.off rfl rfl rfl rfl rfl rfl ?_
    refine SeqK.off rfl rfl rfl rfl rfl rfl ?_
    refine SeqK.q (q_pkT rfl rfl rfl) rfl rfl rfl ?_
    refine SeqK.nil ?_
    refine AW.condT rfl ?_
    refine AW.seq ?_
    refine AW.reg ?_
    refine SeqK.q (q_asC rfl rfl) rfl rfl rfl ?_
    refine SeqK.q (q_asC rfl rfl) rfl rfl rfl ?_
    refine SeqK.nil ?_
    refine AW.ret ?_
    exact fin_x (x := .tup [_, _]) (H) (.tmp rfl (.tmp rfl .nil)) rfl (fun _ _ h => h) (⟨⟨_, _, rfl, .inl ⟨fun h => hj h.2.1, rfl, rfl⟩⟩, rfl⟩)
  ·
    have hcase : True := trivial
    refine AW.reg ?_
    refine SeqK.q (q_mvC rfl rfl) rfl rfl rfl ?_
    refine SeqK.q (q_mvC rfl rfl) rfl rfl rfl ?_
    refine SeqK.r (g_call rfl Fx.fn27 rfl (is_pure H k n all i IR (decide_eq_true hi)) rfl rfl rfl) rfl ?_
    refine SeqK.q (q_not rfl rfl) rfl rfl rfl ?_
    refine SeqK.q (q_mvC rfl rfl) rfl rfl rfl ?_
    refine SeqK.on (q_mvC rfl rfl) rfl rfl rfl rfl rfl ?_
    refine SeqK.on (q_mvC rfl rfl) rfl rfl rfl rfl rfl ?_
    refine SeqK.rOn (g_call rfl Fx.fn27 rfl (is_pure H k n all j IR (decide_eq_true hj)) rfl rfl rfl) rfl rfl rfl ?_
    refine SeqK.on (q_not rfl rfl) rfl rfl rfl rfl rfl ?_
    refine SeqK.q (q_pkF rfl rfl rfl) rfl rfl rfl ?_
    refine SeqK.q (q_mvC rfl rfl) rfl rfl rfl ?_
    refine SeqK.on (q_mvC rfl rfl) rfl rfl rfl rfl rfl ?_
    refine SeqK.rOn (g_call rfl Fx.fn15 rfl (sat_pure H k n all IR hal (satB_no hs)) rfl rfl rfl) rfl rfl rfl ?_
    refine SeqK.on (q_not rfl rfl) rfl rfl rfl rfl rfl ?_
    refine SeqK.q (q_pkF rfl rfl rfl) rfl rfl rfl ?_
    refine SeqK.nil ?_
    refine AW.condT rfl ?_
    refine AW.seq ?_
    refine AW.reg ?_
    refine SeqK.q (q_asC rfl rfl) rfl rfl rfl ?_
    refine SeqK.q (q_asC rfl rfl) rfl rfl rfl ?_
    refine SeqK.nil ?_
    refine AW.ret ?_
    exact fin_x (x := .tup [_, _]) (H) (.tmp rfl (.tmp rfl .nil)) rfl (fun _ _ h => h) (⟨⟨_, _, rfl, .inl ⟨fun h => hs h.2.2, rfl, rfl⟩⟩, rfl⟩)
  ·
    obtain ⟨ls, hpre, hw⟩ := walks_pure H k n all j IR hal
    have hL : Levels all n (fun v => decide (v = j)) ls := by
      have := hpre.levels
      have e : (fun v => decide (j < 0) || decide (v = j)) = fun v : Int => decide (v = j) := by funext v; simp; omega
      rwa [e] at this
    have hlen := hL.len
    have e1 : ls.getD (n + 1) [] = ls[n + 1] := getD_get (by omega)
    have e2 : ls[n + 1].length = n + 1 := by rw [← e1]; exact hpre.lens (Nat.le_refl _)
    have hi9 : i.toNat < ls[n + 1].length := by omega
    have hbr := hL.br hs hj.1 hj.2 hbnd hi.1 hi.2
    have e3 : W ls (n + 1) i = ls[n + 1][i.toNat] := by show at' (ls.getD (n + 1) []) i = _; rw [e1, at_get hi9]
    rw [e3] at hbr
    refine AW.reg ?_
    refine SeqK.q (q_mvC rfl rfl) rfl rfl rfl ?_
    refine SeqK.q (q_mvC rfl rfl) rfl rfl rfl ?_
    refine SeqK.r (g_call rfl Fx.fn27 rfl (is_pure H k n all i IR (decide_eq_true hi)) rfl rfl rfl) rfl ?_
    refine SeqK.q (q_not rfl rfl) rfl rfl rfl ?_
    refine SeqK.q (q_mvC rfl rfl) rfl rfl rfl ?_
    refine SeqK.on (q_mvC rfl rfl) rfl rfl rfl rfl rfl ?_
    refine SeqK.on (q_mvC rfl rfl) rfl rfl rfl rfl rfl ?_
    refine SeqK.rOn (g_call rfl Fx.fn27 rfl (is_pure H k n all j IR (decide_eq_true hj)) rfl rfl rfl) rfl rfl rfl ?_
    refine SeqK.on (q_not rfl rfl) rfl rfl rfl rfl rfl ?_
    refine SeqK.q (q_pkF rfl rfl rfl) rfl rfl rfl ?_
    refine SeqK.q (q_mvC rfl rfl) rfl rfl rfl ?_
    refine SeqK.on (q_mvC rfl rfl) rfl rfl rfl rfl rfl ?_
    refine SeqK.rOn (g_call rfl Fx.fn15 rfl (sat_pure H k n all IR hal (satB_yes hs)) rfl rfl rfl) rfl rfl rfl ?_
    refine SeqK.on (q_not rfl rfl) rfl rfl rfl rfl rfl ?_
    refine SeqK.q (q_pkF rfl rfl rfl) rfl rfl rfl ?_
    refine SeqK.nil ?_
    refine AW.condF rfl ?_
    refine AW.skip ?_
    refine AW.seq ?_
    refine AW.draw Fx.mo ?_
    refine LexK.q (q_mvC rfl rfl) rfl rfl rfl ?_
    refine LexK.q (q_mvC rfl rfl) rfl rfl rfl ?_
    refine LexK.r (g_call rfl Fx.fn28 rfl (hw) rfl rfl rfl) rfl ?_
    refine LexK.q (q_mvC rfl rfl) rfl rfl rfl ?_
    refine LexK.q (q_nilH rfl rfl) rfl rfl rfl ?_
    refine LexK.q (q_fieldH _ rfl Fx.fl73_0 rfl rfl) rfl rfl rfl ?_
    refine LexK.r (g_load (r := .a _) rfl Fx.ty3 rfl (by (repeat rw [upd_ne _ _ (by first | assumption | exact Ne.symm (by assumption))]); first | assumption | exact upd_same _ _ _) rfl rfl rfl rfl) rfl ?_
    refine LexK.q (q_add _ rfl rfl rfl ((by rw [w64 (by omega) (by omega)]; omega : IntKind.i64.wrap _ = ((n + 1 : Nat) : Int)))) rfl rfl rfl ?_
    refine LexK.q (q_index _ rfl Fx.sl68 rfl rfl (by omega) (idx_map (by omega))) rfl rfl rfl ?_
    refine LexK.q (q_load (.a _) rfl Fx.ty67 rfl rfl rfl) rfl rfl rfl ?_
    refine LexK.q (q_mvC rfl rfl) rfl rfl rfl ?_
    refine LexK.q (q_index _ rfl Fx.sl67 rfl rfl (by omega) (idx_mapI hi9)) rfl rfl rfl ?_
    refine LexK.q (q_load (.g [_, _, _]) rfl Fx.ty66 rfl rfl rfl) rfl rfl rfl ?_
    refine LexK.r (b_alloc (r := [_, _, _]) rfl rfl Fx.ze66 rfl rfl rfl rfl) rfl ?_
    refine LexK.r (b_store (r := [_, _, _]) rfl rfl Fx.ty66 rfl rfl rfl rfl rfl rfl) rfl ?_
    refine LexK.nil (by kernel_rfl) ?_
    refine AW.seq ?_
    refine AW.seq ?_
    refine AW.reg ?_
    refine SeqK.q (q_fieldL _ rfl Fx.fl66_0 rfl rfl) rfl rfl rfl ?_
    refine SeqK.r (b_load (r := .a _) rfl Fx.ty4 rfl rfl rfl rfl rfl rfl) rfl ?_
    refine SeqK.q (q_not rfl rfl) rfl rfl rfl ?_
    refine SeqK.nil ?_
    refine AW.cond _ rfl (fun h39 => ?_) (fun h39 => ?_)
    ·
      refine AW.seq ?_
      refine AW.reg ?_
      refine SeqK.q (q_asC rfl rfl) rfl rfl rfl ?_
      refine SeqK.q (q_asC rfl rfl) rfl rfl rfl ?_
      refine SeqK.nil ?_
      refine AW.ret ?_
      exact fin_x (x := .tup [_, _]) (H) (.tmp rfl (.tmp rfl .nil)) rfl (fun _ _ h => h) (⟨⟨_, _, rfl, .inr ⟨hi, hj, hs, by have h9 : ls[n + 1][i.toNat].known = false := (by simpa using h39); rw [h9, if_neg (by simp)] at hbr; exact hbr⟩⟩, rfl⟩)
    ·
      refine AW.skip ?_
      refine AW.seq ?_
      refine AW.reg ?_
      refine SeqK.q (q_fieldL _ rfl Fx.fl66_1 rfl rfl) rfl rfl rfl ?_
      refine SeqK.r (b_load (r := .a _) rfl Fx.ty2 rfl rfl rfl rfl rfl rfl) rfl ?_
      refine SeqK.q (q_asC rfl rfl) rfl rfl rfl ?_
      refine SeqK.q (q_asC rfl rfl) rfl rfl rfl ?_
      refine SeqK.nil ?_
      refine AW.ret ?_
      exact fin_x (x := .tup [_, _]) (H) (.tmp rfl (.tmp rfl .nil)) rfl (fun _ _ h => h) (⟨⟨_, _, rfl, .inr ⟨hi, hj, hs, by have h9 : ls[n + 1][i.toNat].known = true := (by simpa using h39); rw [h9, if_pos rfl] at hbr; exact hbr⟩⟩, rfl⟩)


/-- what Model answers -/
def MRes (all : List Bd) (n : Nat) (xs : List Int) : Prop := xs.length = n ∧ ∃ x : Int → Int, Sol all x ∧ (∀ (v : Nat) (h : v < xs.length), xs[v] = x v - x n) ∧ ∀ v : Int, 0 ≤ v → v ≤ n → -73183493944770560 ≤ x v ∧ x v ≤ 73183493944770560
theorem i64l : ∀ x : Int, (i64T x).length = 1 := fun _ => rfl
theorem flatE (xs : List Int) : (xs.map i64T).flatten.map A.t = rowE i64T xs := rfl

set_option maxRecDepth 20000 in
theorem model_any (H : Heap) (k n : Nat) (all : List Bd) (IR : MatR H k n all) (hal : all.length ≤ 100000) : E.Spec Try.prog 18 [.a (.bp k 0)] H fun x H' => ((¬ Sat all ∧ x = .tup [.a (.t (.v (.slice none 0 0))), .a (.t (.v (.bool false)))]) ∨ (Sat all ∧ ∃ xs, MRes all n xs ∧ x = .tup [.a (.t (.sl .un 1 (xs.map i64T))), .a (.t (.v (.bool true)))])) ∧ H' = H := by
  have hbnd := IR.bnd
  have hn64 := IR.n64
  have hbox : ∃ A B, H k = some (.box [.t (.v (.int .i64 (n : Nat))), A, B]) := by obtain ⟨z, k3, k1, es, ck, r, I⟩ := IR; exact ⟨_, _, I.box⟩
  obtain ⟨A3, B3, hbox⟩ := hbox
  refine Spec.enter Try.func18 rfl ?_
  refine AW.wk (Wk.keep 48 [(0, .c (.a (.bp k 0)))] [] (H) rfl ⟨rfl, trivial⟩ trivial (fun _ _ h => h) rfl) ?_
  refine AW.seq ?_
  refine AW.reg ?_
  refine SeqK.q (q_asC rfl rfl) rfl rfl rfl ?_
  refine SeqK.q (q_asC rfl rfl) rfl rfl rfl ?_
  refine SeqK.nil ?_
  refine AW.seq ?_
  refine AW.seq ?_
  by_cases hs : Sat all
  ·
    obtain ⟨ls, hpre, hw⟩ := walks_pure H k n all (-1) IR hal
    have hL : Levels all n (fun _ => true) ls := hpre.levels
    have hlen := hL.len
    have e1 : ls.getD (n + 1) [] = ls[n + 1] := getD_get (by omega)
    have e2 : ls[n + 1].length = n + 1 := by rw [← e1]; exact hpre.lens (Nat.le_refl _)
    have e3 : ∀ (v : Int), 0 ≤ v → v ≤ n → ∀ (h : v.toNat < ls[n + 1].length), (W ls (n + 1) v).w = ls[n + 1][v.toNat].w := fun v h0 h1 h => by show (at' (ls.getD (n + 1) []) v).w = _; rw [e1, at_get h]
    have hbw : ∀ v : Int, -73183493944770560 ≤ (W ls (n + 1) v).w ∧ (W ls (n + 1) v).w ≤ 73183493944770560 := fun v => by have h := hpre.small (n + 1) (Nat.le_refl _) v; exact ⟨by have := h.1; omega, by have := h.2; omega⟩
    have hbd : ∀ (v : Int) (h0 : 0 ≤ v) (h1 : v ≤ n), -73183493944770560 ≤ (ls[n + 1][v.toNat]'(by omega)).w ∧ (ls[n + 1][v.toNat]'(by omega)).w ≤ 73183493944770560 := fun v h0 h1 => by have h := hbw v; rwa [e3 v h0 h1 (by omega)] at h
    have hst : ∀ v : Int, 0 ≤ v → v ≤ n → (W ls (n + 1) v).last = -1 := fun v g0 g1 => hL.still hbnd hs g0 g1
    have hsol := hL.sat hbnd hst
    refine AW.reg ?_
    refine SeqK.q (q_mvC rfl rfl) rfl rfl rfl ?_
    refine SeqK.r (g_call rfl Fx.fn15 rfl (sat_pure H k n all IR hal (satB_yes hs)) rfl rfl rfl) rfl ?_
    refine SeqK.q (q_not rfl rfl) rfl rfl rfl ?_
    refine SeqK.nil ?_
    refine AW.condF rfl ?_
    refine AW.skip ?_
    refine AW.seq ?_
    refine AW.draw Fx.mo ?_
    refine LexK.q (q_mvC rfl rfl) rfl rfl rfl ?_
    refine LexK.r (g_call rfl Fx.fn28 rfl (hw) rfl rfl rfl) rfl ?_
    refine LexK.q (q_mvC rfl rfl) rfl rfl rfl ?_
    refine LexK.q (q_nilH rfl rfl) rfl rfl rfl ?_
    refine LexK.q (q_fieldH _ rfl Fx.fl73_0 rfl rfl) rfl rfl rfl ?_
    refine LexK.r (g_load (r := .a _) rfl Fx.ty3 rfl (by (repeat rw [upd_ne _ _ (by first | assumption | exact Ne.symm (by assumption))]); first | assumption | exact upd_same _ _ _) rfl rfl rfl rfl) rfl ?_
    refine LexK.q (q_add _ rfl rfl rfl ((by rw [w64 (by omega) (by omega)]; omega : IntKind.i64.wrap _ = ((n + 1 : Nat) : Int)))) rfl rfl rfl ?_
    refine LexK.q (q_index _ rfl Fx.sl68 rfl rfl (by omega) (idx_map (by omega))) rfl rfl rfl ?_
    refine LexK.q (q_load (.a _) rfl Fx.ty67 rfl rfl rfl) rfl rfl rfl ?_
    refine LexK.q (q_asC rfl rfl) rfl rfl rfl ?_
    refine LexK.nil (by kernel_rfl) ?_
    refine AW.seq ?_
    refine AW.reg ?_
    refine SeqK.q (q_mvC rfl rfl) rfl rfl rfl ?_
    refine SeqK.q (q_nilH rfl rfl) rfl rfl rfl ?_
    refine SeqK.q (q_fieldH _ rfl Fx.fl73_0 rfl rfl) rfl rfl rfl ?_
    refine SeqK.r (g_load (r := .a _) rfl Fx.ty3 rfl (by (repeat rw [upd_ne _ _ (by first | assumption | exact Ne.symm (by assumption))]); first | assumption | exact upd_same _ _ _) rfl rfl rfl rfl) rfl ?_
    refine SeqK.make (zc := (i64T 0).map .t) (m := n) rfl rfl Fx.el28 Fx.ze2 rfl rfl rfl rfl (by omega) rfl rfl (fun k23 hk23 => ?_)
    rw [rowE_rep]
    have nk23 : k ≠ k23 := fun e => by rw [← e, hbox] at hk23; cases hk23
    refine SeqK.q (q_asC rfl rfl) rfl rfl rfl ?_
    refine SeqK.nil ?_
    refine AW.seq ?_
    refine AW.seq ?_
    refine AW.reg ?_
    refine SeqK.q (q_mvC rfl rfl) rfl rfl rfl ?_
    refine SeqK.q (q_lenOs rfl Fx.un28 rfl) rfl rfl rfl ?_
    refine SeqK.q (q_mvC rfl rfl) rfl rfl rfl ?_
    refine SeqK.nil ?_
    refine AW.block ?_
    refine AW.loop (fun (i : Nat) s => ∃ (l : List Int), (i ≤ n ∧ l.length = n ∧ ∀ (v : Nat) (h : v < l.length), v < i → l[v] = (W ls (n + 1) v).w - (W ls (n + 1) n).w) ∧ s = ⟨48, sp [(0, .c (.a (.bp k 0))), (4, .c (.a (.t (.sl .un 3 (ls[n + 1].map wkT))))), (5, .c (.a (.os k23 0 n 1))), (25, iX .i64 ((n : Nat) : Int)), (26, iX .i64 ((i : Nat) : Int))], lv [], upd H k23 (some (.row 2 1 (rowE i64T l)))⟩) (fun i => n - i) 0 ⟨_, Wk.keep 48 [(0, .c (.a (.bp k 0))), (4, .c (.a (.t (.sl .un 3 (ls[n + 1].map wkT))))), (5, .c (.a (.os k23 0 n 1))), (25, iX .i64 ((n : Nat) : Int)), (26, iX .i64 ((((0 : Nat)) : Nat) : Int))] [] (upd H k23 (some (.row 2 1 (rowE i64T (List.replicate n 0))))) rfl ⟨rfl, rfl, rfl, rfl, rfl, trivial⟩ trivial (fun _ _ h => h) rfl, List.replicate n 0, ⟨Nat.zero_le _, by simp, fun v h hv => absurd hv (Nat.not_lt_zero v)⟩, rfl⟩ (fun i s hs => ?_)
    obtain ⟨l, ⟨hi, hl, hf⟩, rfl⟩ := hs
    refine AW.seq ?_
    refine AW.reg ?_
    refine SeqK.q (q_lss rfl rfl rfl) rfl rfl rfl ?_
    refine SeqK.nil ?_
    refine AW.seq ?_
    refine AW.condD rfl (fun h27 => ?_) (fun h27 => ?_)
    ·
      have hka : i < l.length := by simp at h27; omega
      have hin : i < n := by omega
      have hb1 := hbd (i : Nat) (by omega) (by omega)
      have hb2 := hbd (n : Nat) (by omega) (by omega)
      simp only [Int.toNat_natCast] at hb1 hb2
      have q1 := hb1.1
      have q2 := hb1.2
      have q3 := hb2.1
      have q4 := hb2.2
      refine AW.skip ?_
      refine AW.seq ?_
      refine AW.block ?_
      refine AW.seq ?_
      refine AW.reg ?_
      refine SeqK.q (q_mvC rfl rfl) rfl rfl rfl ?_
      refine SeqK.q (q_asC rfl rfl) rfl rfl rfl ?_
      refine SeqK.nil ?_
      refine AW.draw Fx.mo ?_
      refine LexK.q (q_mvC rfl rfl) rfl rfl rfl ?_
      refine LexK.q (q_mvC rfl rfl) rfl rfl rfl ?_
      refine LexK.q (q_mvC rfl rfl) rfl rfl rfl ?_
      refine LexK.q (q_mvC rfl rfl) rfl rfl rfl ?_
      refine LexK.q (q_index _ rfl Fx.sl67 rfl rfl (by omega) (idx_map (by omega))) rfl rfl rfl ?_
      refine LexK.q (q_fieldP _ rfl Fx.fl66_1 rfl rfl) rfl rfl rfl ?_
      refine LexK.q (q_load (.a _) rfl Fx.ty2 rfl rfl rfl) rfl rfl rfl ?_
      refine LexK.q (q_mvC rfl rfl) rfl rfl rfl ?_
      refine LexK.q (q_mvC rfl rfl) rfl rfl rfl ?_
      refine LexK.q (q_nilH rfl rfl) rfl rfl rfl ?_
      refine LexK.q (q_fieldH _ rfl Fx.fl73_0 rfl rfl) rfl rfl rfl ?_
      refine LexK.r (g_load (r := .a _) rfl Fx.ty3 rfl (by (repeat rw [upd_ne _ _ (by first | assumption | exact Ne.symm (by assumption))]); first | assumption | exact upd_same _ _ _) rfl rfl rfl rfl) rfl ?_
      refine LexK.q (q_index _ rfl Fx.sl67 rfl rfl (by omega) (idx_map (by omega))) rfl rfl rfl ?_
      refine LexK.q (q_fieldP _ rfl Fx.fl66_1 rfl rfl) rfl rfl rfl ?_
      refine LexK.q (q_load (.a _) rfl Fx.ty2 rfl rfl rfl) rfl rfl rfl ?_
      refine LexK.q (q_sub _ rfl rfl rfl (w64 (by omega) (by omega))) rfl rfl rfl ?_
      refine LexK.q (q_indexOs _ rfl Fx.sl28 rfl rfl (by omega) (by omega) rfl) rfl rfl rfl ?_
      refine LexK.r (g_storeR rfl rfl Fx.ty2 rfl rfl (by (repeat rw [upd_ne _ _ (by first | assumption | exact Ne.symm (by assumption))]); first | assumption | exact upd_same _ _ _) (row_st i64l hka _) rfl (row_in0 i64l hka) (by decide)) rfl ?_
      refine LexK.nil (by kernel_rfl) ?_
      refine AW.reg ?_
      refine SeqK.q (q_add _ rfl rfl rfl (w64 (by omega) (by omega))) rfl rfl rfl ?_
      refine SeqK.q (q_mvC rfl rfl) rfl rfl rfl ?_
      refine SeqK.nil ?_
      exact ⟨i + 1, _, Wk.keep 48 [(0, .c (.a (.bp k 0))), (4, .c (.a (.t (.sl .un 3 (ls[n + 1].map wkT))))), (5, .c (.a (.os k23 0 n 1))), (25, iX .i64 ((n : Nat) : Int)), (26, iX .i64 (((i + 1) : Nat) : Int))] [] (upd H k23 (some (.row 2 1 (rowE i64T (l.set i (ls[n + 1][i].w - ls[n + 1][n].w)))))) rfl ⟨rfl, rfl, rfl, rfl, rfl, trivial⟩ trivial (fun j o h => by show upd (upd _ k23 _) k23 _ j = _; rw [upd_upd]; exact h) rfl, by omega, l.set i (ls[n + 1][i].w - ls[n + 1][n].w), ⟨by omega, by simpa using hl, fun v h hv => by
        have a1 := e3 (v : Nat) (by omega) (by omega) (by omega)
        have a2 := e3 (n : Nat) (by omega) (by omega) (by omega)
        simp only [Int.toNat_natCast] at a1 a2
        rw [List.getElem_set]
        by_cases e : i = v
        · subst e; rw [if_pos rfl, a1, a2]
        · rw [if_neg e]; exact hf v (by simpa using h) (by omega)⟩, rfl⟩
    ·
      refine AW.exit ?_
      refine eth_e ?_
      refine eth_e ?_
      refine exit_here ?_
      refine AW.seq ?_
      obtain rfl : i = n := by simp at h27; omega
      refine AW.gh (Gh.freeze k23 1 2 (l.map i64T) (upd_same _ _ _) (fun e he => by obtain ⟨x, _, rfl⟩ := List.mem_map.1 he; rfl) (by decide)) ?_
      rintro s rfl
      refine AW.wk (Wk.keep 48 [(5, .c (.a (.t (.sl .un 1 (l.map i64T)))))] [] (H) rfl ⟨by show fzX _ _ _ (.c (.a (.os _ 0 i 1))) = _; rw [show i = (l.map i64T).length by simp [hl]]; simp [fzX, fzC, fzA], trivial⟩ trivial (fun j o h => by show upd (upd H k23 _) k23 none j = _; rw [upd_back hk23]; exact h) rfl) ?_
      refine AW.reg ?_
      refine SeqK.q (q_mvC rfl rfl) rfl rfl rfl ?_
      refine SeqK.q (q_asC rfl rfl) rfl rfl rfl ?_
      refine SeqK.q (q_asC rfl rfl) rfl rfl rfl ?_
      refine SeqK.nil ?_
      refine AW.ret ?_
      exact fin_x (x := .tup [_, _]) (H) (.tmp rfl (.tmp rfl .nil)) rfl (fun _ _ h => h) (⟨.inr ⟨hs, l, ⟨hl, _, hsol, fun v h => hf v h (by omega), fun v _ _ => hbw v⟩, rfl⟩, rfl⟩)
  ·
    have hcase : True := trivial
    refine AW.reg ?_
    refine SeqK.q (q_mvC rfl rfl) rfl rfl rfl ?_
    refine SeqK.r (g_call rfl Fx.fn15 rfl (sat_pure H k n all IR hal (satB_no hs)) rfl rfl rfl) rfl ?_
    refine SeqK.q (q_not rfl rfl) rfl rfl rfl ?_
    refine SeqK.nil ?_
    refine AW.condT rfl ?_
    refine AW.seq ?_
    refine AW.reg ?_
    refine SeqK.q (q_asC rfl rfl) rfl rfl rfl ?_
    refine SeqK.q (q_asC rfl rfl) rfl rfl rfl ?_
    refine SeqK.nil ?_
    refine AW.ret ?_
    exact fin_x (x := .tup [_, _]) (H) (.tmp rfl (.tmp rfl .nil)) rfl (fun _ _ h => h) (⟨.inl ⟨hs, rfl⟩, rfl⟩)

end Go.Proofs.Ytkpacejikoengaa.W
