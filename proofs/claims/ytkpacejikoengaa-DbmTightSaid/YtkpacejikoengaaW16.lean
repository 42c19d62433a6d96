import Derived.Test.YtkpacejikoengaaW14
import Derived.Test.YtkpacejikoengaaR1
namespace Go.Proofs.Ytkpacejikoengaa.W
open Go.RowKit E M
set_option linter.unusedVariables false
set_option linter.unusedSimpArgs false
theorem okL_app {n : Nat} {l : List Bd} {b : Bd} (hb : OkB n b) : okL n (okL n l ++ [b]) = okL n l ++ [b] := by
  unfold okL
  rw [List.filter_append, List.filter_filter]
  simp [adE_ok hb]
theorem tight_at {a : List Bd} {i j c : Int} (h : BR a i j c true) : M.Sat (a ++ [⟨j, i, 0 - c⟩]) ∧ ¬ M.Sat (a ++ [⟨j, i, 0 - c - 1⟩]) := by
  rcases h with ⟨_, ⟨x, h2, h3⟩, h4⟩ | ⟨h, _⟩
  · refine ⟨⟨x, fun b hb => ?_⟩, fun ⟨y, hy⟩ => ?_⟩
    · rcases List.mem_append.1 hb with h5 | h5
      · exact h2 b h5
      · have h5 := List.mem_singleton.1 h5; subst h5; show x j - x i ≤ 0 - c; omega
    · have h5 := h4 y (hy.sub fun b hb => by simp [hb])
      have h6 := hy ⟨j, i, 0 - c - 1⟩ (by simp)
      have h6 : y j - y i ≤ 0 - c - 1 := h6
      omega
  · cases h
theorem bres_br {a : List Bd} {n : Nat} {i j c : Int} (h : BRes a n i j c true) : BR a i j c true := by
  rcases h with ⟨_, _, h⟩ | ⟨_, _, _, h⟩
  · cases h
  · exact h

set_option maxRecDepth 20000 in
theorem tight_law (n : Int) (z : Nz) (l : List Bd) (p q : Int) (hp : 0 ≤ p ∧ p ≤ 255) (hq : 0 ≤ q ∧ q ≤ 255) (H : Heap) : E.Spec Try.prog 6 [iC n, bdL z l, .g [.t (.v (.int .u8 p)), .t (.v (.int .u8 q))]] H fun x _ => x = bX true := by
  refine Spec.enter Try.func6 rfl ?_
  refine AW.wk (Wk.keep 117 [(0, .c (iC n)), (1, .c (bdL z l)), (2, .c (.g [.t (.v (.int .u8 p)), .t (.v (.int .u8 q))]))] [] (H) rfl ⟨rfl, rfl, rfl, trivial⟩ trivial (fun _ _ h => h) rfl) ?_
  refine AW.seq ?_
  refine AW.reg ?_
  refine SeqK.r (b_box (r := [_, _]) rfl rfl rfl rfl rfl rfl) rfl ?_
  refine SeqK.q (q_asC rfl rfl) rfl rfl rfl ?_
  refine SeqK.nil ?_
  refine AW.seq ?_
  refine AW.seq ?_
  refine AW.reg ?_
  refine SeqK.callE rfl rfl rfl rfl Fx.fn11 rfl (awake_any _) (fun _ _ h => by rw [h]; rfl) (fun x20 H20 q20 => ?_)
  obtain rfl := q20
  refine SeqK.q (q_not rfl rfl) rfl rfl rfl ?_
  refine SeqK.nil ?_
  refine AW.condF rfl ?_
  refine AW.skip ?_
  refine AW.seq ?_
  refine AW.seq ?_
  refine AW.reg ?_
  refine SeqK.q (q_mvC rfl rfl) rfl rfl rfl ?_
  refine SeqK.q (q_mvC rfl rfl) rfl rfl rfl ?_
  refine SeqK.q (q_call _ rfl Fx.fn12 rfl (small_any n z l) rfl) rfl rfl rfl ?_
  refine SeqK.q (q_not rfl rfl) rfl rfl rfl ?_
  refine SeqK.nil ?_
  refine AW.cond _ rfl (fun h25 => ?_) (fun h25 => ?_)
  ·
    refine AW.seq ?_
    refine AW.reg ?_
    refine SeqK.q (q_asC rfl rfl) rfl rfl rfl ?_
    refine SeqK.nil ?_
    refine AW.ret ?_
    exact fin_x (x := .c _) (_) (.tmp rfl .nil) rfl (fun _ _ h => h) (rfl)
  ·
    have hsm : n ≤ 10 ∧ l.length ≤ 40 := by simpa using h25
    refine AW.skip ?_
    refine AW.seq ?_
    by_cases hn : 0 ≤ n ∧ n ≤ 64
    ·
      obtain ⟨m, rfl⟩ : ∃ m : Nat, n = m := ⟨n.toNat, by omega⟩
      have hm : m ≤ 64 := by omega
      have h40 : (okL m l).length ≤ 40 := Nat.le_trans okL_len hsm.2
      have h41 : (okL m l).length ≤ 41 := by omega
      have h100 : (okL m l).length ≤ 100000 := by omega
      refine AW.reg ?_
      refine SeqK.q (q_mvC rfl rfl) rfl rfl rfl ?_
      refine SeqK.q (q_mvC rfl rfl) rfl rfl rfl ?_
      refine SeqK.callE rfl rfl rfl rfl Fx.fn13 rfl (built_ok _ m z l (by omega) hm) (fun _ _ h => by obtain ⟨_, h, _⟩ := h; rw [h]; rfl) (fun x29 H29 q29 => ?_)
      obtain ⟨k, rfl, M⟩ := q29
      have IR := M.r
      refine SeqK.q (q_mvT rfl rfl) rfl rfl rfl ?_
      refine SeqK.q (q_extract _ rfl rfl rfl) rfl rfl rfl ?_
      refine SeqK.q (q_extract _ rfl rfl rfl) rfl rfl rfl ?_
      refine SeqK.q (q_extract _ rfl rfl rfl) rfl rfl rfl ?_
      refine SeqK.q (q_asC rfl rfl) rfl rfl rfl ?_
      refine SeqK.q (q_asC rfl rfl) rfl rfl rfl ?_
      refine SeqK.q (q_asC rfl rfl) rfl rfl rfl ?_
      refine SeqK.nil ?_
      refine AW.seq ?_
      refine AW.seq ?_
      refine AW.reg ?_
      refine SeqK.q (q_mvC rfl rfl) rfl rfl rfl ?_
      refine SeqK.q (q_eqlN rfl rfl rfl Fx.nk25) rfl rfl rfl ?_
      refine SeqK.q (q_mvC rfl rfl) rfl rfl rfl ?_
      refine SeqK.on (q_mvC rfl rfl) rfl rfl rfl rfl rfl ?_
      refine SeqK.on (q_not rfl rfl) rfl rfl rfl rfl rfl ?_
      refine SeqK.q (q_pkF rfl rfl rfl) rfl rfl rfl ?_
      refine SeqK.nil ?_
      refine AW.condF rfl ?_
      refine AW.skip ?_
      refine AW.seq ?_
      obtain ⟨pi, hpi⟩ : ∃ pi : Nat, pi = p.toNat % (m + 1) := ⟨_, rfl⟩
      obtain ⟨pj, hpj⟩ : ∃ pj : Nat, pj = q.toNat % (m + 1) := ⟨_, rfl⟩
      have hpil : pi < m + 1 := by rw [hpi]; exact Nat.mod_lt _ (by omega)
      have hpjl : pj < m + 1 := by rw [hpj]; exact Nat.mod_lt _ (by omega)
      refine AW.draw Fx.mo ?_
      refine LexK.q (q_indexL _ rfl Fx.ar39 rfl rfl (by omega) (by omega) rfl) rfl rfl rfl ?_
      refine LexK.r (b_load (r := .a _) rfl Fx.ty5 rfl rfl rfl rfl rfl rfl) rfl ?_
      refine LexK.q (q_conv _ rfl Fx.un3 rfl (w64 (by omega) (by omega)) ⟨_, Fx.un5⟩) rfl rfl rfl ?_
      refine LexK.q (q_mvC rfl rfl) rfl rfl rfl ?_
      refine LexK.q (q_add _ rfl rfl rfl ((by rw [w64 (by omega) (by omega)]; omega : IntKind.i64.wrap _ = ((m + 1 : Nat) : Int)))) rfl rfl rfl ?_
      refine LexK.q (q_remC (c := (pi : Int)) rfl rfl rfl (by omega) (by rw [hpi, show p = ((p.toNat : Nat) : Int) by omega]; exact (Int.ofNat_tmod p.toNat (m + 1)).symm)) rfl rfl rfl ?_
      refine LexK.q (q_indexL _ rfl Fx.ar39 rfl rfl (by omega) (by omega) rfl) rfl rfl rfl ?_
      refine LexK.r (b_load (r := .a _) rfl Fx.ty5 rfl rfl rfl rfl rfl rfl) rfl ?_
      refine LexK.q (q_conv _ rfl Fx.un3 rfl (w64 (by omega) (by omega)) ⟨_, Fx.un5⟩) rfl rfl rfl ?_
      refine LexK.q (q_mvC rfl rfl) rfl rfl rfl ?_
      refine LexK.q (q_add _ rfl rfl rfl ((by rw [w64 (by omega) (by omega)]; omega : IntKind.i64.wrap _ = ((m + 1 : Nat) : Int)))) rfl rfl rfl ?_
      refine LexK.q (q_remC (c := (pj : Int)) rfl rfl rfl (by omega) (by rw [hpj, show q = ((q.toNat : Nat) : Int) by omega]; exact (Int.ofNat_tmod q.toNat (m + 1)).symm)) rfl rfl rfl ?_
      refine LexK.q (q_asC rfl rfl) rfl rfl rfl ?_
      refine LexK.q (q_asC rfl rfl) rfl rfl rfl ?_
      refine LexK.nil (by kernel_rfl) ?_
      refine AW.seq ?_
      refine AW.reg ?_
      refine SeqK.q (q_mvC rfl rfl) rfl rfl rfl ?_
      refine SeqK.q (q_mvC rfl rfl) rfl rfl rfl ?_
      refine SeqK.q (q_mvC rfl rfl) rfl rfl rfl ?_
      refine SeqK.callE rfl rfl rfl rfl Fx.fn16 rfl (bound_any _ k m (okL m l) pi pj IR h100) (fun _ _ h => by obtain ⟨⟨_, _, h, _⟩, _⟩ := h; rw [h]; rfl) (fun x56 H56 q56 => ?_)
      obtain ⟨⟨c, ok, rfl, hb⟩, hH⟩ := q56
      replace hH := hH.symm
      subst hH
      refine SeqK.q (q_mvT rfl rfl) rfl rfl rfl ?_
      refine SeqK.q (q_extract _ rfl rfl rfl) rfl rfl rfl ?_
      refine SeqK.q (q_extract _ rfl rfl rfl) rfl rfl rfl ?_
      refine SeqK.q (q_asC rfl rfl) rfl rfl rfl ?_
      refine SeqK.q (q_asC rfl rfl) rfl rfl rfl ?_
      refine SeqK.nil ?_
      refine AW.seq ?_
      refine AW.seq ?_
      refine AW.reg ?_
      refine SeqK.q (q_mvC rfl rfl) rfl rfl rfl ?_
      refine SeqK.q (q_not rfl rfl) rfl rfl rfl ?_
      refine SeqK.qB (q_mvC rfl rfl) rfl rfl rfl (fun g61 => ?_) (fun g61 => ?_)
      ·
        refine SeqK.off rfl rfl rfl rfl rfl rfl ?_
        refine SeqK.off rfl rfl rfl rfl rfl rfl ?_
        refine SeqK.q (q_pkT rfl rfl rfl) rfl rfl rfl ?_
        refine SeqK.q (q_mvC rfl rfl) rfl rfl rfl ?_
        refine SeqK.off rfl rfl rfl rfl rfl rfl ?_
        refine SeqK.off rfl rfl rfl rfl rfl rfl ?_
        refine SeqK.q (q_pkT rfl rfl rfl) rfl rfl rfl ?_
        refine SeqK.nil ?_
        refine AW.condT rfl ?_
        refine AW.seq ?_
        refine AW.reg ?_
        refine SeqK.q (q_asC rfl rfl) rfl rfl rfl ?_
        refine SeqK.nil ?_
        refine AW.ret ?_
        exact fin_x (x := .c _) (_) (.tmp rfl .nil) rfl (fun _ _ h => h) (rfl)
      ·
        refine SeqK.on (q_mvC rfl rfl) rfl rfl rfl rfl rfl ?_
        refine SeqK.on (q_lss rfl rfl rfl) rfl rfl rfl rfl rfl ?_
        refine SeqK.q (q_pkF rfl rfl rfl) rfl rfl rfl ?_
        refine SeqK.qD (q_mvC rfl rfl) rfl rfl rfl (fun g65 => ?_) (fun g65 => ?_)
        ·
          refine SeqK.off rfl rfl rfl rfl rfl rfl ?_
          refine SeqK.off rfl rfl rfl rfl rfl rfl ?_
          refine SeqK.q (q_pkT rfl rfl rfl) rfl rfl rfl ?_
          refine SeqK.nil ?_
          refine AW.condT rfl ?_
          refine AW.seq ?_
          refine AW.reg ?_
          refine SeqK.q (q_asC rfl rfl) rfl rfl rfl ?_
          refine SeqK.nil ?_
          refine AW.ret ?_
          exact fin_x (x := .c _) (_) (.tmp rfl .nil) rfl (fun _ _ h => h) (rfl)
        ·
          refine SeqK.on (q_mvC rfl rfl) rfl rfl rfl rfl rfl ?_
          refine SeqK.on (q_gtr rfl rfl rfl) rfl rfl rfl rfl rfl ?_
          refine SeqK.q (q_pkF rfl rfl rfl) rfl rfl rfl ?_
          refine SeqK.nil ?_
          refine AW.condD rfl (fun h68 => ?_) (fun h68 => ?_)
          ·
            refine AW.seq ?_
            refine AW.reg ?_
            refine SeqK.q (q_asC rfl rfl) rfl rfl rfl ?_
            refine SeqK.nil ?_
            refine AW.ret ?_
            exact fin_x (x := .c _) (_) (.tmp rfl .nil) rfl (fun _ _ h => h) (rfl)
          ·
            refine AW.skip ?_
            refine AW.seq ?_
            obtain rfl : ok = true := by simpa using g61
            obtain ⟨hs1, hs2⟩ := tight_at (bres_br hb)
            have ho1 : OkB m ⟨pj, pi, 0 - c⟩ := ⟨by show (0 : Int) ≤ (pj : Nat); omega, by show ((pj : Nat) : Int) ≤ _; omega, by show (0 : Int) ≤ (pi : Nat); omega, by show ((pi : Nat) : Int) ≤ _; omega, by show _ ≤ 0 - c; omega, by show 0 - c ≤ _; omega⟩
            have ho2 : OkB m ⟨pj, pi, 0 - c - 1⟩ := ⟨by show (0 : Int) ≤ (pj : Nat); omega, by show ((pj : Nat) : Int) ≤ _; omega, by show (0 : Int) ≤ (pi : Nat); omega, by show ((pi : Nat) : Int) ≤ _; omega, by show _ ≤ 0 - c - 1; omega, by show 0 - c - 1 ≤ _; omega⟩
            have hl1 : (okL m l ++ [(⟨pj, pi, 0 - c⟩ : Bd)]).length ≤ 100000 := by simp; omega
            have hl2 : (okL m l ++ [(⟨pj, pi, 0 - c - 1⟩ : Bd)]).length ≤ 100000 := by simp; omega
            refine AW.reg ?_
            refine SeqK.q (q_mvC rfl rfl) rfl rfl rfl ?_
            refine SeqK.q (q_build0 rfl Fx.el22) rfl rfl rfl ?_
            refine SeqK.q (q_mvC rfl rfl) rfl rfl rfl ?_
            refine SeqK.r (b_app0 rfl Fx.el22 rfl rfl (by simp; omega) rfl rfl rfl) rfl ?_
            refine SeqK.q (q_mvC rfl rfl) rfl rfl rfl ?_
            refine SeqK.q (q_mvC rfl rfl) rfl rfl rfl ?_
            refine SeqK.q (q_mvC rfl rfl) rfl rfl rfl ?_
            refine SeqK.q (q_neg _ rfl rfl (w64 (by omega) (by omega))) rfl rfl rfl ?_
            refine SeqK.q (q_build2 (zs := [_, _, _]) (r := [_, _, _]) [(0, 1), (1, 1), (2, 1)] _ rfl Fx.ze41 rfl Fx.bp41 rfl rfl rfl rfl) rfl rfl rfl ?_
            refine SeqK.q (q_buildSlice _ rfl Fx.el22 rfl (by decide) rfl) rfl rfl rfl ?_
            refine SeqK.r (b_app rfl Fx.el22 rfl rfl rfl ((by simp : _ = (okL m l ++ [(⟨pj, pi, 0 - c⟩ : Bd)]).map bdT)) (by simp; omega) rfl rfl) rfl ?_
            refine SeqK.callE rfl rfl rfl rfl Fx.fn13 rfl (E.Spec.frame2 (built_ok (fun _ => none) m .nn (okL m l ++ [⟨pj, pi, 0 - c⟩]) (by simp; omega) hm) (Part.start H29)) (fun _ _ h => by obtain ⟨_, ⟨_, h, _⟩, _⟩ := h; rw [h]; rfl) (fun x81 H81 q81 => ?_)
            obtain ⟨A81, ⟨k2, rfl, M81⟩, PT81⟩ := q81
            rw [okL_app ho1] at M81
            have I81 : MatR H81 k2 m (okL m l ++ [⟨pj, pi, 0 - c⟩]) := M81.r.mono fun j o h he _ => PT81.left j o (full_some.2 ⟨h, he⟩)
            refine SeqK.q (q_mvT rfl rfl) rfl rfl rfl ?_
            refine SeqK.q (q_extract _ rfl rfl rfl) rfl rfl rfl ?_
            refine SeqK.q (q_extract _ rfl rfl rfl) rfl rfl rfl ?_
            refine SeqK.q (q_extract _ rfl rfl rfl) rfl rfl rfl ?_
            refine SeqK.q (q_asC rfl rfl) rfl rfl rfl ?_
            refine SeqK.q (q_asC rfl rfl) rfl rfl rfl ?_
            refine SeqK.q (q_asC rfl rfl) rfl rfl rfl ?_
            refine SeqK.nil ?_
            refine AW.seq ?_
            refine AW.reg ?_
            refine SeqK.q (q_mvC rfl rfl) rfl rfl rfl ?_
            refine SeqK.q (q_build0 rfl Fx.el22) rfl rfl rfl ?_
            refine SeqK.q (q_mvC rfl rfl) rfl rfl rfl ?_
            refine SeqK.r (b_app0 rfl Fx.el22 rfl rfl (by simp; omega) rfl rfl rfl) rfl ?_
            refine SeqK.q (q_mvC rfl rfl) rfl rfl rfl ?_
            refine SeqK.q (q_mvC rfl rfl) rfl rfl rfl ?_
            refine SeqK.q (q_mvC rfl rfl) rfl rfl rfl ?_
            refine SeqK.q (q_neg _ rfl rfl (w64 (by omega) (by omega))) rfl rfl rfl ?_
            refine SeqK.q (q_sub _ rfl rfl rfl (w64 (by omega) (by omega))) rfl rfl rfl ?_
            refine SeqK.q (q_build2 (zs := [_, _, _]) (r := [_, _, _]) [(0, 1), (1, 1), (2, 1)] _ rfl Fx.ze41 rfl Fx.bp41 rfl rfl rfl rfl) rfl rfl rfl ?_
            refine SeqK.q (q_buildSlice _ rfl Fx.el22 rfl (by decide) rfl) rfl rfl rfl ?_
            refine SeqK.r (b_app rfl Fx.el22 rfl rfl rfl ((by simp : _ = (okL m l ++ [(⟨pj, pi, 0 - c - 1⟩ : Bd)]).map bdT)) (by simp; omega) rfl rfl) rfl ?_
            refine SeqK.callE rfl rfl rfl rfl Fx.fn13 rfl (E.Spec.frame2 (built_ok (fun _ => none) m .nn (okL m l ++ [⟨pj, pi, 0 - c - 1⟩]) (by simp; omega) hm) (Part.start H81)) (fun _ _ h => by obtain ⟨_, ⟨_, h, _⟩, _⟩ := h; rw [h]; rfl) (fun x98 H98 q98 => ?_)
            obtain ⟨A98, ⟨k3, rfl, M98⟩, PT98⟩ := q98
            rw [okL_app ho2] at M98
            have I98 : MatR H98 k3 m (okL m l ++ [⟨pj, pi, 0 - c - 1⟩]) := M98.r.mono fun j o h he _ => PT98.left j o (full_some.2 ⟨h, he⟩)
            have I2 : MatR H98 k2 m (okL m l ++ [⟨pj, pi, 0 - c⟩]) := I81.mono fun j o h he _ => PT98.sub j o (full_some.2 ⟨h, he⟩)
            refine SeqK.q (q_mvT rfl rfl) rfl rfl rfl ?_
            refine SeqK.q (q_extract _ rfl rfl rfl) rfl rfl rfl ?_
            refine SeqK.q (q_extract _ rfl rfl rfl) rfl rfl rfl ?_
            refine SeqK.q (q_extract _ rfl rfl rfl) rfl rfl rfl ?_
            refine SeqK.q (q_asC rfl rfl) rfl rfl rfl ?_
            refine SeqK.q (q_asC rfl rfl) rfl rfl rfl ?_
            refine SeqK.q (q_asC rfl rfl) rfl rfl rfl ?_
            refine SeqK.nil ?_
            refine AW.seq ?_
            refine AW.reg ?_
            refine SeqK.q (q_mvC rfl rfl) rfl rfl rfl ?_
            refine SeqK.q (q_neqN rfl rfl rfl Fx.nk25) rfl rfl rfl ?_
            refine SeqK.q (q_mvC rfl rfl) rfl rfl rfl ?_
            refine SeqK.on (q_mvC rfl rfl) rfl rfl rfl rfl rfl ?_
            refine SeqK.on (q_neqN rfl rfl rfl Fx.nk25) rfl rfl rfl rfl rfl ?_
            refine SeqK.q (q_pkT rfl rfl rfl) rfl rfl rfl ?_
            refine SeqK.q (q_mvC rfl rfl) rfl rfl rfl ?_
            refine SeqK.on (q_mvC rfl rfl) rfl rfl rfl rfl rfl ?_
            refine SeqK.rOn (g_call rfl Fx.fn15 rfl (sat_pure _ k2 m _ I2 hl1 (satB_yes hs1)) rfl rfl rfl) rfl rfl rfl ?_
            refine SeqK.q (q_pkT rfl rfl rfl) rfl rfl rfl ?_
            refine SeqK.q (q_mvC rfl rfl) rfl rfl rfl ?_
            refine SeqK.on (q_mvC rfl rfl) rfl rfl rfl rfl rfl ?_
            refine SeqK.rOn (g_call rfl Fx.fn15 rfl (sat_pure _ k3 m _ I98 hl2 (satB_no hs2)) rfl rfl rfl) rfl rfl rfl ?_
            refine SeqK.on (q_not rfl rfl) rfl rfl rfl rfl rfl ?_
            refine SeqK.q (q_pkT rfl rfl rfl) rfl rfl rfl ?_
            refine SeqK.q (q_asC rfl rfl) rfl rfl rfl ?_
            refine SeqK.nil ?_
            refine AW.ret ?_
            exact fin_x (x := .c _) (_) (.tmp rfl .nil) rfl (fun _ _ h => h) (rfl)
    ·
      have hcase : True := trivial
      refine AW.reg ?_
      refine SeqK.q (q_mvC rfl rfl) rfl rfl rfl ?_
      refine SeqK.q (q_mvC rfl rfl) rfl rfl rfl ?_
      refine SeqK.callE rfl rfl rfl rfl Fx.fn13 rfl (built_no _ n z l (by omega) hn) (fun _ _ h => by rw [h]; rfl) (fun x29 H29 q29 => ?_)
      obtain rfl := q29
      refine SeqK.q (q_mvT rfl rfl) rfl rfl rfl ?_
      refine SeqK.q (q_extract _ rfl rfl rfl) rfl rfl rfl ?_
      refine SeqK.q (q_extract _ rfl rfl rfl) rfl rfl rfl ?_
      refine SeqK.q (q_extract _ rfl rfl rfl) rfl rfl rfl ?_
      refine SeqK.q (q_asC rfl rfl) rfl rfl rfl ?_
      refine SeqK.q (q_asC rfl rfl) rfl rfl rfl ?_
      refine SeqK.q (q_asC rfl rfl) rfl rfl rfl ?_
      refine SeqK.nil ?_
      refine AW.seq ?_
      refine AW.seq ?_
      refine AW.reg ?_
      refine SeqK.q (q_mvC rfl rfl) rfl rfl rfl ?_
      refine SeqK.q (q_eqlN rfl rfl rfl Fx.nk25) rfl rfl rfl ?_
      refine SeqK.q (q_mvC rfl rfl) rfl rfl rfl ?_
      refine SeqK.off rfl rfl rfl rfl rfl rfl ?_
      refine SeqK.off rfl rfl rfl rfl rfl rfl ?_
      refine SeqK.q (q_pkT rfl rfl rfl) rfl rfl rfl ?_
      refine SeqK.nil ?_
      refine AW.condT rfl ?_
      refine AW.seq ?_
      refine AW.reg ?_
      refine SeqK.q (q_mvC rfl rfl) rfl rfl rfl ?_
      refine SeqK.q (q_asC rfl rfl) rfl rfl rfl ?_
      refine SeqK.nil ?_
      refine AW.ret ?_
      exact fin_x (x := .c _) (_) (.tmp rfl .nil) rfl (fun _ _ h => h) (rfl)


theorem tight_arr (n : Int) (z : Nz) (l : List Bd) (x : List Int) (hx : ok39 x) (H : Heap) : E.Spec Try.prog 6 [iC n, bdL z l, .g ((x.map (fun x : Int => ([.v (.int .u8 x)] : List T))).flatten.map A.t)] H fun x _ => x = bX true := by
  obtain ⟨h1, h2⟩ := hx
  match x, h1, h2 with
  | [p, q], _, h2 => exact tight_law n z l p q (u8_b (h2 p (by simp))) (u8_b (h2 q (by simp))) H

end Go.Proofs.Ytkpacejikoengaa.W
