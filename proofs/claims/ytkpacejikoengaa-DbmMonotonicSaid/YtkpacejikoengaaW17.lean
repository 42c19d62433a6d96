import Derived.Test.YtkpacejikoengaaW11
namespace Go.Proofs.Ytkpacejikoengaa.W
open Go.RowKit E M
set_option linter.unusedVariables false
set_option linter.unusedSimpArgs false
theorem Mat.moveT {H : Heap} {k n : Nat} {all : List Bd} {k9 k8 : Nat} {o : Option AO} {e sz m : Nat} (he : e ≠ 78) (h : Mat H k n all) (ht : H k9 = some (.tip e sz m)) (hk : H k8 = none) : Mat (E.upd (E.upd H k9 none) k8 o) k n all := by
  obtain ⟨z, k3, k1, es, ck, r, h1, h2⟩ := h
  have hs : ∀ j o', (∀ sz m, o' ≠ .tip e sz m) → H j = some o' → E.upd (E.upd H k9 none) k8 o j = some o' := fun j o' hne hj => by
    have n1 : j ≠ k8 := fun e9 => by rw [e9, hk] at hj; cases hj
    have n2 : j ≠ k9 := fun e9 => by rw [e9, ht] at hj; injection hj with hj; exact hne _ _ hj.symm
    rw [upd_ne _ _ n1, upd_ne _ _ n2]; exact hj
  exact ⟨z, k3, k1, es, ck, r, ⟨hs _ _ (fun _ _ e9 => by cases e9) h1.box, hs _ _ (fun _ _ e9 => by cases e9) h1.map, h1.ok, h1.get, h1.least, h1.bnd, h1.n64, h1.esl⟩, hs _ _ (fun _ _ e9 => by injection e9 with q1 q2 q3; exact he q1.symm) h2⟩
abbrev fI (v : Int × Bool) : List T := [.v (.int .i64 v.1)]
abbrev fK (v : Int × Bool) : List T := [.v (.bool v.2)]
theorem idx_div {i j w : Nat} (h : j < w) : (i * w + j) / w = i ∧ (i * w + j) % w = j := by
  rw [Nat.mul_comm]
  exact ⟨by rw [Nat.mul_add_div (by omega), Nat.div_eq_of_lt h, Nat.add_zero], by rw [Nat.mul_add_mod, Nat.mod_eq_of_lt h]⟩
/-- what was answered so far -/
structure MI (H : Heap) (k m : Nat) (all : List Bd) (kb kk : Nat) (vs : List (Int × Bool)) (E F : List (List T)) (N : Nat) : Prop where
  hE : E = vs.map fI
  hF : F = vs.map fK
  mat : Mat H k m all
  tb : H kb = some (.tip 2 1 E.length)
  tk : H kk = some (.tip 4 1 F.length)
  len : vs.length = N
  br : ∀ (t : Nat) (h : t < vs.length), BRes all m ((t / (m + 1) : Nat) : Int) ((t % (m + 1) : Nat) : Int) vs[t].1 vs[t].2
section
variable {H : Heap} {k m : Nat} {all : List Bd} {kb kk : Nat} {vs : List (Int × Bool)} {A B : List (List T)} {N : Nat}
theorem MI.start {k0 k1 : Nat} (h : Mat H k m all) (h0 : H k0 = none) (h1 : upd H k0 (some (.tip 2 1 0)) k1 = none) : MI (upd (upd H k0 (some (.tip 2 1 0))) k1 (some (.tip 4 1 0))) k m all k0 k1 [] [] [] 0 :=
  ⟨rfl, rfl, (h.new h0).new h1, upd_sub h1 _ _ (upd_same _ _ _), upd_same _ _ _, rfl, fun t h => by simp at h⟩
theorem MI.tk2 (h : MI H k m all kb kk vs A B N) {k64 : Nat} {o : Option AO} (h64 : H k64 = none) : upd (upd H kb none) k64 o kk = some (.tip 4 1 B.length) := by
  have n1 : kk ≠ k64 := fun e => by have := h.tk; rw [e, h64] at this; cases this
  have n2 : kk ≠ kb := fun e => by have := h.tk; rw [e, h.tb] at this; injection this with this; cases this
  rw [upd_ne _ _ n1, upd_ne _ _ n2, h.tk]
theorem MI.snoc (h : MI H k m all kb kk vs A B N) {c : Int} {ok : Bool} (hb : BRes all m ((N / (m + 1) : Nat) : Int) ((N % (m + 1) : Nat) : Int) c ok) {k64 k68 : Nat} (h64 : H k64 = none) (h68 : upd (upd H kb none) k64 (some (.tip 2 1 (A ++ [([T.v (.int .i64 c)] : List T)]).length)) k68 = none) :
    MI (upd (upd (upd (upd H kb none) k64 (some (.tip 2 1 (A ++ [([T.v (.int .i64 c)] : List T)]).length))) kk none) k68 (some (.tip 4 1 (B ++ [([T.v (.bool ok)] : List T)]).length))) k m all k64 k68 (vs ++ [(c, ok)]) (A ++ [([T.v (.int .i64 c)] : List T)]) (B ++ [([T.v (.bool ok)] : List T)]) (N + 1) := by
  have n1 : k64 ≠ kk := fun e => by have := h.tk; rw [← e, h64] at this; cases this
  have n2 : k64 ≠ k68 := fun e => by rw [← e, upd_same] at h68; cases h68
  refine ⟨by rw [h.hE]; simp, by rw [h.hF]; simp, (h.mat.moveT (by decide) h.tb h64).moveT (by decide) (h.tk2 h64) h68, ?_, ?_, by simp [h.len], fun t ht => ?_⟩
  · rw [upd_ne _ _ n2, upd_ne _ _ n1, upd_same]
  · rw [upd_same]
  · rw [List.getElem_append]
    split
    · rename_i hlt; exact h.br t hlt
    · have e : t = N := by have := h.len; simp at ht; omega
      subst e
      simp [h.len]; exact hb
end
abbrev SatL (l : List Bd) : Prop := M.Sat l
theorem mono_br {a : List Bd} {b : Bd} {n : Nat} {i j c c' : Int} {ok' : Bool} (hs : M.Sat (a ++ [b])) (h : BRes a n i j c true) (h' : BRes (a ++ [b]) n i j c' ok') : ok' = true ∧ c' ≤ c := by
  rcases h with ⟨_, _, h⟩ | ⟨h1, h2, _, h4⟩
  · cases h
  · rcases h4 with ⟨_, _, h4⟩ | ⟨h4, _⟩
    · have hsub : ∀ x, M.Sol (a ++ [b]) x → M.Sol a x := fun x hx => hx.sub fun y hy => by simp [hy]
      rcases h' with ⟨g1, _⟩ | ⟨_, _, _, g4⟩
      · exact absurd ⟨h1, h2, hs⟩ g1
      · rcases g4 with ⟨g5, ⟨x, g6, g7⟩, _⟩ | ⟨_, _, g6⟩
        · have := h4 x (hsub x g6); exact ⟨g5, by omega⟩
        · obtain ⟨x, g7, g8⟩ := g6 c
          have := h4 x (hsub x g7); omega
    · cases h4
theorem sat_less {a : List Bd} {b : Bd} (hs : M.Sat (a ++ [b])) : M.Sat a := by obtain ⟨x, hx⟩ := hs; exact ⟨x, hx.sub fun y hy => by simp [hy]⟩
theorem ii {i w : Nat} (hi : i ≤ 10) (hw : w ≤ 11) : i * w ≤ 110 := Nat.mul_le_mul hi hw

set_option maxRecDepth 20000 in
theorem mono_law (n : Int) (z : Nz) (l : List Bd) (b : Bd) (H : Heap) : E.Spec Try.prog 7 [iC n, bdL z l, bdC b] H fun x _ => x = bX true := by
  refine Spec.enter Try.func7 rfl ?_
  refine AW.wk (Wk.keep 130 [(0, .c (iC n)), (1, .c (bdL z l)), (2, .c (bdC b))] [] (H) rfl ⟨rfl, rfl, rfl, trivial⟩ trivial (fun _ _ h => h) rfl) ?_
  refine AW.seq ?_
  refine AW.reg ?_
  refine SeqK.r (b_box (r := [_, _, _]) rfl rfl rfl rfl rfl rfl) rfl ?_
  refine SeqK.q (q_asC rfl rfl) rfl rfl rfl ?_
  refine SeqK.nil ?_
  refine AW.seq ?_
  refine AW.seq ?_
  refine AW.reg ?_
  refine SeqK.callE rfl rfl rfl rfl Fx.fn11 rfl (awake_any _) (fun _ _ h => by rw [h]; rfl) (fun x22 H22 q22 => ?_)
  obtain rfl := q22
  refine SeqK.q (q_not rfl rfl) rfl rfl rfl ?_
  refine SeqK.nil ?_
  refine AW.condF rfl ?_
  refine AW.skip ?_
  refine AW.seq ?_
  refine AW.seq ?_
  refine AW.reg ?_
  refine SeqK.q (q_mvC rfl rfl) rfl rfl rfl ?_
  refine SeqK.q (q_mvC rfl rfl) rfl rfl rfl ?_
  refine SeqK.q (q_call _ rfl Fx.fn12 rfl (small_any n z l) rfl) rfl rfl rfl ?_
  refine SeqK.q (q_not rfl rfl) rfl rfl rfl ?_
  refine SeqK.nil ?_
  refine AW.cond _ rfl (fun h27 => ?_) (fun h27 => ?_)
  ·
    refine AW.seq ?_
    refine AW.reg ?_
    refine SeqK.q (q_asC rfl rfl) rfl rfl rfl ?_
    refine SeqK.nil ?_
    refine AW.ret ?_
    exact fin_x (x := .c _) (_) (.tmp rfl .nil) rfl (fun _ _ h => h) (rfl)
  ·
    have hsm : n ≤ 10 ∧ l.length ≤ 40 := by simpa using h27
    refine AW.skip ?_
    refine AW.seq ?_
    by_cases hn : 0 ≤ n ∧ n ≤ 64
    ·
      obtain ⟨m, rfl⟩ : ∃ m : Nat, n = m := ⟨n.toNat, by omega⟩
      have hm : m ≤ 64 := by omega
      have h40 : (okL m l).length ≤ 40 := Nat.le_trans okL_len hsm.2
      have h41 : (okL m l).length ≤ 41 := by omega
      have h100 : (okL m l).length ≤ 100000 := by omega
      refine AW.reg ?_
      refine SeqK.q (q_mvC rfl rfl) rfl rfl rfl ?_
      refine SeqK.q (q_mvC rfl rfl) rfl rfl rfl ?_
      refine SeqK.callE rfl rfl rfl rfl Fx.fn13 rfl (built_ok _ m z l (by omega) hm) (fun _ _ h => by obtain ⟨_, h, _⟩ := h; rw [h]; rfl) (fun x31 H31 q31 => ?_)
      obtain ⟨k, rfl, M⟩ := q31
      have IR := M.r
      refine SeqK.q (q_mvT rfl rfl) rfl rfl rfl ?_
      refine SeqK.q (q_extract _ rfl rfl rfl) rfl rfl rfl ?_
      refine SeqK.q (q_extract _ rfl rfl rfl) rfl rfl rfl ?_
      refine SeqK.q (q_extract _ rfl rfl rfl) rfl rfl rfl ?_
      refine SeqK.q (q_asC rfl rfl) rfl rfl rfl ?_
      refine SeqK.q (q_asC rfl rfl) rfl rfl rfl ?_
      refine SeqK.q (q_asC rfl rfl) rfl rfl rfl ?_
      refine SeqK.nil ?_
      refine AW.seq ?_
      refine AW.seq ?_
      refine AW.reg ?_
      refine SeqK.q (q_mvC rfl rfl) rfl rfl rfl ?_
      refine SeqK.q (q_eqlN rfl rfl rfl Fx.nk25) rfl rfl rfl ?_
      refine SeqK.q (q_mvC rfl rfl) rfl rfl rfl ?_
      refine SeqK.on (q_mvC rfl rfl) rfl rfl rfl rfl rfl ?_
      refine SeqK.on (q_not rfl rfl) rfl rfl rfl rfl rfl ?_
      refine SeqK.q (q_pkF rfl rfl rfl) rfl rfl rfl ?_
      refine SeqK.nil ?_
      refine AW.condF rfl ?_
      refine AW.skip ?_
      refine AW.seq ?_
      refine AW.reg ?_
      refine SeqK.q (q_mvC rfl rfl) rfl rfl rfl ?_
      refine SeqK.r (g_call rfl Fx.fn15 rfl (sat_pure _ k m _ IR h100 rfl) rfl rfl rfl) rfl ?_
      refine SeqK.q (q_asC rfl rfl) rfl rfl rfl ?_
      refine SeqK.nil ?_
      refine AW.seq ?_
      refine AW.reg ?_
      refine SeqK.q (q_asC rfl rfl) rfl rfl rfl ?_
      refine SeqK.nil ?_
      refine AW.seq ?_
      refine AW.reg ?_
      refine SeqK.q (q_asC rfl rfl) rfl rfl rfl ?_
      refine SeqK.nil ?_
      refine AW.seq ?_
      refine AW.seq ?_
      refine AW.reg ?_
      refine SeqK.q (q_mvC rfl rfl) rfl rfl rfl ?_
      refine SeqK.q (q_add _ rfl rfl rfl ((by rw [w64 (by omega) (by omega)]; omega : IntKind.i64.wrap _ = ((m + 1 : Nat) : Int)))) rfl rfl rfl ?_
      refine SeqK.q (q_mvC rfl rfl) rfl rfl rfl ?_
      refine SeqK.nil ?_
      refine AW.block ?_
      refine AW.tip 11 2 1 rfl (fun k0 hk0 => ?_)
      refine AW.tip 12 4 1 rfl (fun k1 hk1 => ?_)
      refine AW.loop (fun (i : Nat) s => ∃ (Hx : Heap) (kb kk : Nat) (vs : List (Int × Bool)) (A B : List (List T)), (i ≤ m + 1 ∧ MI Hx k m (okL m l) kb kk vs A B (i * (m + 1))) ∧ s = ⟨130, sp [(0, .c (iC m)), (5, .lp 5 0), (7, .c (.a (.bp k 0))), (10, bX (satB (okL m l))), (45, iX .i64 ((m + 1 : Nat) : Int)), (46, iX .i64 ((i : Nat) : Int)), (11, .c (.a (.ts kb .ne 1 A))), (12, .c (.a (.ts kk .ne 1 B)))], lv [(5, .box [.t (.v (.int .i64 b.i)), .t (.v (.int .i64 b.j)), .t (.v (.int .i64 b.c))])], Hx⟩) (fun i => m + 1 - i) 0 ⟨_, Wk.keep 130 [(0, .c (iC m)), (5, .lp 5 0), (7, .c (.a (.bp k 0))), (10, bX (satB (okL m l))), (45, iX .i64 ((m + 1 : Nat) : Int)), (46, iX .i64 ((((0 : Nat)) : Nat) : Int)), (11, .c (.a (.ts (k0) .ne 1 ([])))), (12, .c (.a (.ts (k1) .ne 1 ([]))))] [(5, .box [.t (.v (.int .i64 b.i)), .t (.v (.int .i64 b.j)), .t (.v (.int .i64 b.c))])] ((_)) rfl ⟨rfl, rfl, rfl, rfl, rfl, rfl, rfl, rfl, trivial⟩ ⟨rfl, trivial⟩ (fun _ _ h => h) rfl, _, k0, k1, [], [], [], ⟨by omega, by rw [Nat.zero_mul]; exact MI.start M hk0 hk1⟩, rfl⟩ (fun i s hs => ?_)
      obtain ⟨Hx, kb, kk, vs, A, B, ⟨hi, I⟩, rfl⟩ := hs
      refine AW.seq ?_
      refine AW.reg ?_
      refine SeqK.q (q_lss rfl rfl rfl) rfl rfl rfl ?_
      refine SeqK.nil ?_
      refine AW.seq ?_
      refine AW.condD rfl (fun h47 => ?_) (fun h47 => ?_)
      ·
        have hii := ii (i := i) (w := m + 1) (by omega) (by omega)
        refine AW.skip ?_
        refine AW.seq ?_
        refine AW.block ?_
        refine AW.seq ?_
        refine AW.reg ?_
        refine SeqK.q (q_mvC rfl rfl) rfl rfl rfl ?_
        refine SeqK.q (q_asC rfl rfl) rfl rfl rfl ?_
        refine SeqK.nil ?_
        refine AW.seq ?_
        refine AW.reg ?_
        refine SeqK.q (q_mvC rfl rfl) rfl rfl rfl ?_
        refine SeqK.q (q_add _ rfl rfl rfl ((by rw [w64 (by omega) (by omega)]; omega : IntKind.i64.wrap _ = ((m + 1 : Nat) : Int)))) rfl rfl rfl ?_
        refine SeqK.q (q_mvC rfl rfl) rfl rfl rfl ?_
        refine SeqK.nil ?_
        refine AW.block ?_
        refine AW.loop (fun (j : Nat) s => ∃ (Hx : Heap) (kb kk : Nat) (vs : List (Int × Bool)) (A B : List (List T)), (j ≤ m + 1 ∧ MI Hx k m (okL m l) kb kk vs A B (i * (m + 1) + j)) ∧ s = ⟨130, sp [(0, .c (iC m)), (5, .lp 5 0), (7, .c (.a (.bp k 0))), (10, bX (satB (okL m l))), (45, iX .i64 ((m + 1 : Nat) : Int)), (46, iX .i64 ((i : Nat) : Int)), (13, iX .i64 ((i : Nat) : Int)), (11, .c (.a (.ts kb .ne 1 A))), (12, .c (.a (.ts kk .ne 1 B))), (50, iX .i64 ((m + 1 : Nat) : Int)), (51, iX .i64 ((j : Nat) : Int))], lv [(5, .box [.t (.v (.int .i64 b.i)), .t (.v (.int .i64 b.j)), .t (.v (.int .i64 b.c))])], Hx⟩) (fun j => m + 1 - j) 0 ⟨_, Wk.keep 130 [(0, .c (iC m)), (5, .lp 5 0), (7, .c (.a (.bp k 0))), (10, bX (satB (okL m l))), (45, iX .i64 ((m + 1 : Nat) : Int)), (46, iX .i64 ((i : Nat) : Int)), (13, iX .i64 ((i : Nat) : Int)), (11, .c (.a (.ts (_) .ne 1 (_)))), (12, .c (.a (.ts (_) .ne 1 (_)))), (50, iX .i64 ((m + 1 : Nat) : Int)), (51, iX .i64 ((((0 : Nat)) : Nat) : Int))] [(5, .box [.t (.v (.int .i64 b.i)), .t (.v (.int .i64 b.j)), .t (.v (.int .i64 b.c))])] ((_)) rfl ⟨rfl, rfl, rfl, rfl, rfl, rfl, rfl, rfl, rfl, rfl, rfl, trivial⟩ ⟨rfl, trivial⟩ (fun _ _ h => h) rfl, _, _, _, _, _, _, ⟨by omega, I⟩, rfl⟩ (fun j s hs => ?_)
        obtain ⟨Hx, kb, kk, vs, A, B, ⟨hj, I⟩, rfl⟩ := hs
        have hvl : A.length ≤ 200 ∧ B.length ≤ 200 := by have := I.len; rw [I.hE, I.hF]; simp; omega
        refine AW.seq ?_
        refine AW.reg ?_
        refine SeqK.q (q_lss rfl rfl rfl) rfl rfl rfl ?_
        refine SeqK.nil ?_
        refine AW.seq ?_
        refine AW.condD rfl (fun h52 => ?_) (fun h52 => ?_)
        ·
          refine AW.skip ?_
          refine AW.seq ?_
          refine AW.block ?_
          refine AW.seq ?_
          refine AW.reg ?_
          refine SeqK.q (q_mvC rfl rfl) rfl rfl rfl ?_
          refine SeqK.q (q_asC rfl rfl) rfl rfl rfl ?_
          refine SeqK.nil ?_
          refine AW.seq ?_
          refine AW.reg ?_
          refine SeqK.q (q_mvC rfl rfl) rfl rfl rfl ?_
          refine SeqK.q (q_mvC rfl rfl) rfl rfl rfl ?_
          refine SeqK.q (q_mvC rfl rfl) rfl rfl rfl ?_
          refine SeqK.callE rfl rfl rfl rfl Fx.fn16 rfl (bound_any _ k m (okL m l) _ _ I.mat.r h100) (fun _ _ h => by obtain ⟨⟨_, _, h, _⟩, _⟩ := h; rw [h]; rfl) (fun x58 H58 q58 => ?_)
          obtain ⟨⟨c58, ok58, rfl, hb58⟩, hH⟩ := q58
          replace hH := hH.symm
          subst hH
          refine SeqK.q (q_mvT rfl rfl) rfl rfl rfl ?_
          refine SeqK.q (q_extract _ rfl rfl rfl) rfl rfl rfl ?_
          refine SeqK.q (q_extract _ rfl rfl rfl) rfl rfl rfl ?_
          refine SeqK.q (q_asC rfl rfl) rfl rfl rfl ?_
          refine SeqK.q (q_asC rfl rfl) rfl rfl rfl ?_
          refine SeqK.nil ?_
          have hbr : BRes (okL m l) m (((i * (m + 1) + j) / (m + 1) : Nat) : Int) (((i * (m + 1) + j) % (m + 1) : Nat) : Int) c58 ok58 := by rw [(idx_div (by omega)).1, (idx_div (by omega)).2]; exact hb58
          refine AW.reg ?_
          refine SeqK.q (q_mvC rfl rfl) rfl rfl rfl ?_
          refine SeqK.q (q_mvC rfl rfl) rfl rfl rfl ?_
          refine SeqK.q (q_buildSlice _ rfl Fx.el28 rfl (by decide) rfl) rfl rfl rfl ?_
          refine SeqK.app rfl rfl Fx.el28 rfl I.tb rfl (by simp; omega) rfl rfl (fun k64 hk64 => ?_)
          refine SeqK.q (q_mvC rfl rfl) rfl rfl rfl ?_
          refine SeqK.q (q_mvC rfl rfl) rfl rfl rfl ?_
          refine SeqK.q (q_buildSlice _ rfl Fx.el43 rfl (by decide) rfl) rfl rfl rfl ?_
          refine SeqK.app rfl rfl Fx.el43 rfl (I.tk2 hk64) rfl (by simp; omega) rfl rfl (fun k68 hk68 => ?_)
          refine SeqK.q (q_asC rfl rfl) rfl rfl rfl ?_
          refine SeqK.q (q_asC rfl rfl) rfl rfl rfl ?_
          refine SeqK.nil ?_
          refine AW.reg ?_
          refine SeqK.q (q_add _ rfl rfl rfl (w64 (by omega) (by omega))) rfl rfl rfl ?_
          refine SeqK.q (q_mvC rfl rfl) rfl rfl rfl ?_
          refine SeqK.nil ?_
          exact ⟨j + 1, _, Wk.keep 130 [(0, .c (iC m)), (5, .lp 5 0), (7, .c (.a (.bp k 0))), (10, bX (satB (okL m l))), (45, iX .i64 ((m + 1 : Nat) : Int)), (46, iX .i64 ((i : Nat) : Int)), (13, iX .i64 ((i : Nat) : Int)), (11, .c (.a (.ts (k64) .ne 1 (_)))), (12, .c (.a (.ts (k68) .ne 1 (_)))), (50, iX .i64 ((m + 1 : Nat) : Int)), (51, iX .i64 (((j + 1) : Nat) : Int))] [(5, .box [.t (.v (.int .i64 b.i)), .t (.v (.int .i64 b.j)), .t (.v (.int .i64 b.c))])] ((_)) rfl ⟨rfl, rfl, rfl, rfl, rfl, rfl, rfl, rfl, rfl, rfl, rfl, trivial⟩ ⟨rfl, trivial⟩ (fun _ _ h => h) rfl, by omega, _, k64, k68, vs ++ [(c58, ok58)], _, _, ⟨by omega, I.snoc hbr hk64 hk68⟩, rfl⟩
        ·
          refine AW.exit ?_
          refine eth_e ?_
          refine eth_e ?_
          refine exit_here ?_
          refine AW.reg ?_
          refine SeqK.q (q_add _ rfl rfl rfl (w64 (by omega) (by omega))) rfl rfl rfl ?_
          refine SeqK.q (q_mvC rfl rfl) rfl rfl rfl ?_
          refine SeqK.nil ?_
          exact ⟨i + 1, _, Wk.keep 130 [(0, .c (iC m)), (5, .lp 5 0), (7, .c (.a (.bp k 0))), (10, bX (satB (okL m l))), (45, iX .i64 ((m + 1 : Nat) : Int)), (46, iX .i64 (((i + 1) : Nat) : Int)), (11, .c (.a (.ts (_) .ne 1 (_)))), (12, .c (.a (.ts (_) .ne 1 (_))))] [(5, .box [.t (.v (.int .i64 b.i)), .t (.v (.int .i64 b.j)), .t (.v (.int .i64 b.c))])] ((_)) rfl ⟨rfl, rfl, rfl, rfl, rfl, rfl, rfl, rfl, trivial⟩ ⟨rfl, trivial⟩ (fun _ _ h => h) rfl, by omega, _, _, _, _, _, _, ⟨by omega, by rw [Nat.succ_mul]; have e : j = m + 1 := (by omega); subst e; exact I⟩, rfl⟩
      ·
        refine AW.exit ?_
        refine eth_e ?_
        refine eth_e ?_
        refine exit_here ?_
        refine AW.seq ?_
        refine AW.seq ?_
        have e : i = m + 1 := (by omega)
        subst e
        refine AW.reg ?_
        refine SeqK.q (q_mvC rfl rfl) rfl rfl rfl ?_
        refine SeqK.q (q_fieldL _ rfl Fx.fl41_0 rfl rfl) rfl rfl rfl ?_
        refine SeqK.r (b_load (r := .a _) rfl Fx.ty3 rfl rfl rfl rfl rfl rfl) rfl ?_
        refine SeqK.q (q_fieldL _ rfl Fx.fl41_1 rfl rfl) rfl rfl rfl ?_
        refine SeqK.r (b_load (r := .a _) rfl Fx.ty3 rfl rfl rfl rfl rfl rfl) rfl ?_
        refine SeqK.q (q_fieldL _ rfl Fx.fl41_2 rfl rfl) rfl rfl rfl ?_
        refine SeqK.r (b_load (r := .a _) rfl Fx.ty2 rfl rfl rfl rfl rfl rfl) rfl ?_
        refine SeqK.callE rfl rfl rfl rfl Fx.fn22 rfl (add_any _ k m (okL m l) b I.mat (by omega)) (fun _ _ h => by rw [h.1]; rfl) (fun x78 H78 q78 => ?_)
        obtain ⟨rfl, M, _⟩ := q78
        refine SeqK.q (q_neq rfl rfl rfl) rfl rfl rfl ?_
        refine SeqK.nil ?_
        refine AW.condD rfl (fun h79 => ?_) (fun h79 => ?_)
        ·
          refine AW.seq ?_
          obtain hall : adL m (okL m l) b = okL m l := if_neg (by omega)
          rw [hall] at M
          refine AW.reg ?_
          refine SeqK.q (q_mvC rfl rfl) rfl rfl rfl ?_
          refine SeqK.r (g_call rfl Fx.fn15 rfl (sat_pure _ k m _ M.r h100 rfl) rfl rfl rfl) rfl ?_
          refine SeqK.q (q_mvC rfl rfl) rfl rfl rfl ?_
          refine SeqK.q (q_eqlB rfl Fx.un4 rfl rfl) rfl rfl rfl ?_
          refine SeqK.q (q_asC rfl rfl) rfl rfl rfl ?_
          refine SeqK.nil ?_
          refine AW.ret ?_
          exact fin_x (x := .c _) (_) (.tmp rfl .nil) rfl (fun _ _ h => h) (by simp)
        ·
          refine AW.skip ?_
          refine AW.seq ?_
          refine AW.seq ?_
          have hadd : adE m b = 0 := by omega
          rw [show adL m (okL m l) b = okL m l ++ [b] from if_pos hadd] at M
          have hl2 : (okL m l ++ [b]).length ≤ 100000 := by simp; omega
          refine AW.reg ?_
          refine SeqK.q (q_mvC rfl rfl) rfl rfl rfl ?_
          refine SeqK.r (g_call rfl Fx.fn15 rfl (sat_pure _ k m _ M.r hl2 rfl) rfl rfl rfl) rfl ?_
          refine SeqK.q (q_not rfl rfl) rfl rfl rfl ?_
          refine SeqK.nil ?_
          refine AW.cond _ rfl (fun h86 => ?_) (fun h86 => ?_)
          ·
            refine AW.seq ?_
            refine AW.reg ?_
            refine SeqK.q (q_asC rfl rfl) rfl rfl rfl ?_
            refine SeqK.nil ?_
            refine AW.ret ?_
            exact fin_x (x := .c _) (_) (.tmp rfl .nil) rfl (fun _ _ h => h) (rfl)
          ·
            have hs : SatL (okL m l ++ [b]) := satB_t.1 (by simpa using h86)
            refine AW.skip ?_
            refine AW.seq ?_
            refine AW.seq ?_
            refine AW.reg ?_
            refine SeqK.q (q_mvC rfl rfl) rfl rfl rfl ?_
            refine SeqK.q (q_not rfl rfl) rfl rfl rfl ?_
            refine SeqK.nil ?_
            refine AW.cond _ rfl (fun h88 => ?_) (fun h88 => ?_)
            ·
              rw [satB_yes (sat_less hs)] at h88; cases h88
            ·
              refine AW.skip ?_
              refine AW.seq ?_
              refine AW.seq ?_
              refine AW.reg ?_
              refine SeqK.q (q_mvC rfl rfl) rfl rfl rfl ?_
              refine SeqK.q (q_add _ rfl rfl rfl ((by rw [w64 (by omega) (by omega)]; omega : IntKind.i64.wrap _ = ((m + 1 : Nat) : Int)))) rfl rfl rfl ?_
              refine SeqK.q (q_mvC rfl rfl) rfl rfl rfl ?_
              refine SeqK.nil ?_
              refine AW.block ?_
              refine AW.loop (fun (i : Nat) s => (i ≤ m + 1) ∧ s = ⟨130, sp [(0, .c (iC m)), (7, .c (.a (.bp k 0))), (11, .c (.a (.ts kb .ne 1 A))), (12, .c (.a (.ts kk .ne 1 B))), (90, iX .i64 ((m + 1 : Nat) : Int)), (91, iX .i64 ((i : Nat) : Int))], lv [], H78⟩) (fun i => m + 1 - i) 0 ⟨_, Wk.keep 130 [(0, .c (iC m)), (7, .c (.a (.bp k 0))), (11, .c (.a (.ts kb .ne 1 A))), (12, .c (.a (.ts kk .ne 1 B))), (90, iX .i64 ((m + 1 : Nat) : Int)), (91, iX .i64 ((((0 : Nat)) : Nat) : Int))] [] (H78) rfl ⟨rfl, rfl, rfl, rfl, rfl, rfl, trivial⟩ trivial (fun _ _ h => h) rfl, Nat.zero_le _, rfl⟩ (fun i s hs => ?_)
              obtain ⟨hi, rfl⟩ := hs
              refine AW.seq ?_
              refine AW.reg ?_
              refine SeqK.q (q_lss rfl rfl rfl) rfl rfl rfl ?_
              refine SeqK.nil ?_
              refine AW.seq ?_
              refine AW.condD rfl (fun h92 => ?_) (fun h92 => ?_)
              ·
                refine AW.skip ?_
                refine AW.seq ?_
                refine AW.block ?_
                refine AW.seq ?_
                refine AW.reg ?_
                refine SeqK.q (q_mvC rfl rfl) rfl rfl rfl ?_
                refine SeqK.q (q_asC rfl rfl) rfl rfl rfl ?_
                refine SeqK.nil ?_
                refine AW.seq ?_
                refine AW.reg ?_
                refine SeqK.q (q_mvC rfl rfl) rfl rfl rfl ?_
                refine SeqK.q (q_add _ rfl rfl rfl ((by rw [w64 (by omega) (by omega)]; omega : IntKind.i64.wrap _ = ((m + 1 : Nat) : Int)))) rfl rfl rfl ?_
                refine SeqK.q (q_mvC rfl rfl) rfl rfl rfl ?_
                refine SeqK.nil ?_
                refine AW.block ?_
                refine AW.loop (fun (j : Nat) s => (j ≤ m + 1) ∧ s = ⟨130, sp [(0, .c (iC m)), (7, .c (.a (.bp k 0))), (11, .c (.a (.ts kb .ne 1 A))), (12, .c (.a (.ts kk .ne 1 B))), (90, iX .i64 ((m + 1 : Nat) : Int)), (91, iX .i64 ((i : Nat) : Int)), (17, iX .i64 ((i : Nat) : Int)), (95, iX .i64 ((m + 1 : Nat) : Int)), (96, iX .i64 ((j : Nat) : Int))], lv [], H78⟩) (fun j => m + 1 - j) 0 ⟨_, Wk.keep 130 [(0, .c (iC m)), (7, .c (.a (.bp k 0))), (11, .c (.a (.ts kb .ne 1 A))), (12, .c (.a (.ts kk .ne 1 B))), (90, iX .i64 ((m + 1 : Nat) : Int)), (91, iX .i64 ((i : Nat) : Int)), (17, iX .i64 ((i : Nat) : Int)), (95, iX .i64 ((m + 1 : Nat) : Int)), (96, iX .i64 ((((0 : Nat)) : Nat) : Int))] [] (H78) rfl ⟨rfl, rfl, rfl, rfl, rfl, rfl, rfl, rfl, rfl, trivial⟩ trivial (fun _ _ h => h) rfl, Nat.zero_le _, rfl⟩ (fun j s hs => ?_)
                obtain ⟨hj, rfl⟩ := hs
                refine AW.seq ?_
                refine AW.reg ?_
                refine SeqK.q (q_lss rfl rfl rfl) rfl rfl rfl ?_
                refine SeqK.nil ?_
                refine AW.seq ?_
                refine AW.condD rfl (fun h97 => ?_) (fun h97 => ?_)
                ·
                  have hii := ii (i := i) (w := m + 1) (by omega) (by omega)
                  refine AW.skip ?_
                  refine AW.seq ?_
                  refine AW.block ?_
                  refine AW.seq ?_
                  refine AW.reg ?_
                  refine SeqK.q (q_mvC rfl rfl) rfl rfl rfl ?_
                  refine SeqK.q (q_asC rfl rfl) rfl rfl rfl ?_
                  refine SeqK.nil ?_
                  refine AW.seq ?_
                  refine AW.reg ?_
                  refine SeqK.q (q_mvC rfl rfl) rfl rfl rfl ?_
                  refine SeqK.q (q_mvC rfl rfl) rfl rfl rfl ?_
                  refine SeqK.q (q_add _ rfl rfl rfl ((by rw [w64 (by omega) (by omega)]; omega : IntKind.i64.wrap _ = ((m + 1 : Nat) : Int)))) rfl rfl rfl ?_
                  refine SeqK.q (q_mul _ rfl rfl rfl ((by rw [← Int.natCast_mul]; exact w64 (by omega) (by omega) : IntKind.i64.wrap _ = ((i * (m + 1) : Nat) : Int)))) rfl rfl rfl ?_
                  refine SeqK.q (q_mvC rfl rfl) rfl rfl rfl ?_
                  refine SeqK.q (q_add _ rfl rfl rfl ((by rw [← Int.natCast_add]; exact w64 (by omega) (by omega) : IntKind.i64.wrap _ = ((i * (m + 1) + j : Nat) : Int)))) rfl rfl rfl ?_
                  refine SeqK.q (q_asC rfl rfl) rfl rfl rfl ?_
                  refine SeqK.nil ?_
                  refine AW.seq ?_
                  refine AW.reg ?_
                  refine SeqK.q (q_mvC rfl rfl) rfl rfl rfl ?_
                  refine SeqK.q (q_mvC rfl rfl) rfl rfl rfl ?_
                  refine SeqK.q (q_mvC rfl rfl) rfl rfl rfl ?_
                  refine SeqK.callE rfl rfl rfl rfl Fx.fn16 rfl (bound_any _ k m (okL m l ++ [b]) _ _ M.r hl2) (fun _ _ h => by obtain ⟨⟨_, _, h, _⟩, _⟩ := h; rw [h]; rfl) (fun x109 H109 q109 => ?_)
                  obtain ⟨⟨c109, ok109, rfl, hb109⟩, hH⟩ := q109
                  replace hH := hH.symm
                  subst hH
                  refine SeqK.q (q_mvT rfl rfl) rfl rfl rfl ?_
                  refine SeqK.q (q_extract _ rfl rfl rfl) rfl rfl rfl ?_
                  refine SeqK.q (q_extract _ rfl rfl rfl) rfl rfl rfl ?_
                  refine SeqK.q (q_asC rfl rfl) rfl rfl rfl ?_
                  refine SeqK.q (q_asC rfl rfl) rfl rfl rfl ?_
                  refine SeqK.nil ?_
                  refine AW.seq ?_
                  have hN := I.len
                  have h9 := Nat.mul_le_mul_right (m + 1) (show i + 1 ≤ m + 1 by omega)
                  rw [Nat.succ_mul i] at h9
                  have hidx : i * (m + 1) + j < vs.length := by omega
                  have hbr := I.br _ hidx
                  rw [(idx_div (by omega)).1, (idx_div (by omega)).2] at hbr
                  refine AW.reg ?_
                  refine SeqK.q (q_mvC rfl rfl) rfl rfl rfl ?_
                  refine SeqK.q (q_mvC rfl rfl) rfl rfl rfl ?_
                  refine SeqK.q (q_indexTs _ rfl Fx.sl43 rfl rfl (by omega) ((by rw [I.hF]; exact idx_map hidx))) rfl rfl rfl ?_
                  refine SeqK.q (q_load (.a _) rfl Fx.ty4 rfl rfl rfl) rfl rfl rfl ?_
                  refine SeqK.qB (q_mvC rfl rfl) rfl rfl rfl (fun g116 => ?_) (fun g116 => ?_)
                  ·
                    refine SeqK.on (q_mvC rfl rfl) rfl rfl rfl rfl rfl ?_
                    refine SeqK.on (q_not rfl rfl) rfl rfl rfl rfl rfl ?_
                    refine SeqK.onB (q_mvC rfl rfl) rfl rfl rfl rfl rfl (fun g119 => ?_) (fun g119 => ?_)
                    ·
                      rw [g116] at hbr; have := (mono_br hs hbr hb109).1; simp [this] at g119
                    ·
                      refine SeqK.on (q_mvC rfl rfl) rfl rfl rfl rfl rfl ?_
                      refine SeqK.on (q_mvC rfl rfl) rfl rfl rfl rfl rfl ?_
                      refine SeqK.on (q_mvC rfl rfl) rfl rfl rfl rfl rfl ?_
                      refine SeqK.on (q_indexTs _ rfl Fx.sl28 rfl rfl (by omega) ((by rw [I.hE]; exact idx_map hidx))) rfl rfl rfl rfl rfl ?_
                      refine SeqK.on (q_load (.a _) rfl Fx.ty2 rfl rfl rfl) rfl rfl rfl rfl rfl ?_
                      refine SeqK.on (q_gtr rfl rfl rfl) rfl rfl rfl rfl rfl ?_
                      refine SeqK.on (q_pkF rfl rfl rfl) rfl rfl rfl rfl rfl ?_
                      refine SeqK.q (q_pkT rfl rfl rfl) rfl rfl rfl ?_
                      refine SeqK.nil ?_
                      refine AW.condD rfl (fun h127 => ?_) (fun h127 => ?_)
                      ·
                        rw [g116] at hbr; have := (mono_br hs hbr hb109).2; omega
                      ·
                        refine AW.skip ?_
                        refine AW.reg ?_
                        refine SeqK.q (q_add _ rfl rfl rfl (w64 (by omega) (by omega))) rfl rfl rfl ?_
                        refine SeqK.q (q_mvC rfl rfl) rfl rfl rfl ?_
                        refine SeqK.nil ?_
                        exact ⟨j + 1, _, Wk.keep 130 [(0, .c (iC m)), (7, .c (.a (.bp k 0))), (11, .c (.a (.ts kb .ne 1 A))), (12, .c (.a (.ts kk .ne 1 B))), (90, iX .i64 ((m + 1 : Nat) : Int)), (91, iX .i64 ((i : Nat) : Int)), (17, iX .i64 ((i : Nat) : Int)), (95, iX .i64 ((m + 1 : Nat) : Int)), (96, iX .i64 (((j + 1) : Nat) : Int))] [] (H78) rfl ⟨rfl, rfl, rfl, rfl, rfl, rfl, rfl, rfl, rfl, trivial⟩ trivial (fun _ _ h => h) rfl, by omega, by omega, rfl⟩
                  ·
                    refine SeqK.off rfl rfl rfl rfl rfl rfl ?_
                    refine SeqK.off rfl rfl rfl rfl rfl rfl ?_
                    refine SeqK.off rfl rfl rfl rfl rfl rfl ?_
                    refine SeqK.offU rfl rfl rfl rfl rfl ?_
                    refine SeqK.offU rfl rfl rfl rfl rfl ?_
                    refine SeqK.offU rfl rfl rfl rfl rfl ?_
                    refine SeqK.offU rfl rfl rfl rfl rfl ?_
                    refine SeqK.offU rfl rfl rfl rfl rfl ?_
                    refine SeqK.offU rfl rfl rfl rfl rfl ?_
                    refine SeqK.off rfl rfl rfl rfl rfl rfl ?_
                    refine SeqK.q (q_pkF rfl rfl rfl) rfl rfl rfl ?_
                    refine SeqK.nil ?_
                    refine AW.condF rfl ?_
                    refine AW.skip ?_
                    refine AW.reg ?_
                    refine SeqK.q (q_add _ rfl rfl rfl (w64 (by omega) (by omega))) rfl rfl rfl ?_
                    refine SeqK.q (q_mvC rfl rfl) rfl rfl rfl ?_
                    refine SeqK.nil ?_
                    exact ⟨j + 1, _, Wk.keep 130 [(0, .c (iC m)), (7, .c (.a (.bp k 0))), (11, .c (.a (.ts kb .ne 1 A))), (12, .c (.a (.ts kk .ne 1 B))), (90, iX .i64 ((m + 1 : Nat) : Int)), (91, iX .i64 ((i : Nat) : Int)), (17, iX .i64 ((i : Nat) : Int)), (95, iX .i64 ((m + 1 : Nat) : Int)), (96, iX .i64 (((j + 1) : Nat) : Int))] [] (H78) rfl ⟨rfl, rfl, rfl, rfl, rfl, rfl, rfl, rfl, rfl, trivial⟩ trivial (fun _ _ h => h) rfl, by omega, by omega, rfl⟩
                ·
                  refine AW.exit ?_
                  refine eth_e ?_
                  refine eth_e ?_
                  refine exit_here ?_
                  refine AW.reg ?_
                  refine SeqK.q (q_add _ rfl rfl rfl (w64 (by omega) (by omega))) rfl rfl rfl ?_
                  refine SeqK.q (q_mvC rfl rfl) rfl rfl rfl ?_
                  refine SeqK.nil ?_
                  exact ⟨i + 1, _, Wk.keep 130 [(0, .c (iC m)), (7, .c (.a (.bp k 0))), (11, .c (.a (.ts kb .ne 1 A))), (12, .c (.a (.ts kk .ne 1 B))), (90, iX .i64 ((m + 1 : Nat) : Int)), (91, iX .i64 (((i + 1) : Nat) : Int))] [] (H78) rfl ⟨rfl, rfl, rfl, rfl, rfl, rfl, trivial⟩ trivial (fun _ _ h => h) rfl, by omega, by omega, rfl⟩
              ·
                refine AW.exit ?_
                refine eth_e ?_
                refine eth_e ?_
                refine exit_here ?_
                refine AW.seq ?_
                refine AW.reg ?_
                refine SeqK.q (q_asC rfl rfl) rfl rfl rfl ?_
                refine SeqK.nil ?_
                refine AW.ret ?_
                exact fin_x (x := .c _) (_) (.tmp rfl .nil) rfl (fun _ _ h => h) (rfl)
    ·
      have hcase : True := trivial
      refine AW.reg ?_
      refine SeqK.q (q_mvC rfl rfl) rfl rfl rfl ?_
      refine SeqK.q (q_mvC rfl rfl) rfl rfl rfl ?_
      refine SeqK.callE rfl rfl rfl rfl Fx.fn13 rfl (built_no _ n z l (by omega) hn) (fun _ _ h => by rw [h]; rfl) (fun x31 H31 q31 => ?_)
      obtain rfl := q31
      refine SeqK.q (q_mvT rfl rfl) rfl rfl rfl ?_
      refine SeqK.q (q_extract _ rfl rfl rfl) rfl rfl rfl ?_
      refine SeqK.q (q_extract _ rfl rfl rfl) rfl rfl rfl ?_
      refine SeqK.q (q_extract _ rfl rfl rfl) rfl rfl rfl ?_
      refine SeqK.q (q_asC rfl rfl) rfl rfl rfl ?_
      refine SeqK.q (q_asC rfl rfl) rfl rfl rfl ?_
      refine SeqK.q (q_asC rfl rfl) rfl rfl rfl ?_
      refine SeqK.nil ?_
      refine AW.seq ?_
      refine AW.seq ?_
      refine AW.reg ?_
      refine SeqK.q (q_mvC rfl rfl) rfl rfl rfl ?_
      refine SeqK.q (q_eqlN rfl rfl rfl Fx.nk25) rfl rfl rfl ?_
      refine SeqK.q (q_mvC rfl rfl) rfl rfl rfl ?_
      refine SeqK.off rfl rfl rfl rfl rfl rfl ?_
      refine SeqK.off rfl rfl rfl rfl rfl rfl ?_
      refine SeqK.q (q_pkT rfl rfl rfl) rfl rfl rfl ?_
      refine SeqK.nil ?_
      refine AW.condT rfl ?_
      refine AW.seq ?_
      refine AW.reg ?_
      refine SeqK.q (q_mvC rfl rfl) rfl rfl rfl ?_
      refine SeqK.q (q_asC rfl rfl) rfl rfl rfl ?_
      refine SeqK.nil ?_
      refine AW.ret ?_
      exact fin_x (x := .c _) (_) (.tmp rfl .nil) rfl (fun _ _ h => h) (rfl)

end Go.Proofs.Ytkpacejikoengaa.W
