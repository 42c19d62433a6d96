import Derived.Test.YtkpacejikoengaaW13
namespace Go.Proofs.Ytkpacejikoengaa.W
open Go.RowKit E M
set_option linter.unusedVariables false
set_option linter.unusedSimpArgs false
section
variable {a b : List Bd} (h : ∀ x, x ∈ a ↔ x ∈ b)
include h
theorem sol_iff {x : Int → Int} : M.Sol a x ↔ M.Sol b x := ⟨fun hs y hy => hs y ((h y).2 hy), fun hs y hy => hs y ((h y).1 hy)⟩
theorem sat_iff : M.Sat a ↔ M.Sat b := ⟨fun ⟨x, hx⟩ => ⟨x, (sol_iff h).1 hx⟩, fun ⟨x, hx⟩ => ⟨x, (sol_iff h).2 hx⟩⟩
theorem satB_same : satB a = satB b := by
  cases e : satB b with
  | true => exact satB_yes ((sat_iff h).2 (satB_t.1 e))
  | false => exact satB_no fun hs => by rw [satB_yes ((sat_iff h).1 hs)] at e; cases e
theorem br_iff {i j c : Int} {ok : Bool} (hb : BR a i j c ok) : BR b i j c ok := by
  rcases hb with ⟨h1, ⟨x, h2, h3⟩, h4⟩ | ⟨h1, h2, h3⟩
  · exact .inl ⟨h1, ⟨x, (sol_iff h).1 h2, h3⟩, fun y hy => h4 y ((sol_iff h).2 hy)⟩
  · exact .inr ⟨h1, h2, fun M => by obtain ⟨x, h5, h6⟩ := h3 M; exact ⟨x, (sol_iff h).1 h5, h6⟩⟩
theorem bres_same {n : Nat} {i j c : Int} {ok : Bool} (hb : BRes a n i j c ok) : BRes b n i j c ok := by
  rcases hb with ⟨h1, h2⟩ | ⟨h1, h2, h3, h4⟩
  · exact .inl ⟨fun h9 => h1 ⟨h9.1, h9.2.1, (sat_iff h).2 h9.2.2⟩, h2⟩
  · exact .inr ⟨h1, h2, (sat_iff h).1 h3, br_iff h h4⟩
end
theorem okL_turn {n k : Nat} {l : List Bd} (x : Bd) : x ∈ okL n (l.drop k ++ l.take k) ↔ x ∈ okL n l := by
  unfold okL
  rw [List.mem_filter, List.mem_filter, List.mem_append, Or.comm, ← List.mem_append, List.take_append_drop]

set_option maxRecDepth 20000 in
theorem order_law (n : Int) (z : Nz) (l : List Bd) (s : Int) (hs : 0 ≤ s ∧ s ≤ 255) (H : Heap) : E.Spec Try.prog 8 [iC n, bdL z l, .a (.t (.v (.int .u8 s)))] H fun x _ => x = bX true := by
  refine Spec.enter Try.func8 rfl ?_
  refine AW.wk (Wk.keep 117 [(0, .c (iC n)), (1, .c (bdL z l)), (2, .c (.a (.t (.v (.int .u8 s)))))] [] (H) rfl ⟨rfl, rfl, rfl, trivial⟩ trivial (fun _ _ h => h) rfl) ?_
  refine AW.seq ?_
  refine AW.reg ?_
  refine SeqK.q (q_asC rfl rfl) rfl rfl rfl ?_
  refine SeqK.nil ?_
  refine AW.seq ?_
  refine AW.seq ?_
  refine AW.reg ?_
  refine SeqK.callE rfl rfl rfl rfl Fx.fn11 rfl (awake_any _) (fun _ _ h => by rw [h]; rfl) (fun x21 H21 q21 => ?_)
  obtain rfl := q21
  refine SeqK.q (q_not rfl rfl) rfl rfl rfl ?_
  refine SeqK.nil ?_
  refine AW.condF rfl ?_
  refine AW.skip ?_
  refine AW.seq ?_
  refine AW.seq ?_
  refine AW.reg ?_
  refine SeqK.q (q_mvC rfl rfl) rfl rfl rfl ?_
  refine SeqK.q (q_mvC rfl rfl) rfl rfl rfl ?_
  refine SeqK.q (q_call _ rfl Fx.fn12 rfl (small_any n z l) rfl) rfl rfl rfl ?_
  refine SeqK.q (q_not rfl rfl) rfl rfl rfl ?_
  refine SeqK.qB (q_mvC rfl rfl) rfl rfl rfl (fun g27 => ?_) (fun g27 => ?_)
  ·
    refine SeqK.off rfl rfl rfl rfl rfl rfl ?_
    refine SeqK.off rfl rfl rfl rfl rfl rfl ?_
    refine SeqK.off rfl rfl rfl rfl rfl rfl ?_
    refine SeqK.q (q_pkT rfl rfl rfl) rfl rfl rfl ?_
    refine SeqK.nil ?_
    refine AW.condT rfl ?_
    refine AW.seq ?_
    refine AW.reg ?_
    refine SeqK.q (q_asC rfl rfl) rfl rfl rfl ?_
    refine SeqK.nil ?_
    refine AW.ret ?_
    exact fin_x (x := .c _) (_) (.tmp rfl .nil) rfl (fun _ _ h => h) (rfl)
  ·
    have hsm : n ≤ 10 ∧ l.length ≤ 40 := by simpa using g27
    refine SeqK.on (q_mvC rfl rfl) rfl rfl rfl rfl rfl ?_
    refine SeqK.on (q_len rfl Fx.un22 rfl) rfl rfl rfl rfl rfl ?_
    refine SeqK.on (q_eql rfl rfl rfl) rfl rfl rfl rfl rfl ?_
    refine SeqK.q (q_pkF rfl rfl rfl) rfl rfl rfl ?_
    refine SeqK.nil ?_
    refine AW.condD rfl (fun h31 => ?_) (fun h31 => ?_)
    ·
      refine AW.seq ?_
      refine AW.reg ?_
      refine SeqK.q (q_asC rfl rfl) rfl rfl rfl ?_
      refine SeqK.nil ?_
      refine AW.ret ?_
      exact fin_x (x := .c _) (_) (.tmp rfl .nil) rfl (fun _ _ h => h) (rfl)
    ·
      have hpos : 0 < l.length := by simp at h31; exact List.length_pos_iff.2 h31
      obtain ⟨kk, hkk⟩ : ∃ kk : Nat, kk = s.toNat % l.length := ⟨_, rfl⟩
      have hkl : kk < l.length := by rw [hkk]; exact Nat.mod_lt _ hpos
      refine AW.skip ?_
      refine AW.seq ?_
      refine AW.reg ?_
      refine SeqK.q (q_mvC rfl rfl) rfl rfl rfl ?_
      refine SeqK.q (q_conv _ rfl Fx.un3 rfl (w64 (by omega) (by omega)) ⟨_, Fx.un5⟩) rfl rfl rfl ?_
      refine SeqK.q (q_mvC rfl rfl) rfl rfl rfl ?_
      refine SeqK.q (q_len rfl Fx.un22 rfl) rfl rfl rfl ?_
      refine SeqK.q (q_remC (c := (kk : Int)) rfl rfl rfl (by rw [List.length_map]; omega) (by rw [List.length_map, hkk, show s = ((s.toNat : Nat) : Int) by omega]; exact (Int.ofNat_tmod s.toNat l.length).symm)) rfl rfl rfl ?_
      refine SeqK.q (q_asC rfl rfl) rfl rfl rfl ?_
      refine SeqK.nil ?_
      refine AW.seq ?_
      refine AW.draw Fx.mo ?_
      refine LexK.q (q_build0 rfl Fx.el22) rfl rfl rfl ?_
      refine LexK.q (q_mvC rfl rfl) rfl rfl rfl ?_
      refine LexK.q (q_mvC rfl rfl) rfl rfl rfl ?_
      refine LexK.q (q_cut _ _ _ rfl Fx.sl22 rfl (by first | rfl | exact ⟨_, rfl⟩) (by first | rfl | exact ⟨_, rfl⟩) (by simp; omega) (by simp) rfl) rfl rfl rfl ?_
      refine LexK.r (b_app0 rfl Fx.el22 rfl rfl (by simp; omega) rfl rfl rfl) rfl ?_
      refine LexK.q (q_mvC rfl rfl) rfl rfl rfl ?_
      refine LexK.q (q_mvC rfl rfl) rfl rfl rfl ?_
      refine LexK.q (q_cut _ _ _ rfl Fx.sl22 rfl (by first | rfl | exact ⟨_, rfl⟩) (by first | rfl | exact ⟨_, rfl⟩) (by omega) (by simp; omega) rfl) rfl rfl rfl ?_
      refine LexK.r (b_app rfl Fx.el22 rfl rfl rfl ((by simp [List.take_of_length_le (show (l.map bdT).length ≤ l.length by simp)] : _ = (l.drop kk ++ l.take kk).map bdT)) (by simp; omega) rfl rfl) rfl ?_
      refine LexK.q (q_asC rfl rfl) rfl rfl rfl ?_
      refine LexK.nil (by kernel_rfl) ?_
      refine AW.seq ?_
      by_cases hn : 0 ≤ n ∧ n ≤ 64
      ·
        obtain ⟨m, rfl⟩ : ∃ m : Nat, n = m := ⟨n.toNat, by omega⟩
        have hm : m ≤ 64 := by omega
        have h100 : (okL m l).length ≤ 100000 := Nat.le_trans okL_len (by omega)
        have h101 : (okL m (l.drop kk ++ l.take kk)).length ≤ 100000 := Nat.le_trans okL_len (by simp; omega)
        refine AW.reg ?_
        refine SeqK.q (q_mvC rfl rfl) rfl rfl rfl ?_
        refine SeqK.q (q_mvC rfl rfl) rfl rfl rfl ?_
        refine SeqK.callE rfl rfl rfl rfl Fx.fn13 rfl (built_ok _ m z l (by omega) hm) (fun _ _ h => by obtain ⟨_, h, _⟩ := h; rw [h]; rfl) (fun x49 H49 q49 => ?_)
        obtain ⟨k, rfl, M1⟩ := q49
        refine SeqK.q (q_mvT rfl rfl) rfl rfl rfl ?_
        refine SeqK.q (q_extract _ rfl rfl rfl) rfl rfl rfl ?_
        refine SeqK.q (q_extract _ rfl rfl rfl) rfl rfl rfl ?_
        refine SeqK.q (q_extract _ rfl rfl rfl) rfl rfl rfl ?_
        refine SeqK.q (q_asC rfl rfl) rfl rfl rfl ?_
        refine SeqK.q (q_asC rfl rfl) rfl rfl rfl ?_
        refine SeqK.q (q_asC rfl rfl) rfl rfl rfl ?_
        refine SeqK.nil ?_
        refine AW.seq ?_
        refine AW.reg ?_
        refine SeqK.q (q_mvC rfl rfl) rfl rfl rfl ?_
        refine SeqK.q (q_mvC rfl rfl) rfl rfl rfl ?_
        refine SeqK.callE rfl rfl rfl rfl Fx.fn13 rfl (E.Spec.frame2 (built_ok (fun _ => none) m .nn (l.drop kk ++ l.take kk) (by simp; omega) hm) (Part.start H49)) (fun _ _ h => by obtain ⟨_, ⟨_, h, _⟩, _⟩ := h; rw [h]; rfl) (fun x56 H56 q56 => ?_)
        obtain ⟨A56, ⟨k2, rfl, M2⟩, PT⟩ := q56
        have IR : MatR H56 k m (okL m l) := M1.r.mono fun j o h he _ => PT.sub j o (full_some.2 ⟨h, he⟩)
        have IR2 : MatR H56 k2 m (okL m (l.drop kk ++ l.take kk)) := M2.r.mono fun j o h he _ => PT.left j o (full_some.2 ⟨h, he⟩)
        refine SeqK.q (q_mvT rfl rfl) rfl rfl rfl ?_
        refine SeqK.q (q_extract _ rfl rfl rfl) rfl rfl rfl ?_
        refine SeqK.q (q_extract _ rfl rfl rfl) rfl rfl rfl ?_
        refine SeqK.q (q_extract _ rfl rfl rfl) rfl rfl rfl ?_
        refine SeqK.q (q_asC rfl rfl) rfl rfl rfl ?_
        refine SeqK.q (q_asC rfl rfl) rfl rfl rfl ?_
        refine SeqK.q (q_asC rfl rfl) rfl rfl rfl ?_
        refine SeqK.nil ?_
        refine AW.seq ?_
        refine AW.seq ?_
        refine AW.reg ?_
        refine SeqK.q (q_mvC rfl rfl) rfl rfl rfl ?_
        refine SeqK.q (q_eqlN rfl rfl rfl Fx.nk25) rfl rfl rfl ?_
        refine SeqK.q (q_mvC rfl rfl) rfl rfl rfl ?_
        refine SeqK.on (q_mvC rfl rfl) rfl rfl rfl rfl rfl ?_
        refine SeqK.on (q_eqlN rfl rfl rfl Fx.nk25) rfl rfl rfl rfl rfl ?_
        refine SeqK.q (q_pkF rfl rfl rfl) rfl rfl rfl ?_
        refine SeqK.q (q_mvC rfl rfl) rfl rfl rfl ?_
        refine SeqK.on (q_mvC rfl rfl) rfl rfl rfl rfl rfl ?_
        refine SeqK.on (q_not rfl rfl) rfl rfl rfl rfl rfl ?_
        refine SeqK.q (q_pkF rfl rfl rfl) rfl rfl rfl ?_
        refine SeqK.q (q_mvC rfl rfl) rfl rfl rfl ?_
        refine SeqK.on (q_mvC rfl rfl) rfl rfl rfl rfl rfl ?_
        refine SeqK.on (q_not rfl rfl) rfl rfl rfl rfl rfl ?_
        refine SeqK.q (q_pkF rfl rfl rfl) rfl rfl rfl ?_
        refine SeqK.nil ?_
        refine AW.condF rfl ?_
        refine AW.skip ?_
        refine AW.seq ?_
        refine AW.seq ?_
        refine AW.reg ?_
        refine SeqK.q (q_mvC rfl rfl) rfl rfl rfl ?_
        refine SeqK.r (g_call rfl Fx.fn15 rfl (sat_pure _ k m _ IR h100 rfl) rfl rfl rfl) rfl ?_
        refine SeqK.q (q_mvC rfl rfl) rfl rfl rfl ?_
        refine SeqK.r (g_call rfl Fx.fn15 rfl (sat_pure _ k2 m _ IR2 h101 (satB_same okL_turn)) rfl rfl rfl) rfl ?_
        refine SeqK.q (q_neqB rfl Fx.un4 rfl rfl) rfl rfl rfl ?_
        refine SeqK.nil ?_
        refine AW.condD rfl (fun h82 => ?_) (fun h82 => ?_)
        ·
          exact absurd h82 (by simp)
        ·
          refine AW.skip ?_
          refine AW.seq ?_
          refine AW.seq ?_
          refine AW.reg ?_
          refine SeqK.q (q_mvC rfl rfl) rfl rfl rfl ?_
          refine SeqK.q (q_add _ rfl rfl rfl ((by rw [w64 (by omega) (by omega)]; omega : IntKind.i64.wrap _ = ((m + 1 : Nat) : Int)))) rfl rfl rfl ?_
          refine SeqK.q (q_mvC rfl rfl) rfl rfl rfl ?_
          refine SeqK.nil ?_
          refine AW.block ?_
          refine AW.loop (fun (i : Nat) s => (i ≤ m + 1) ∧ s = ⟨117, sp [(0, .c (iC m)), (9, .c (.a (.bp k 0))), (12, .c (.a (.bp k2 0))), (84, iX .i64 ((m + 1 : Nat) : Int)), (85, iX .i64 ((i : Nat) : Int))], lv [], H56⟩) (fun i => m + 1 - i) 0 ⟨_, Wk.keep 117 [(0, .c (iC m)), (9, .c (.a (.bp k 0))), (12, .c (.a (.bp k2 0))), (84, iX .i64 ((m + 1 : Nat) : Int)), (85, iX .i64 ((((0 : Nat)) : Nat) : Int))] [] (H56) rfl ⟨rfl, rfl, rfl, rfl, rfl, trivial⟩ trivial (fun _ _ h => h) rfl, Nat.zero_le _, rfl⟩ (fun i s hs => ?_)
          obtain ⟨hi, rfl⟩ := hs
          refine AW.seq ?_
          refine AW.reg ?_
          refine SeqK.q (q_lss rfl rfl rfl) rfl rfl rfl ?_
          refine SeqK.nil ?_
          refine AW.seq ?_
          refine AW.condD rfl (fun h86 => ?_) (fun h86 => ?_)
          ·
            refine AW.skip ?_
            refine AW.seq ?_
            refine AW.block ?_
            refine AW.seq ?_
            refine AW.reg ?_
            refine SeqK.q (q_mvC rfl rfl) rfl rfl rfl ?_
            refine SeqK.q (q_asC rfl rfl) rfl rfl rfl ?_
            refine SeqK.nil ?_
            refine AW.seq ?_
            refine AW.reg ?_
            refine SeqK.q (q_mvC rfl rfl) rfl rfl rfl ?_
            refine SeqK.q (q_add _ rfl rfl rfl ((by rw [w64 (by omega) (by omega)]; omega : IntKind.i64.wrap _ = ((m + 1 : Nat) : Int)))) rfl rfl rfl ?_
            refine SeqK.q (q_mvC rfl rfl) rfl rfl rfl ?_
            refine SeqK.nil ?_
            refine AW.block ?_
            refine AW.loop (fun (j : Nat) s => (j ≤ m + 1) ∧ s = ⟨117, sp [(0, .c (iC m)), (9, .c (.a (.bp k 0))), (12, .c (.a (.bp k2 0))), (84, iX .i64 ((m + 1 : Nat) : Int)), (85, iX .i64 ((i : Nat) : Int)), (15, iX .i64 ((i : Nat) : Int)), (89, iX .i64 ((m + 1 : Nat) : Int)), (90, iX .i64 ((j : Nat) : Int))], lv [], H56⟩) (fun j => m + 1 - j) 0 ⟨_, Wk.keep 117 [(0, .c (iC m)), (9, .c (.a (.bp k 0))), (12, .c (.a (.bp k2 0))), (84, iX .i64 ((m + 1 : Nat) : Int)), (85, iX .i64 ((i : Nat) : Int)), (15, iX .i64 ((i : Nat) : Int)), (89, iX .i64 ((m + 1 : Nat) : Int)), (90, iX .i64 ((((0 : Nat)) : Nat) : Int))] [] (H56) rfl ⟨rfl, rfl, rfl, rfl, rfl, rfl, rfl, rfl, trivial⟩ trivial (fun _ _ h => h) rfl, Nat.zero_le _, rfl⟩ (fun j s hs => ?_)
            obtain ⟨hj, rfl⟩ := hs
            refine AW.seq ?_
            refine AW.reg ?_
            refine SeqK.q (q_lss rfl rfl rfl) rfl rfl rfl ?_
            refine SeqK.nil ?_
            refine AW.seq ?_
            refine AW.condD rfl (fun h91 => ?_) (fun h91 => ?_)
            ·
              refine AW.skip ?_
              refine AW.seq ?_
              refine AW.block ?_
              refine AW.seq ?_
              refine AW.reg ?_
              refine SeqK.q (q_mvC rfl rfl) rfl rfl rfl ?_
              refine SeqK.q (q_asC rfl rfl) rfl rfl rfl ?_
              refine SeqK.nil ?_
              refine AW.seq ?_
              refine AW.reg ?_
              refine SeqK.q (q_mvC rfl rfl) rfl rfl rfl ?_
              refine SeqK.q (q_mvC rfl rfl) rfl rfl rfl ?_
              refine SeqK.q (q_mvC rfl rfl) rfl rfl rfl ?_
              refine SeqK.callE rfl rfl rfl rfl Fx.fn16 rfl (bound_any _ k m (okL m l) _ _ IR h100) (fun _ _ h => by obtain ⟨⟨_, _, h, _⟩, _⟩ := h; rw [h]; rfl) (fun x97 H97 q97 => ?_)
              obtain ⟨⟨c97, ok97, rfl, hb97⟩, hH⟩ := q97
              replace hH := hH.symm
              subst hH
              refine SeqK.q (q_mvT rfl rfl) rfl rfl rfl ?_
              refine SeqK.q (q_extract _ rfl rfl rfl) rfl rfl rfl ?_
              refine SeqK.q (q_extract _ rfl rfl rfl) rfl rfl rfl ?_
              refine SeqK.q (q_asC rfl rfl) rfl rfl rfl ?_
              refine SeqK.q (q_asC rfl rfl) rfl rfl rfl ?_
              refine SeqK.nil ?_
              refine AW.seq ?_
              refine AW.reg ?_
              refine SeqK.q (q_mvC rfl rfl) rfl rfl rfl ?_
              refine SeqK.q (q_mvC rfl rfl) rfl rfl rfl ?_
              refine SeqK.q (q_mvC rfl rfl) rfl rfl rfl ?_
              refine SeqK.callE rfl rfl rfl rfl Fx.fn16 rfl (bound_any _ k2 m _ _ _ IR2 h101) (fun _ _ h => by obtain ⟨⟨_, _, h, _⟩, _⟩ := h; rw [h]; rfl) (fun x104 H104 q104 => ?_)
              obtain ⟨⟨c104, ok104, rfl, hb104⟩, hH⟩ := q104
              replace hH := hH.symm
              subst hH
              refine SeqK.q (q_mvT rfl rfl) rfl rfl rfl ?_
              refine SeqK.q (q_extract _ rfl rfl rfl) rfl rfl rfl ?_
              refine SeqK.q (q_extract _ rfl rfl rfl) rfl rfl rfl ?_
              refine SeqK.q (q_asC rfl rfl) rfl rfl rfl ?_
              refine SeqK.q (q_asC rfl rfl) rfl rfl rfl ?_
              refine SeqK.nil ?_
              refine AW.seq ?_
              obtain ⟨hc, ho⟩ := hb97.uniq (bres_same okL_turn hb104)
              subst hc ho
              refine AW.reg ?_
              refine SeqK.q (q_mvC rfl rfl) rfl rfl rfl ?_
              refine SeqK.q (q_mvC rfl rfl) rfl rfl rfl ?_
              refine SeqK.q (q_neq rfl rfl rfl) rfl rfl rfl ?_
              refine SeqK.qD (q_mvC rfl rfl) rfl rfl rfl (fun g110 => ?_) (fun g110 => ?_)
              ·
                exact (g110 rfl).elim
              ·
                refine SeqK.on (q_mvC rfl rfl) rfl rfl rfl rfl rfl ?_
                refine SeqK.on (q_mvC rfl rfl) rfl rfl rfl rfl rfl ?_
                refine SeqK.on (q_neqB rfl Fx.un4 rfl rfl) rfl rfl rfl rfl rfl ?_
                refine SeqK.q (q_pkF rfl rfl rfl) rfl rfl rfl ?_
                refine SeqK.nil ?_
                refine AW.condD rfl (fun h114 => ?_) (fun h114 => ?_)
                ·
                  exact absurd h114 (by simp)
                ·
                  refine AW.skip ?_
                  refine AW.reg ?_
                  refine SeqK.q (q_add _ rfl rfl rfl (w64 (by omega) (by omega))) rfl rfl rfl ?_
                  refine SeqK.q (q_mvC rfl rfl) rfl rfl rfl ?_
                  refine SeqK.nil ?_
                  exact ⟨j + 1, _, Wk.keep 117 [(0, .c (iC m)), (9, .c (.a (.bp k 0))), (12, .c (.a (.bp k2 0))), (84, iX .i64 ((m + 1 : Nat) : Int)), (85, iX .i64 ((i : Nat) : Int)), (15, iX .i64 ((i : Nat) : Int)), (89, iX .i64 ((m + 1 : Nat) : Int)), (90, iX .i64 (((j + 1) : Nat) : Int))] [] (H56) rfl ⟨rfl, rfl, rfl, rfl, rfl, rfl, rfl, rfl, trivial⟩ trivial (fun _ _ h => h) rfl, by omega, by omega, rfl⟩
            ·
              refine AW.exit ?_
              refine eth_e ?_
              refine eth_e ?_
              refine exit_here ?_
              refine AW.reg ?_
              refine SeqK.q (q_add _ rfl rfl rfl (w64 (by omega) (by omega))) rfl rfl rfl ?_
              refine SeqK.q (q_mvC rfl rfl) rfl rfl rfl ?_
              refine SeqK.nil ?_
              exact ⟨i + 1, _, Wk.keep 117 [(0, .c (iC m)), (9, .c (.a (.bp k 0))), (12, .c (.a (.bp k2 0))), (84, iX .i64 ((m + 1 : Nat) : Int)), (85, iX .i64 (((i + 1) : Nat) : Int))] [] (H56) rfl ⟨rfl, rfl, rfl, rfl, rfl, trivial⟩ trivial (fun _ _ h => h) rfl, by omega, by omega, rfl⟩
          ·
            refine AW.exit ?_
            refine eth_e ?_
            refine eth_e ?_
            refine exit_here ?_
            refine AW.seq ?_
            refine AW.reg ?_
            refine SeqK.q (q_asC rfl rfl) rfl rfl rfl ?_
            refine SeqK.nil ?_
            refine AW.ret ?_
            exact fin_x (x := .c _) (_) (.tmp rfl .nil) rfl (fun _ _ h => h) (rfl)
      ·
        have hcase : True := trivial
        refine AW.reg ?_
        refine SeqK.q (q_mvC rfl rfl) rfl rfl rfl ?_
        refine SeqK.q (q_mvC rfl rfl) rfl rfl rfl ?_
        refine SeqK.callE rfl rfl rfl rfl Fx.fn13 rfl (built_no _ n z l (by omega) hn) (fun _ _ h => by rw [h]; rfl) (fun x49 H49 q49 => ?_)
        obtain rfl := q49
        refine SeqK.q (q_mvT rfl rfl) rfl rfl rfl ?_
        refine SeqK.q (q_extract _ rfl rfl rfl) rfl rfl rfl ?_
        refine SeqK.q (q_extract _ rfl rfl rfl) rfl rfl rfl ?_
        refine SeqK.q (q_extract _ rfl rfl rfl) rfl rfl rfl ?_
        refine SeqK.q (q_asC rfl rfl) rfl rfl rfl ?_
        refine SeqK.q (q_asC rfl rfl) rfl rfl rfl ?_
        refine SeqK.q (q_asC rfl rfl) rfl rfl rfl ?_
        refine SeqK.nil ?_
        refine AW.seq ?_
        refine AW.reg ?_
        refine SeqK.q (q_mvC rfl rfl) rfl rfl rfl ?_
        refine SeqK.q (q_mvC rfl rfl) rfl rfl rfl ?_
        refine SeqK.callE rfl rfl rfl rfl Fx.fn13 rfl (built_no _ n .nn (l.drop kk ++ l.take kk) (by simp; omega) hn) (fun _ _ h => by rw [h]; rfl) (fun x56 H56 q56 => ?_)
        obtain rfl := q56
        refine SeqK.q (q_mvT rfl rfl) rfl rfl rfl ?_
        refine SeqK.q (q_extract _ rfl rfl rfl) rfl rfl rfl ?_
        refine SeqK.q (q_extract _ rfl rfl rfl) rfl rfl rfl ?_
        refine SeqK.q (q_extract _ rfl rfl rfl) rfl rfl rfl ?_
        refine SeqK.q (q_asC rfl rfl) rfl rfl rfl ?_
        refine SeqK.q (q_asC rfl rfl) rfl rfl rfl ?_
        refine SeqK.q (q_asC rfl rfl) rfl rfl rfl ?_
        refine SeqK.nil ?_
        refine AW.seq ?_
        refine AW.seq ?_
        refine AW.reg ?_
        refine SeqK.q (q_mvC rfl rfl) rfl rfl rfl ?_
        refine SeqK.q (q_eqlN rfl rfl rfl Fx.nk25) rfl rfl rfl ?_
        refine SeqK.q (q_mvC rfl rfl) rfl rfl rfl ?_
        refine SeqK.off rfl rfl rfl rfl rfl rfl ?_
        refine SeqK.off rfl rfl rfl rfl rfl rfl ?_
        refine SeqK.q (q_pkT rfl rfl rfl) rfl rfl rfl ?_
        refine SeqK.q (q_mvC rfl rfl) rfl rfl rfl ?_
        refine SeqK.off rfl rfl rfl rfl rfl rfl ?_
        refine SeqK.off rfl rfl rfl rfl rfl rfl ?_
        refine SeqK.q (q_pkT rfl rfl rfl) rfl rfl rfl ?_
        refine SeqK.q (q_mvC rfl rfl) rfl rfl rfl ?_
        refine SeqK.off rfl rfl rfl rfl rfl rfl ?_
        refine SeqK.off rfl rfl rfl rfl rfl rfl ?_
        refine SeqK.q (q_pkT rfl rfl rfl) rfl rfl rfl ?_
        refine SeqK.nil ?_
        refine AW.condT rfl ?_
        refine AW.seq ?_
        refine AW.reg ?_
        refine SeqK.q (q_mvC rfl rfl) rfl rfl rfl ?_
        refine SeqK.q (q_mvC rfl rfl) rfl rfl rfl ?_
        refine SeqK.on (q_mvC rfl rfl) rfl rfl rfl rfl rfl ?_
        refine SeqK.q (q_pkT rfl rfl rfl) rfl rfl rfl ?_
        refine SeqK.q (q_asC rfl rfl) rfl rfl rfl ?_
        refine SeqK.nil ?_
        refine AW.ret ?_
        exact fin_x (x := .c _) (_) (.tmp rfl .nil) rfl (fun _ _ h => h) (rfl)

end Go.Proofs.Ytkpacejikoengaa.W
