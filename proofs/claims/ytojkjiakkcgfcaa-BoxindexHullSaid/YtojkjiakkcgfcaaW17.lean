import Derived.Test.YtojkjiakkcgfcaaB4
namespace Go.Proofs.Ytojkjiakkcgfcaa.W
open Go.RowKit E
set_option linter.unusedVariables false
theorem bothN_len (a b : Int) (l : List Int) : bothN a b l ≤ l.length := List.length_filter_le _ _

set_option maxRecDepth 20000 in
theorem hull_law (l : List Opn) (hl : l.length ≤ 140737488351232) (hs : ∀ o ∈ l, o.b.ss.length ≤ 140737488351232) (H : Heap) : E.Spec Try.prog 8 [opL l] H fun x _ => x = bX true := by
  refine Spec.enter Try.func8 rfl ?_
  refine AW.wk (Wk.keep 101 [(0, .c (opL l))] [] (H) rfl ⟨rfl, trivial⟩ trivial (fun _ _ h => h) rfl) ?_
  refine AW.seq ?_
  refine AW.reg ?_
  refine SeqK.q (q_asC rfl rfl) rfl rfl rfl ?_
  refine SeqK.nil ?_
  refine AW.seq ?_
  refine AW.seq ?_
  refine AW.reg ?_
  refine SeqK.callE rfl rfl rfl rfl Fx.fn9 rfl (awake_any _) (fun _ _ h => by rw [h]; rfl) (fun x13 H13 q13 => ?_)
  obtain rfl := q13
  refine SeqK.q (q_not rfl rfl) rfl rfl rfl ?_
  refine SeqK.nil ?_
  refine AW.condF rfl ?_
  refine AW.skip ?_
  refine AW.seq ?_
  refine AW.seq ?_
  refine AW.reg ?_
  refine SeqK.q (q_mvC rfl rfl) rfl rfl rfl ?_
  refine SeqK.q (q_call _ rfl Fx.fn10 rfl (fair_any _ l _ (by omega) hs) rfl) rfl rfl rfl ?_
  refine SeqK.q (q_not rfl rfl) rfl rfl rfl ?_
  refine SeqK.nil ?_
  refine AW.cond _ rfl (fun h17 => ?_) (fun h17 => ?_)
  ·
    refine AW.seq ?_
    refine AW.reg ?_
    refine SeqK.q (q_asC rfl rfl) rfl rfl rfl ?_
    refine SeqK.nil ?_
    refine AW.ret ?_
    exact fin_x (x := .c _) (_) (.tmp rfl .nil) rfl (fun _ _ h => h) (rfl)
  ·
    have hfair : fairB l 30 = true := by simpa using h17
    have hl60 := fairB_len hfair
    have hsm := fairB_small hfair
    refine AW.skip ?_
    refine AW.seq ?_
    refine AW.reg ?_
    refine SeqK.q (q_mvC rfl rfl) rfl rfl rfl ?_
    refine SeqK.callE rfl rfl rfl rfl Fx.fn11 rfl (play_sub l (by omega) hsm _) (fun _ _ h => by obtain ⟨_, _, _, h, _⟩ := h; rw [h]; rfl) (fun x20 H20 q20 => ?_)
    obtain ⟨c, f, its, rfl, I, R, ⟨hit, hsub⟩, hil⟩ := q20
    refine SeqK.q (q_mvT rfl rfl) rfl rfl rfl ?_
    refine SeqK.q (q_extract _ rfl rfl rfl) rfl rfl rfl ?_
    refine SeqK.q (q_extract _ rfl rfl rfl) rfl rfl rfl ?_
    refine SeqK.q (q_extract _ rfl rfl rfl) rfl rfl rfl ?_
    refine SeqK.q (q_asC rfl rfl) rfl rfl rfl ?_
    refine SeqK.q (q_asC rfl rfl) rfl rfl rfl ?_
    refine SeqK.q (q_asC rfl rfl) rfl rfl rfl ?_
    refine SeqK.nil ?_
    refine AW.seq ?_
    refine AW.seq ?_
    refine AW.reg ?_
    refine SeqK.q (q_mvC rfl rfl) rfl rfl rfl ?_
    refine SeqK.q (q_not rfl rfl) rfl rfl rfl ?_
    refine SeqK.nil ?_
    refine AW.condF rfl ?_
    refine AW.skip ?_
    refine AW.seq ?_
    refine AW.seq ?_
    refine AW.reg ?_
    refine SeqK.q (q_mvC rfl rfl) rfl rfl rfl ?_
    refine SeqK.q (q_len rfl Fx.un26 rfl) rfl rfl rfl ?_
    refine SeqK.q (q_mvC rfl rfl) rfl rfl rfl ?_
    refine SeqK.nil ?_
    refine AW.block ?_
    refine AW.loop (fun (i : Nat) s => (i ≤ its.length) ∧ s = ⟨101, sp [(3, .c (.a (.bp c 0))), (4, .c (itL .ne its)), (26, .c (itL .ne its)), (27, iX .i64 ((its.map itT).length : Nat)), (28, iX .i64 ((i : Nat) : Int))], lv [], H20⟩) (fun i => its.length - i) 0 ⟨_, Wk.keep 101 [(3, .c (.a (.bp c 0))), (4, .c (itL .ne its)), (26, .c (itL .ne its)), (27, iX .i64 ((its.map itT).length : Nat)), (28, iX .i64 ((((0 : Nat)) : Nat) : Int))] [] (H20) rfl ⟨rfl, rfl, rfl, rfl, rfl, trivial⟩ trivial (fun _ _ h => h) rfl, Nat.zero_le _, rfl⟩ (fun i s hs => ?_)
    obtain ⟨hi, rfl⟩ := hs
    refine AW.seq ?_
    refine AW.reg ?_
    refine SeqK.q (q_lss rfl rfl rfl) rfl rfl rfl ?_
    refine SeqK.nil ?_
    refine AW.seq ?_
    refine AW.condD rfl (fun h29 => ?_) (fun h29 => ?_)
    ·
      have hka : i < its.length := by simp at h29; omega
      have hsi := hit _ (List.getElem_mem hka)
      refine AW.skip ?_
      refine AW.seq ?_
      refine AW.block ?_
      refine AW.seq ?_
      refine AW.reg ?_
      refine SeqK.q (q_index _ rfl Fx.sl26 rfl rfl (by omega) (idx_map hka)) rfl rfl rfl ?_
      refine SeqK.q (q_load (.g [_, _, _]) rfl Fx.ty47 rfl rfl rfl) rfl rfl rfl ?_
      refine SeqK.r (b_alloc (r := [_, _, _]) rfl rfl Fx.ze47 rfl rfl rfl rfl) rfl ?_
      refine SeqK.r (b_store (r := [_, _, _]) rfl rfl Fx.ty47 rfl rfl rfl rfl rfl rfl) rfl ?_
      refine SeqK.nil ?_
      refine AW.seq ?_
      refine AW.reg ?_
      refine SeqK.q (q_mvC rfl rfl) rfl rfl rfl ?_
      refine SeqK.q (q_len rfl Fx.un26 rfl) rfl rfl rfl ?_
      refine SeqK.q (q_mvC rfl rfl) rfl rfl rfl ?_
      refine SeqK.nil ?_
      refine AW.block ?_
      refine AW.loop (fun (j : Nat) s => (j ≤ its.length) ∧ s = ⟨101, sp [(3, .c (.a (.bp c 0))), (4, .c (itL .ne its)), (7, .lp 7 0), (26, .c (itL .ne its)), (27, iX .i64 ((its.map itT).length : Nat)), (28, iX .i64 ((i : Nat) : Int)), (32, .c (itL .ne its)), (33, iX .i64 ((its.map itT).length : Nat)), (34, iX .i64 ((j : Nat) : Int))], lv [(7, .box [.t (.v (.int .i64 its[i].1)), .t (.v (.int .i64 its[i].2.tb)), .t (.sl .un 6 (its[i].2.ss.map sdT))])], H20⟩) (fun j => its.length - j) 0 ⟨_, Wk.keep 101 [(3, .c (.a (.bp c 0))), (4, .c (itL .ne its)), (7, .lp 7 0), (26, .c (itL .ne its)), (27, iX .i64 ((its.map itT).length : Nat)), (28, iX .i64 ((i : Nat) : Int)), (32, .c (itL .ne its)), (33, iX .i64 ((its.map itT).length : Nat)), (34, iX .i64 ((((0 : Nat)) : Nat) : Int))] [(7, .box [.t (.v (.int .i64 its[i].1)), .t (.v (.int .i64 its[i].2.tb)), .t (.sl .un 6 (its[i].2.ss.map sdT))])] (H20) rfl ⟨rfl, rfl, rfl, rfl, rfl, rfl, rfl, rfl, rfl, trivial⟩ ⟨rfl, trivial⟩ (fun _ _ h => h) rfl, Nat.zero_le _, rfl⟩ (fun j s hs => ?_)
      obtain ⟨hj, rfl⟩ := hs
      refine AW.seq ?_
      refine AW.reg ?_
      refine SeqK.q (q_lss rfl rfl rfl) rfl rfl rfl ?_
      refine SeqK.nil ?_
      refine AW.seq ?_
      refine AW.condD rfl (fun h35 => ?_) (fun h35 => ?_)
      ·
        have hja : j < its.length := by simp at h35; omega
        have hsj := hit _ (List.getElem_mem hja)
        refine AW.skip ?_
        refine AW.seq ?_
        refine AW.block ?_
        refine AW.seq ?_
        refine AW.reg ?_
        refine SeqK.q (q_index _ rfl Fx.sl26 rfl rfl (by omega) (idx_map hja)) rfl rfl rfl ?_
        refine SeqK.q (q_load (.g [_, _, _]) rfl Fx.ty47 rfl rfl rfl) rfl rfl rfl ?_
        refine SeqK.r (b_alloc (r := [_, _, _]) rfl rfl Fx.ze47 rfl rfl rfl rfl) rfl ?_
        refine SeqK.r (b_store (r := [_, _, _]) rfl rfl Fx.ty47 rfl rfl rfl rfl rfl rfl) rfl ?_
        refine SeqK.nil ?_
        refine AW.seq ?_
        refine AW.seq ?_
        refine AW.reg ?_
        refine SeqK.q (q_fieldL _ rfl Fx.fl47_1 rfl rfl) rfl rfl rfl ?_
        refine SeqK.q (q_fieldL _ rfl Fx.fl32_0 rfl rfl) rfl rfl rfl ?_
        refine SeqK.r (b_load (r := .a _) rfl Fx.ty3 rfl rfl rfl rfl rfl rfl) rfl ?_
        refine SeqK.q (q_fieldL _ rfl Fx.fl47_1 rfl rfl) rfl rfl rfl ?_
        refine SeqK.q (q_fieldL _ rfl Fx.fl32_0 rfl rfl) rfl rfl rfl ?_
        refine SeqK.r (b_load (r := .a _) rfl Fx.ty3 rfl rfl rfl rfl rfl rfl) rfl ?_
        refine SeqK.q (q_neq rfl rfl rfl) rfl rfl rfl ?_
        refine SeqK.qD (q_mvC rfl rfl) rfl rfl rfl (fun g45 => ?_) (fun g45 => ?_)
        ·
          refine SeqK.off rfl rfl rfl rfl rfl rfl ?_
          refine SeqK.off rfl rfl rfl rfl rfl rfl ?_
          refine SeqK.off rfl rfl rfl rfl rfl rfl ?_
          refine SeqK.off rfl rfl rfl rfl rfl rfl ?_
          refine SeqK.off rfl rfl rfl rfl rfl rfl ?_
          refine SeqK.q (q_pkT rfl rfl rfl) rfl rfl rfl ?_
          refine SeqK.q (q_mvC rfl rfl) rfl rfl rfl ?_
          refine SeqK.off rfl rfl rfl rfl rfl rfl ?_
          refine SeqK.off rfl rfl rfl rfl rfl rfl ?_
          refine SeqK.off rfl rfl rfl rfl rfl rfl ?_
          refine SeqK.off rfl rfl rfl rfl rfl rfl ?_
          refine SeqK.off rfl rfl rfl rfl rfl rfl ?_
          refine SeqK.q (q_pkT rfl rfl rfl) rfl rfl rfl ?_
          refine SeqK.nil ?_
          refine AW.condT rfl ?_
          refine AW.exit ?_
          refine eth_e ?_
          refine exit_here ?_
          refine AW.reg ?_
          refine SeqK.q (q_add _ rfl rfl rfl (w64 (by omega) (by omega))) rfl rfl rfl ?_
          refine SeqK.q (q_mvC rfl rfl) rfl rfl rfl ?_
          refine SeqK.nil ?_
          exact ⟨j + 1, _, Wk.keep 101 [(3, .c (.a (.bp c 0))), (4, .c (itL .ne its)), (7, .lp 7 0), (26, .c (itL .ne its)), (27, iX .i64 ((its.map itT).length : Nat)), (28, iX .i64 ((i : Nat) : Int)), (32, .c (itL .ne its)), (33, iX .i64 ((its.map itT).length : Nat)), (34, iX .i64 (((j + 1) : Nat) : Int))] [(7, .box [.t (.v (.int .i64 its[i].1)), .t (.v (.int .i64 its[i].2.tb)), .t (.sl .un 6 (its[i].2.ss.map sdT))])] (H20) rfl ⟨rfl, rfl, rfl, rfl, rfl, rfl, rfl, rfl, rfl, trivial⟩ ⟨rfl, trivial⟩ (fun _ _ h => h) rfl, by omega, by omega, rfl⟩
        ·
          refine SeqK.on (q_fieldL _ rfl Fx.fl47_1 rfl rfl) rfl rfl rfl rfl rfl ?_
          refine SeqK.on (q_fieldL _ rfl Fx.fl32_1 rfl rfl) rfl rfl rfl rfl rfl ?_
          refine SeqK.rOn (b_load (r := .a _) rfl Fx.ty30 rfl rfl rfl rfl rfl rfl) rfl rfl rfl ?_
          refine SeqK.on (q_len rfl Fx.un30 rfl) rfl rfl rfl rfl rfl ?_
          refine SeqK.on (q_eql rfl rfl rfl) rfl rfl rfl rfl rfl ?_
          refine SeqK.q (q_pkF rfl rfl rfl) rfl rfl rfl ?_
          refine SeqK.qD (q_mvC rfl rfl) rfl rfl rfl (fun g52 => ?_) (fun g52 => ?_)
          ·
            refine SeqK.off rfl rfl rfl rfl rfl rfl ?_
            refine SeqK.off rfl rfl rfl rfl rfl rfl ?_
            refine SeqK.off rfl rfl rfl rfl rfl rfl ?_
            refine SeqK.off rfl rfl rfl rfl rfl rfl ?_
            refine SeqK.off rfl rfl rfl rfl rfl rfl ?_
            refine SeqK.q (q_pkT rfl rfl rfl) rfl rfl rfl ?_
            refine SeqK.nil ?_
            refine AW.condT rfl ?_
            refine AW.exit ?_
            refine eth_e ?_
            refine exit_here ?_
            refine AW.reg ?_
            refine SeqK.q (q_add _ rfl rfl rfl (w64 (by omega) (by omega))) rfl rfl rfl ?_
            refine SeqK.q (q_mvC rfl rfl) rfl rfl rfl ?_
            refine SeqK.nil ?_
            exact ⟨j + 1, _, Wk.keep 101 [(3, .c (.a (.bp c 0))), (4, .c (itL .ne its)), (7, .lp 7 0), (26, .c (itL .ne its)), (27, iX .i64 ((its.map itT).length : Nat)), (28, iX .i64 ((i : Nat) : Int)), (32, .c (itL .ne its)), (33, iX .i64 ((its.map itT).length : Nat)), (34, iX .i64 (((j + 1) : Nat) : Int))] [(7, .box [.t (.v (.int .i64 its[i].1)), .t (.v (.int .i64 its[i].2.tb)), .t (.sl .un 6 (its[i].2.ss.map sdT))])] (H20) rfl ⟨rfl, rfl, rfl, rfl, rfl, rfl, rfl, rfl, rfl, trivial⟩ ⟨rfl, trivial⟩ (fun _ _ h => h) rfl, by omega, by omega, rfl⟩
          ·
            refine SeqK.on (q_fieldL _ rfl Fx.fl47_1 rfl rfl) rfl rfl rfl rfl rfl ?_
            refine SeqK.on (q_fieldL _ rfl Fx.fl32_1 rfl rfl) rfl rfl rfl rfl rfl ?_
            refine SeqK.rOn (b_load (r := .a _) rfl Fx.ty30 rfl rfl rfl rfl rfl rfl) rfl rfl rfl ?_
            refine SeqK.on (q_len rfl Fx.un30 rfl) rfl rfl rfl rfl rfl ?_
            refine SeqK.on (q_eql rfl rfl rfl) rfl rfl rfl rfl rfl ?_
            refine SeqK.q (q_pkF rfl rfl rfl) rfl rfl rfl ?_
            refine SeqK.nil ?_
            refine AW.condD rfl (fun h58 => ?_) (fun h58 => ?_)
            ·
              refine AW.exit ?_
              refine eth_e ?_
              refine exit_here ?_
              refine AW.reg ?_
              refine SeqK.q (q_add _ rfl rfl rfl (w64 (by omega) (by omega))) rfl rfl rfl ?_
              refine SeqK.q (q_mvC rfl rfl) rfl rfl rfl ?_
              refine SeqK.nil ?_
              exact ⟨j + 1, _, Wk.keep 101 [(3, .c (.a (.bp c 0))), (4, .c (itL .ne its)), (7, .lp 7 0), (26, .c (itL .ne its)), (27, iX .i64 ((its.map itT).length : Nat)), (28, iX .i64 ((i : Nat) : Int)), (32, .c (itL .ne its)), (33, iX .i64 ((its.map itT).length : Nat)), (34, iX .i64 (((j + 1) : Nat) : Int))] [(7, .box [.t (.v (.int .i64 its[i].1)), .t (.v (.int .i64 its[i].2.tb)), .t (.sl .un 6 (its[i].2.ss.map sdT))])] (H20) rfl ⟨rfl, rfl, rfl, rfl, rfl, rfl, rfl, rfl, rfl, trivial⟩ ⟨rfl, trivial⟩ (fun _ _ h => h) rfl, by omega, by omega, rfl⟩
            ·
              refine AW.skip ?_
              refine AW.seq ?_
              have htab : its[i].2.tb = its[j].2.tb := by simpa using g45
              have hni : its[i].2.ss.length ≠ 0 := by simpa using g52
              have hnj : its[j].2.ss.length ≠ 0 := by simpa using h58
              obtain ⟨hlen, hboth⟩ := both_hull R hfair hsub hka hja htab hni hnj
              refine AW.reg ?_
              refine SeqK.q (q_asC rfl rfl) rfl rfl rfl ?_
              refine SeqK.nil ?_
              refine AW.seq ?_
              refine AW.seq ?_
              refine AW.draw Fx.mo ?_
              refine LexK.q (q_mvC rfl rfl) rfl rfl rfl ?_
              refine LexK.q (q_fieldL _ rfl Fx.fl47_1 rfl rfl) rfl rfl rfl ?_
              refine LexK.r (b_load (r := .g [_, _]) rfl Fx.ty32 rfl rfl rfl rfl rfl rfl) rfl ?_
              refine LexK.q (q_call _ rfl Fx.fn15 rfl (to_any _ _ (by assumption)) rfl) rfl rfl rfl ?_
              refine LexK.q (q_fieldL _ rfl Fx.fl47_1 rfl rfl) rfl rfl rfl ?_
              refine LexK.r (b_load (r := .g [_, _]) rfl Fx.ty32 rfl rfl rfl rfl rfl rfl) rfl ?_
              refine LexK.q (q_call _ rfl Fx.fn15 rfl (to_any _ _ (by assumption)) rfl) rfl rfl rfl ?_
              refine LexK.q (q_call _ rfl Fx.fn22 rfl (hull_any _ _ (by assumption) hlen hni) rfl) rfl rfl rfl ?_
              refine LexK.r (g_call rfl Fx.fn14 rfl (cand_pure _ _ _ _ _ _ _ I R (by omega) (by rw [hull_len hlen]; assumption)) rfl rfl rfl) rfl ?_
              refine LexK.q (q_len rfl Fx.un36 rfl) rfl rfl rfl ?_
              refine LexK.q (q_mvC rfl rfl) rfl rfl rfl ?_
              refine LexK.nil (by kernel_rfl) ?_
              refine AW.block ?_
              refine AW.loop (fun (m : Nat) s => (m ≤ (wantedL its (hull its[i].2 its[j].2)).length) ∧ s = ⟨101, sp [(3, .c (.a (.bp c 0))), (4, .c (itL .ne its)), (7, .lp 7 0), (9, .lp 9 0), (10, iX .i64 ((bothN its[i].1 its[j].1 ((wantedL its (hull its[i].2 its[j].2)).take m) : Nat) : Int)), (26, .c (itL .ne its)), (27, iX .i64 ((its.map itT).length : Nat)), (28, iX .i64 ((i : Nat) : Int)), (32, .c (itL .ne its)), (33, iX .i64 ((its.map itT).length : Nat)), (34, iX .i64 ((j : Nat) : Int)), (67, .c (int64Z .un (wantedL its (hull its[i].2 its[j].2)))), (68, iX .i64 (((wantedL its (hull its[i].2 its[j].2)).map i64T).length : Nat)), (69, iX .i64 ((m : Nat) : Int))], lv [(7, .box [.t (.v (.int .i64 its[i].1)), .t (.v (.int .i64 its[i].2.tb)), .t (.sl .un 6 (its[i].2.ss.map sdT))]), (9, .box [.t (.v (.int .i64 its[j].1)), .t (.v (.int .i64 its[j].2.tb)), .t (.sl .un 6 (its[j].2.ss.map sdT))])], H20⟩) (fun m => (wantedL its (hull its[i].2 its[j].2)).length - m) 0 ⟨_, Wk.keep 101 [(3, .c (.a (.bp c 0))), (4, .c (itL .ne its)), (7, .lp 7 0), (9, .lp 9 0), (10, iX .i64 ((bothN its[i].1 its[j].1 ((wantedL its (hull its[i].2 its[j].2)).take ((0 : Nat))) : Nat) : Int)), (26, .c (itL .ne its)), (27, iX .i64 ((its.map itT).length : Nat)), (28, iX .i64 ((i : Nat) : Int)), (32, .c (itL .ne its)), (33, iX .i64 ((its.map itT).length : Nat)), (34, iX .i64 ((j : Nat) : Int)), (67, .c (int64Z .un (wantedL its (hull its[i].2 its[j].2)))), (68, iX .i64 (((wantedL its (hull its[i].2 its[j].2)).map i64T).length : Nat)), (69, iX .i64 ((((0 : Nat)) : Nat) : Int))] [(7, .box [.t (.v (.int .i64 its[i].1)), .t (.v (.int .i64 its[i].2.tb)), .t (.sl .un 6 (its[i].2.ss.map sdT))]), (9, .box [.t (.v (.int .i64 its[j].1)), .t (.v (.int .i64 its[j].2.tb)), .t (.sl .un 6 (its[j].2.ss.map sdT))])] (H20) rfl ⟨rfl, rfl, rfl, rfl, rfl, rfl, rfl, rfl, rfl, rfl, rfl, rfl, rfl, rfl, trivial⟩ ⟨rfl, rfl, trivial⟩ (fun _ _ h => h) rfl, Nat.zero_le _, rfl⟩ (fun m s hs => ?_)
              obtain ⟨hm, rfl⟩ := hs
              refine AW.seq ?_
              refine AW.reg ?_
              refine SeqK.q (q_lss rfl rfl rfl) rfl rfl rfl ?_
              refine SeqK.nil ?_
              refine AW.seq ?_
              refine AW.condD rfl (fun h70 => ?_) (fun h70 => ?_)
              ·
                have hma : m < (wantedL its (hull its[i].2 its[j].2)).length := by simp at h70; omega
                have hb3 := wantedL_len (l := its) (b := hull its[i].2 its[j].2)
                refine AW.skip ?_
                refine AW.seq ?_
                refine AW.block ?_
                refine AW.seq ?_
                refine AW.reg ?_
                refine SeqK.q (q_index _ rfl Fx.sl36 rfl rfl (by omega) (idx_map hma)) rfl rfl rfl ?_
                refine SeqK.q (q_load (.a _) rfl Fx.ty2 rfl rfl rfl) rfl rfl rfl ?_
                refine SeqK.q (q_asC rfl rfl) rfl rfl rfl ?_
                refine SeqK.nil ?_
                refine AW.seq ?_
                refine AW.reg ?_
                refine SeqK.q (q_mvC rfl rfl) rfl rfl rfl ?_
                refine SeqK.q (q_fieldL _ rfl Fx.fl47_0 rfl rfl) rfl rfl rfl ?_
                refine SeqK.r (b_load (r := .a _) rfl Fx.ty2 rfl rfl rfl rfl rfl rfl) rfl ?_
                refine SeqK.q (q_eql rfl rfl rfl) rfl rfl rfl ?_
                refine SeqK.qD (q_mvC rfl rfl) rfl rfl rfl (fun g77 => ?_) (fun g77 => ?_)
                ·
                  refine SeqK.off rfl rfl rfl rfl rfl rfl ?_
                  refine SeqK.off rfl rfl rfl rfl rfl rfl ?_
                  refine SeqK.off rfl rfl rfl rfl rfl rfl ?_
                  refine SeqK.off rfl rfl rfl rfl rfl rfl ?_
                  refine SeqK.q (q_pkT rfl rfl rfl) rfl rfl rfl ?_
                  refine SeqK.nil ?_
                  refine AW.condT rfl ?_
                  have hb1 : bothN its[i].1 its[j].1 ((wantedL its (hull its[i].2 its[j].2)).take (m + 1)) = bothN its[i].1 its[j].1 ((wantedL its (hull its[i].2 its[j].2)).take m) + 1 := by rw [bothN_succ hma, if_pos (by first | exact .inl (by simpa using g77) | exact .inr (by simpa using h82))]
                  have hb2 := bothN_len its[i].1 its[j].1 ((wantedL its (hull its[i].2 its[j].2)).take m)
                  rw [List.length_take] at hb2
                  refine AW.reg ?_
                  refine SeqK.q (q_mvC rfl rfl) rfl rfl rfl ?_
                  refine SeqK.q (q_add _ rfl rfl rfl ((by rw [hb1, w64 (by omega) (by omega)]; omega : IntKind.i64.wrap _ = ((bothN its[i].1 its[j].1 ((wantedL its (hull its[i].2 its[j].2)).take (m + 1)) : Nat) : Int)))) rfl rfl rfl ?_
                  refine SeqK.q (q_asC rfl rfl) rfl rfl rfl ?_
                  refine SeqK.nil ?_
                  refine AW.reg ?_
                  refine SeqK.q (q_add _ rfl rfl rfl (w64 (by omega) (by omega))) rfl rfl rfl ?_
                  refine SeqK.q (q_mvC rfl rfl) rfl rfl rfl ?_
                  refine SeqK.nil ?_
                  exact ⟨m + 1, _, Wk.keep 101 [(3, .c (.a (.bp c 0))), (4, .c (itL .ne its)), (7, .lp 7 0), (9, .lp 9 0), (10, iX .i64 ((bothN its[i].1 its[j].1 ((wantedL its (hull its[i].2 its[j].2)).take (m + 1)) : Nat) : Int)), (26, .c (itL .ne its)), (27, iX .i64 ((its.map itT).length : Nat)), (28, iX .i64 ((i : Nat) : Int)), (32, .c (itL .ne its)), (33, iX .i64 ((its.map itT).length : Nat)), (34, iX .i64 ((j : Nat) : Int)), (67, .c (int64Z .un (wantedL its (hull its[i].2 its[j].2)))), (68, iX .i64 (((wantedL its (hull its[i].2 its[j].2)).map i64T).length : Nat)), (69, iX .i64 (((m + 1) : Nat) : Int))] [(7, .box [.t (.v (.int .i64 its[i].1)), .t (.v (.int .i64 its[i].2.tb)), .t (.sl .un 6 (its[i].2.ss.map sdT))]), (9, .box [.t (.v (.int .i64 its[j].1)), .t (.v (.int .i64 its[j].2.tb)), .t (.sl .un 6 (its[j].2.ss.map sdT))])] (H20) rfl ⟨rfl, rfl, rfl, rfl, rfl, rfl, rfl, rfl, rfl, rfl, rfl, rfl, rfl, rfl, trivial⟩ ⟨rfl, rfl, trivial⟩ (fun _ _ h => h) rfl, by omega, by omega, rfl⟩
                ·
                  refine SeqK.on (q_mvC rfl rfl) rfl rfl rfl rfl rfl ?_
                  refine SeqK.on (q_fieldL _ rfl Fx.fl47_0 rfl rfl) rfl rfl rfl rfl rfl ?_
                  refine SeqK.rOn (b_load (r := .a _) rfl Fx.ty2 rfl rfl rfl rfl rfl rfl) rfl rfl rfl ?_
                  refine SeqK.on (q_eql rfl rfl rfl) rfl rfl rfl rfl rfl ?_
                  refine SeqK.q (q_pkF rfl rfl rfl) rfl rfl rfl ?_
                  refine SeqK.nil ?_
                  refine AW.condD rfl (fun h82 => ?_) (fun h82 => ?_)
                  ·
                    have hb1 : bothN its[i].1 its[j].1 ((wantedL its (hull its[i].2 its[j].2)).take (m + 1)) = bothN its[i].1 its[j].1 ((wantedL its (hull its[i].2 its[j].2)).take m) + 1 := by rw [bothN_succ hma, if_pos (by first | exact .inl (by simpa using g77) | exact .inr (by simpa using h82))]
                    have hb2 := bothN_len its[i].1 its[j].1 ((wantedL its (hull its[i].2 its[j].2)).take m)
                    rw [List.length_take] at hb2
                    refine AW.reg ?_
                    refine SeqK.q (q_mvC rfl rfl) rfl rfl rfl ?_
                    refine SeqK.q (q_add _ rfl rfl rfl ((by rw [hb1, w64 (by omega) (by omega)]; omega : IntKind.i64.wrap _ = ((bothN its[i].1 its[j].1 ((wantedL its (hull its[i].2 its[j].2)).take (m + 1)) : Nat) : Int)))) rfl rfl rfl ?_
                    refine SeqK.q (q_asC rfl rfl) rfl rfl rfl ?_
                    refine SeqK.nil ?_
                    refine AW.reg ?_
                    refine SeqK.q (q_add _ rfl rfl rfl (w64 (by omega) (by omega))) rfl rfl rfl ?_
                    refine SeqK.q (q_mvC rfl rfl) rfl rfl rfl ?_
                    refine SeqK.nil ?_
                    exact ⟨m + 1, _, Wk.keep 101 [(3, .c (.a (.bp c 0))), (4, .c (itL .ne its)), (7, .lp 7 0), (9, .lp 9 0), (10, iX .i64 ((bothN its[i].1 its[j].1 ((wantedL its (hull its[i].2 its[j].2)).take (m + 1)) : Nat) : Int)), (26, .c (itL .ne its)), (27, iX .i64 ((its.map itT).length : Nat)), (28, iX .i64 ((i : Nat) : Int)), (32, .c (itL .ne its)), (33, iX .i64 ((its.map itT).length : Nat)), (34, iX .i64 ((j : Nat) : Int)), (67, .c (int64Z .un (wantedL its (hull its[i].2 its[j].2)))), (68, iX .i64 (((wantedL its (hull its[i].2 its[j].2)).map i64T).length : Nat)), (69, iX .i64 (((m + 1) : Nat) : Int))] [(7, .box [.t (.v (.int .i64 its[i].1)), .t (.v (.int .i64 its[i].2.tb)), .t (.sl .un 6 (its[i].2.ss.map sdT))]), (9, .box [.t (.v (.int .i64 its[j].1)), .t (.v (.int .i64 its[j].2.tb)), .t (.sl .un 6 (its[j].2.ss.map sdT))])] (H20) rfl ⟨rfl, rfl, rfl, rfl, rfl, rfl, rfl, rfl, rfl, rfl, rfl, rfl, rfl, rfl, trivial⟩ ⟨rfl, rfl, trivial⟩ (fun _ _ h => h) rfl, by omega, by omega, rfl⟩
                  ·
                    rw [show bothN its[i].1 its[j].1 ((wantedL its (hull its[i].2 its[j].2)).take m) = bothN its[i].1 its[j].1 ((wantedL its (hull its[i].2 its[j].2)).take (m + 1)) from by rw [bothN_succ hma, if_neg (by rintro (h | h); exact g77 (by simpa using h); exact h82 (by simpa using h))]; rfl]
                    refine AW.skip ?_
                    refine AW.reg ?_
                    refine SeqK.q (q_add _ rfl rfl rfl (w64 (by omega) (by omega))) rfl rfl rfl ?_
                    refine SeqK.q (q_mvC rfl rfl) rfl rfl rfl ?_
                    refine SeqK.nil ?_
                    exact ⟨m + 1, _, Wk.keep 101 [(3, .c (.a (.bp c 0))), (4, .c (itL .ne its)), (7, .lp 7 0), (9, .lp 9 0), (10, iX .i64 ((bothN its[i].1 its[j].1 ((wantedL its (hull its[i].2 its[j].2)).take (m + 1)) : Nat) : Int)), (26, .c (itL .ne its)), (27, iX .i64 ((its.map itT).length : Nat)), (28, iX .i64 ((i : Nat) : Int)), (32, .c (itL .ne its)), (33, iX .i64 ((its.map itT).length : Nat)), (34, iX .i64 ((j : Nat) : Int)), (67, .c (int64Z .un (wantedL its (hull its[i].2 its[j].2)))), (68, iX .i64 (((wantedL its (hull its[i].2 its[j].2)).map i64T).length : Nat)), (69, iX .i64 (((m + 1) : Nat) : Int))] [(7, .box [.t (.v (.int .i64 its[i].1)), .t (.v (.int .i64 its[i].2.tb)), .t (.sl .un 6 (its[i].2.ss.map sdT))]), (9, .box [.t (.v (.int .i64 its[j].1)), .t (.v (.int .i64 its[j].2.tb)), .t (.sl .un 6 (its[j].2.ss.map sdT))])] (H20) rfl ⟨rfl, rfl, rfl, rfl, rfl, rfl, rfl, rfl, rfl, rfl, rfl, rfl, rfl, rfl, trivial⟩ ⟨rfl, rfl, trivial⟩ (fun _ _ h => h) rfl, by omega, by omega, rfl⟩
              ·
                refine AW.exit ?_
                refine eth_e ?_
                refine eth_e ?_
                refine exit_here ?_
                refine AW.seq ?_
                have hbb : bothN its[i].1 its[j].1 ((wantedL its (hull its[i].2 its[j].2)).take m) = if its[i].1 = its[j].1 then 1 else 2 := by
                  rw [List.take_of_length_le (by simp at h70; omega)]; exact hboth
                refine AW.reg ?_
                refine SeqK.q (q_mvC rfl rfl) rfl rfl rfl ?_
                refine SeqK.q (q_eql rfl rfl rfl) rfl rfl rfl ?_
                refine SeqK.qD (q_mvC rfl rfl) rfl rfl rfl (fun g88 => ?_) (fun g88 => ?_)
                ·
                  exfalso; rw [hbb] at g88; split at g88 <;> simp at g88
                ·
                  refine SeqK.on (q_fieldL _ rfl Fx.fl47_0 rfl rfl) rfl rfl rfl rfl rfl ?_
                  refine SeqK.rOn (b_load (r := .a _) rfl Fx.ty2 rfl rfl rfl rfl rfl rfl) rfl rfl rfl ?_
                  refine SeqK.on (q_fieldL _ rfl Fx.fl47_0 rfl rfl) rfl rfl rfl rfl rfl ?_
                  refine SeqK.rOn (b_load (r := .a _) rfl Fx.ty2 rfl rfl rfl rfl rfl rfl) rfl rfl rfl ?_
                  refine SeqK.on (q_neq rfl rfl rfl) rfl rfl rfl rfl rfl ?_
                  refine SeqK.onD (q_mvC rfl rfl) rfl rfl rfl rfl rfl (fun g94 => ?_) (fun g94 => ?_)
                  ·
                    refine SeqK.on (q_mvC rfl rfl) rfl rfl rfl rfl rfl ?_
                    refine SeqK.on (q_neq rfl rfl rfl) rfl rfl rfl rfl rfl ?_
                    refine SeqK.on (q_pkT rfl rfl rfl) rfl rfl rfl rfl rfl ?_
                    refine SeqK.q (q_pkF rfl rfl rfl) rfl rfl rfl ?_
                    refine SeqK.nil ?_
                    refine AW.condD rfl (fun h98 => ?_) (fun h98 => ?_)
                    ·
                      exfalso; rw [hbb, if_neg g94] at h98; simp at h98
                    ·
                      refine AW.skip ?_
                      refine AW.reg ?_
                      refine SeqK.q (q_add _ rfl rfl rfl (w64 (by omega) (by omega))) rfl rfl rfl ?_
                      refine SeqK.q (q_mvC rfl rfl) rfl rfl rfl ?_
                      refine SeqK.nil ?_
                      exact ⟨j + 1, _, Wk.keep 101 [(3, .c (.a (.bp c 0))), (4, .c (itL .ne its)), (7, .lp 7 0), (26, .c (itL .ne its)), (27, iX .i64 ((its.map itT).length : Nat)), (28, iX .i64 ((i : Nat) : Int)), (32, .c (itL .ne its)), (33, iX .i64 ((its.map itT).length : Nat)), (34, iX .i64 (((j + 1) : Nat) : Int))] [(7, .box [.t (.v (.int .i64 its[i].1)), .t (.v (.int .i64 its[i].2.tb)), .t (.sl .un 6 (its[i].2.ss.map sdT))])] (H20) rfl ⟨rfl, rfl, rfl, rfl, rfl, rfl, rfl, rfl, rfl, trivial⟩ ⟨rfl, trivial⟩ (fun _ _ h => h) rfl, by omega, by omega, rfl⟩
                  ·
                    refine SeqK.off rfl rfl rfl rfl rfl rfl ?_
                    refine SeqK.off rfl rfl rfl rfl rfl rfl ?_
                    refine SeqK.on (q_pkF rfl rfl rfl) rfl rfl rfl rfl rfl ?_
                    refine SeqK.q (q_pkF rfl rfl rfl) rfl rfl rfl ?_
                    refine SeqK.nil ?_
                    refine AW.condF rfl ?_
                    refine AW.skip ?_
                    refine AW.reg ?_
                    refine SeqK.q (q_add _ rfl rfl rfl (w64 (by omega) (by omega))) rfl rfl rfl ?_
                    refine SeqK.q (q_mvC rfl rfl) rfl rfl rfl ?_
                    refine SeqK.nil ?_
                    exact ⟨j + 1, _, Wk.keep 101 [(3, .c (.a (.bp c 0))), (4, .c (itL .ne its)), (7, .lp 7 0), (26, .c (itL .ne its)), (27, iX .i64 ((its.map itT).length : Nat)), (28, iX .i64 ((i : Nat) : Int)), (32, .c (itL .ne its)), (33, iX .i64 ((its.map itT).length : Nat)), (34, iX .i64 (((j + 1) : Nat) : Int))] [(7, .box [.t (.v (.int .i64 its[i].1)), .t (.v (.int .i64 its[i].2.tb)), .t (.sl .un 6 (its[i].2.ss.map sdT))])] (H20) rfl ⟨rfl, rfl, rfl, rfl, rfl, rfl, rfl, rfl, rfl, trivial⟩ ⟨rfl, trivial⟩ (fun _ _ h => h) rfl, by omega, by omega, rfl⟩
      ·
        refine AW.exit ?_
        refine eth_e ?_
        refine eth_e ?_
        refine exit_here ?_
        refine AW.reg ?_
        refine SeqK.q (q_add _ rfl rfl rfl (w64 (by omega) (by omega))) rfl rfl rfl ?_
        refine SeqK.q (q_mvC rfl rfl) rfl rfl rfl ?_
        refine SeqK.nil ?_
        exact ⟨i + 1, _, Wk.keep 101 [(3, .c (.a (.bp c 0))), (4, .c (itL .ne its)), (26, .c (itL .ne its)), (27, iX .i64 ((its.map itT).length : Nat)), (28, iX .i64 (((i + 1) : Nat) : Int))] [] (H20) rfl ⟨rfl, rfl, rfl, rfl, rfl, trivial⟩ trivial (fun _ _ h => h) rfl, by omega, by omega, rfl⟩
    ·
      refine AW.exit ?_
      refine eth_e ?_
      refine eth_e ?_
      refine exit_here ?_
      refine AW.seq ?_
      refine AW.reg ?_
      refine SeqK.q (q_asC rfl rfl) rfl rfl rfl ?_
      refine SeqK.nil ?_
      refine AW.ret ?_
      exact fin_x (x := .c _) (_) (.tmp rfl .nil) rfl (fun _ _ h => h) (rfl)

end Go.Proofs.Ytojkjiakkcgfcaa.W
