import Derived.Test.YtojkjiakkcgfcaaB1
namespace Go.Proofs.Ytojkjiakkcgfcaa.W
open Go.RowKit E
set_option linter.unusedVariables false

set_option maxRecDepth 20000 in
theorem same_any (a b : List Int) (z1 z2 : Nz) (ha : a.length ≤ 1000000) (hb : b.length ≤ 1000000) : Pure Try.prog 13 [int64Z z1 a, int64Z z2 b] (bX (decide (a = b))) := by
  intro H
  refine Spec.enter Try.func13 rfl ?_
  refine AW.wk (Wk.keep 26 [(0, .c (int64Z z1 a)), (1, .c (int64Z z2 b))] [] (H) rfl ⟨rfl, rfl, trivial⟩ trivial (fun _ _ h => h) rfl) ?_
  refine AW.seq ?_
  refine AW.reg ?_
  refine SeqK.q (q_asC rfl rfl) rfl rfl rfl ?_
  refine SeqK.nil ?_
  refine AW.seq ?_
  refine AW.seq ?_
  refine AW.reg ?_
  refine SeqK.q (q_mvC rfl rfl) rfl rfl rfl ?_
  refine SeqK.q (q_len rfl Fx.un36 rfl) rfl rfl rfl ?_
  refine SeqK.q (q_mvC rfl rfl) rfl rfl rfl ?_
  refine SeqK.q (q_len rfl Fx.un36 rfl) rfl rfl rfl ?_
  refine SeqK.q (q_neq rfl rfl rfl) rfl rfl rfl ?_
  refine SeqK.nil ?_
  refine AW.condD rfl (fun h10 => ?_) (fun h10 => ?_)
  ·
    refine AW.seq ?_
    refine AW.reg ?_
    refine SeqK.q (q_asC rfl rfl) rfl rfl rfl ?_
    refine SeqK.nil ?_
    refine AW.ret ?_
    exact fin_x (x := .c _) H (.tmp rfl .nil) rfl (fun _ _ h => h) ⟨by rw [decide_eq_false]; rintro rfl; exact h10 rfl, rfl⟩
  ·
    have hl : a.length = b.length := by simp at h10; omega
    refine AW.skip ?_
    refine AW.seq ?_
    refine AW.seq ?_
    refine AW.reg ?_
    refine SeqK.q (q_asC rfl rfl) rfl rfl rfl ?_
    refine SeqK.nil ?_
    refine AW.block ?_
    refine AW.loop (fun (k : Nat) s => (k ≤ a.length ∧ a.take k = b.take k) ∧ s = ⟨26, sp [(0, .c (int64Z z1 a)), (1, .c (int64Z z2 b)), (4, bX false), (5, iX .i64 ((k : Nat) : Int))], lv [], H⟩) (fun k => a.length - k) 0 ⟨_, Wk.keep 26 [(0, .c (int64Z z1 a)), (1, .c (int64Z z2 b)), (4, bX false), (5, iX .i64 ((((0 : Nat)) : Nat) : Int))] [] (H) rfl ⟨rfl, rfl, rfl, rfl, trivial⟩ trivial (fun _ _ h => h) rfl, ⟨Nat.zero_le _, rfl⟩, rfl⟩ (fun k s hs => ?_)
    obtain ⟨⟨hk, hpre⟩, rfl⟩ := hs
    refine AW.seq ?_
    refine AW.seq ?_
    refine AW.reg ?_
    refine SeqK.q (q_mvC rfl rfl) rfl rfl rfl ?_
    refine SeqK.q (q_mvC rfl rfl) rfl rfl rfl ?_
    refine SeqK.q (q_len rfl Fx.un36 rfl) rfl rfl rfl ?_
    refine SeqK.q (q_lss rfl rfl rfl) rfl rfl rfl ?_
    refine SeqK.nil ?_
    refine AW.condD rfl (fun h14 => ?_) (fun h14 => ?_)
    ·
      have hka : k < a.length := by simp at h14; omega
      refine AW.skip ?_
      refine AW.seq ?_
      refine AW.block ?_
      refine AW.seq ?_
      refine AW.draw Fx.mo ?_
      refine LexK.q (q_mvC rfl rfl) rfl rfl rfl ?_
      refine LexK.q (q_mvC rfl rfl) rfl rfl rfl ?_
      refine LexK.q (q_index _ rfl Fx.sl36 rfl rfl (by omega) (idx_map hka)) rfl rfl rfl ?_
      refine LexK.q (q_load (.a _) rfl Fx.ty2 rfl rfl rfl) rfl rfl rfl ?_
      refine LexK.q (q_mvC rfl rfl) rfl rfl rfl ?_
      refine LexK.q (q_mvC rfl rfl) rfl rfl rfl ?_
      refine LexK.q (q_index _ rfl Fx.sl36 rfl rfl (by omega) (idx_map (hl ▸ hka))) rfl rfl rfl ?_
      refine LexK.q (q_load (.a _) rfl Fx.ty2 rfl rfl rfl) rfl rfl rfl ?_
      refine LexK.q (q_neq rfl rfl rfl) rfl rfl rfl ?_
      refine LexK.nil (by kernel_rfl) ?_
      refine AW.condD rfl (fun h25 => ?_) (fun h25 => ?_)
      ·
        refine AW.seq ?_
        refine AW.reg ?_
        refine SeqK.q (q_asC rfl rfl) rfl rfl rfl ?_
        refine SeqK.nil ?_
        refine AW.ret ?_
        exact fin_x (x := .c _) H (.tmp rfl .nil) rfl (fun _ _ h => h) ⟨by rw [decide_eq_false]; intro e; apply h25; simp [e], rfl⟩
      ·
        refine AW.skip ?_
        refine AW.reg ?_
        refine SeqK.q (q_mvC rfl rfl) rfl rfl rfl ?_
        refine SeqK.q (q_add _ rfl rfl rfl (w64 (by omega) (by omega))) rfl rfl rfl ?_
        refine SeqK.q (q_asC rfl rfl) rfl rfl rfl ?_
        refine SeqK.nil ?_
        exact ⟨k + 1, _, Wk.keep 26 [(0, .c (int64Z z1 a)), (1, .c (int64Z z2 b)), (4, bX false), (5, iX .i64 (((k + 1) : Nat) : Int))] [] (H) rfl ⟨rfl, rfl, rfl, rfl, trivial⟩ trivial (fun _ _ h => h) rfl, by omega, ⟨by omega, by rw [List.take_succ_eq_append_getElem hka, List.take_succ_eq_append_getElem (hl ▸ hka), hpre]; simp at h25; rw [h25]⟩, rfl⟩
    ·
      refine AW.exit ?_
      refine eth_e ?_
      refine eth_e ?_
      refine exit_here ?_
      refine AW.seq ?_
      refine AW.reg ?_
      refine SeqK.q (q_asC rfl rfl) rfl rfl rfl ?_
      refine SeqK.nil ?_
      refine AW.ret ?_
      exact fin_x (x := .c _) H (.tmp rfl .nil) rfl (fun _ _ h => h) ⟨by
        rw [decide_eq_true]
        have : k = a.length := by simp at h14; omega
        subst this
        rw [List.take_length, hl, List.take_length] at hpre; exact hpre, rfl⟩

set_option maxRecDepth 20000 in
theorem meet_any (a b : Bx) (z1 z2 : Nz) (ha : a.ss.length ≤ 1000000) (hb : b.ss.length ≤ 1000000) : Pure Try.prog 25 [bxC z1 a, bxC z2 b] (bX (meet a b)) := by
  intro H
  refine Spec.enter Try.func25 rfl ?_
  refine AW.wk (Wk.keep 86 [(0, .c (bxC z1 a)), (1, .c (bxC z2 b))] [] (H) rfl ⟨rfl, rfl, trivial⟩ trivial (fun _ _ h => h) rfl) ?_
  refine AW.seq ?_
  refine AW.reg ?_
  refine SeqK.r (b_box (r := [_, _]) rfl rfl rfl rfl rfl rfl) rfl ?_
  refine SeqK.r (b_box (r := [_, _]) rfl rfl rfl rfl rfl rfl) rfl ?_
  refine SeqK.q (q_asC rfl rfl) rfl rfl rfl ?_
  refine SeqK.nil ?_
  refine AW.seq ?_
  refine AW.seq ?_
  refine AW.reg ?_
  refine SeqK.q (q_fieldL _ rfl Fx.fl40_0 rfl rfl) rfl rfl rfl ?_
  refine SeqK.r (b_load (r := .a _) rfl Fx.ty3 rfl rfl rfl rfl rfl rfl) rfl ?_
  refine SeqK.q (q_fieldL _ rfl Fx.fl40_0 rfl rfl) rfl rfl rfl ?_
  refine SeqK.r (b_load (r := .a _) rfl Fx.ty3 rfl rfl rfl rfl rfl rfl) rfl ?_
  refine SeqK.q (q_neq rfl rfl rfl) rfl rfl rfl ?_
  refine SeqK.qD (q_mvC rfl rfl) rfl rfl rfl (fun g14 => ?_) (fun g14 => ?_)
  ·
    refine SeqK.off rfl rfl rfl rfl rfl rfl ?_
    refine SeqK.off rfl rfl rfl rfl rfl rfl ?_
    refine SeqK.off rfl rfl rfl rfl rfl rfl ?_
    refine SeqK.off rfl rfl rfl rfl rfl rfl ?_
    refine SeqK.off rfl rfl rfl rfl rfl rfl ?_
    refine SeqK.off rfl rfl rfl rfl rfl rfl ?_
    refine SeqK.off rfl rfl rfl rfl rfl rfl ?_
    refine SeqK.q (q_pkT rfl rfl rfl) rfl rfl rfl ?_
    refine SeqK.q (q_mvC rfl rfl) rfl rfl rfl ?_
    refine SeqK.off rfl rfl rfl rfl rfl rfl ?_
    refine SeqK.off rfl rfl rfl rfl rfl rfl ?_
    refine SeqK.off rfl rfl rfl rfl rfl rfl ?_
    refine SeqK.off rfl rfl rfl rfl rfl rfl ?_
    refine SeqK.q (q_pkT rfl rfl rfl) rfl rfl rfl ?_
    refine SeqK.nil ?_
    refine AW.condT rfl ?_
    refine AW.seq ?_
    refine AW.reg ?_
    refine SeqK.q (q_asC rfl rfl) rfl rfl rfl ?_
    refine SeqK.nil ?_
    refine AW.ret ?_
    exact fin_x (x := .c _) H (.tmp rfl .nil) rfl (fun _ _ h => h) ⟨by
      have : meet a b = false := by
        try simp only [List.length_map] at *
        grind [meet]
      rw [this], rfl⟩
  ·
    refine SeqK.on (q_fieldL _ rfl Fx.fl40_1 rfl rfl) rfl rfl rfl rfl rfl ?_
    refine SeqK.rOn (b_load (r := .a _) rfl Fx.ty38 rfl rfl rfl rfl rfl rfl) rfl rfl rfl ?_
    refine SeqK.on (q_len rfl Fx.un38 rfl) rfl rfl rfl rfl rfl ?_
    refine SeqK.on (q_fieldL _ rfl Fx.fl40_1 rfl rfl) rfl rfl rfl rfl rfl ?_
    refine SeqK.rOn (b_load (r := .a _) rfl Fx.ty38 rfl rfl rfl rfl rfl rfl) rfl rfl rfl ?_
    refine SeqK.on (q_len rfl Fx.un38 rfl) rfl rfl rfl rfl rfl ?_
    refine SeqK.on (q_neq rfl rfl rfl) rfl rfl rfl rfl rfl ?_
    refine SeqK.q (q_pkF rfl rfl rfl) rfl rfl rfl ?_
    refine SeqK.qD (q_mvC rfl rfl) rfl rfl rfl (fun g23 => ?_) (fun g23 => ?_)
    ·
      refine SeqK.off rfl rfl rfl rfl rfl rfl ?_
      refine SeqK.off rfl rfl rfl rfl rfl rfl ?_
      refine SeqK.off rfl rfl rfl rfl rfl rfl ?_
      refine SeqK.off rfl rfl rfl rfl rfl rfl ?_
      refine SeqK.q (q_pkT rfl rfl rfl) rfl rfl rfl ?_
      refine SeqK.nil ?_
      refine AW.condT rfl ?_
      refine AW.seq ?_
      refine AW.reg ?_
      refine SeqK.q (q_asC rfl rfl) rfl rfl rfl ?_
      refine SeqK.nil ?_
      refine AW.ret ?_
      exact fin_x (x := .c _) H (.tmp rfl .nil) rfl (fun _ _ h => h) ⟨by
        have : meet a b = false := by
          try simp only [List.length_map] at *
          grind [meet]
        rw [this], rfl⟩
    ·
      refine SeqK.on (q_fieldL _ rfl Fx.fl40_1 rfl rfl) rfl rfl rfl rfl rfl ?_
      refine SeqK.rOn (b_load (r := .a _) rfl Fx.ty38 rfl rfl rfl rfl rfl rfl) rfl rfl rfl ?_
      refine SeqK.on (q_len rfl Fx.un38 rfl) rfl rfl rfl rfl rfl ?_
      refine SeqK.on (q_eql rfl rfl rfl) rfl rfl rfl rfl rfl ?_
      refine SeqK.q (q_pkF rfl rfl rfl) rfl rfl rfl ?_
      refine SeqK.nil ?_
      refine AW.condD rfl (fun h28 => ?_) (fun h28 => ?_)
      ·
        refine AW.seq ?_
        refine AW.reg ?_
        refine SeqK.q (q_asC rfl rfl) rfl rfl rfl ?_
        refine SeqK.nil ?_
        refine AW.ret ?_
        exact fin_x (x := .c _) H (.tmp rfl .nil) rfl (fun _ _ h => h) ⟨by
          have : meet a b = false := by
            try simp only [List.length_map] at *
            grind [meet]
          rw [this], rfl⟩
      ·
        have hl : a.ss.length = b.ss.length := by simp at g23; omega
        have ht : a.tb = b.tb := by simpa using g14
        have hne : a.ss ≠ [] := fun e => h28 (by simp [e])
        refine AW.skip ?_
        refine AW.seq ?_
        refine AW.seq ?_
        refine AW.reg ?_
        refine SeqK.q (q_fieldL _ rfl Fx.fl40_1 rfl rfl) rfl rfl rfl ?_
        refine SeqK.r (b_load (r := .a _) rfl Fx.ty38 rfl rfl rfl rfl rfl rfl) rfl ?_
        refine SeqK.q (q_len rfl Fx.un38 rfl) rfl rfl rfl ?_
        refine SeqK.q (q_mvC rfl rfl) rfl rfl rfl ?_
        refine SeqK.nil ?_
        refine AW.block ?_
        refine AW.loop (fun (k : Nat) s => (k ≤ a.ss.length ∧ ∀ j (hx : j < a.ss.length) (hy : j < b.ss.length), j < k → meet1 a.ss[j] b.ss[j] = true) ∧ s = ⟨86, sp [(2, .lp 2 0), (3, .lp 3 0), (4, bX false), (30, .c (.a (.t (.sl z1 6 (a.ss.map sdT))))), (31, iX .i64 ((a.ss.map sdT).length : Nat)), (32, iX .i64 ((k : Nat) : Int))], lv [(2, .box [.t (.v (.int .i64 a.tb)), .t (.sl z1 6 (a.ss.map sdT))]), (3, .box [.t (.v (.int .i64 b.tb)), .t (.sl z2 6 (b.ss.map sdT))])], H⟩) (fun k => a.ss.length - k) 0 ⟨_, Wk.keep 86 [(2, .lp 2 0), (3, .lp 3 0), (4, bX false), (30, .c (.a (.t (.sl z1 6 (a.ss.map sdT))))), (31, iX .i64 ((a.ss.map sdT).length : Nat)), (32, iX .i64 ((((0 : Nat)) : Nat) : Int))] [(2, .box [.t (.v (.int .i64 a.tb)), .t (.sl z1 6 (a.ss.map sdT))]), (3, .box [.t (.v (.int .i64 b.tb)), .t (.sl z2 6 (b.ss.map sdT))])] (H) rfl ⟨rfl, rfl, rfl, rfl, rfl, rfl, trivial⟩ ⟨rfl, rfl, trivial⟩ (fun _ _ h => h) rfl, ⟨Nat.zero_le _, fun j _ _ h => absurd h (Nat.not_lt_zero _)⟩, rfl⟩ (fun k s hs => ?_)
        obtain ⟨⟨hk, hpre⟩, rfl⟩ := hs
        refine AW.seq ?_
        refine AW.reg ?_
        refine SeqK.q (q_lss rfl rfl rfl) rfl rfl rfl ?_
        refine SeqK.nil ?_
        refine AW.seq ?_
        refine AW.condD rfl (fun h33 => ?_) (fun h33 => ?_)
        ·
          have hka : k < a.ss.length := by simp at h33; omega
          have hkb : k < b.ss.length := hl ▸ hka
          refine AW.skip ?_
          refine AW.seq ?_
          refine AW.block ?_
          refine AW.seq ?_
          refine AW.reg ?_
          refine SeqK.q (q_mvC rfl rfl) rfl rfl rfl ?_
          refine SeqK.q (q_index _ rfl Fx.sl38 rfl rfl (by omega) (idx_map hka)) rfl rfl rfl ?_
          refine SeqK.q (q_load (.g [_, _, _, _, _, _]) rfl Fx.ty55 rfl rfl rfl) rfl rfl rfl ?_
          refine SeqK.r (b_alloc (r := [_, _, _, _, _, _]) rfl rfl Fx.ze55 rfl rfl rfl rfl) rfl ?_
          refine SeqK.q (q_asC rfl rfl) rfl rfl rfl ?_
          refine SeqK.r (b_store (r := [_, _, _, _, _, _]) rfl rfl Fx.ty55 rfl rfl rfl rfl rfl rfl) rfl ?_
          refine SeqK.nil ?_
          refine AW.seq ?_
          refine AW.reg ?_
          refine SeqK.q (q_fieldL _ rfl Fx.fl40_1 rfl rfl) rfl rfl rfl ?_
          refine SeqK.r (b_load (r := .a _) rfl Fx.ty38 rfl rfl rfl rfl rfl rfl) rfl ?_
          refine SeqK.q (q_mvC rfl rfl) rfl rfl rfl ?_
          refine SeqK.q (q_index _ rfl Fx.sl38 rfl rfl (by omega) (idx_map hkb)) rfl rfl rfl ?_
          refine SeqK.q (q_load (.g [_, _, _, _, _, _]) rfl Fx.ty55 rfl rfl rfl) rfl rfl rfl ?_
          refine SeqK.r (b_alloc (r := [_, _, _, _, _, _]) rfl rfl Fx.ze55 rfl rfl rfl rfl) rfl ?_
          refine SeqK.r (b_store (r := [_, _, _, _, _, _]) rfl rfl Fx.ty55 rfl rfl rfl rfl rfl rfl) rfl ?_
          refine SeqK.nil ?_
          refine AW.seq ?_
          refine AW.reg ?_
          refine SeqK.q (q_fieldL _ rfl Fx.fl55_1 rfl rfl) rfl rfl rfl ?_
          refine SeqK.r (b_load (r := .a _) rfl Fx.ty4 rfl rfl rfl rfl rfl rfl) rfl ?_
          refine SeqK.qB (q_mvC rfl rfl) rfl rfl rfl (fun g44 => ?_) (fun g44 => ?_)
          ·
            refine SeqK.on (q_fieldL _ rfl Fx.fl55_1 rfl rfl) rfl rfl rfl rfl rfl ?_
            refine SeqK.rOn (b_load (r := .a _) rfl Fx.ty4 rfl rfl rfl rfl rfl rfl) rfl rfl rfl ?_
            refine SeqK.q (q_pkT rfl rfl rfl) rfl rfl rfl ?_
            refine SeqK.qB (q_mvC rfl rfl) rfl rfl rfl (fun g48 => ?_) (fun g48 => ?_)
            ·
              refine SeqK.on (q_fieldL _ rfl Fx.fl55_2 rfl rfl) rfl rfl rfl rfl rfl ?_
              refine SeqK.rOn (b_load (r := .a _) rfl Fx.ty2 rfl rfl rfl rfl rfl rfl) rfl rfl rfl ?_
              refine SeqK.on (q_fieldL _ rfl Fx.fl55_2 rfl rfl) rfl rfl rfl rfl rfl ?_
              refine SeqK.rOn (b_load (r := .a _) rfl Fx.ty2 rfl rfl rfl rfl rfl rfl) rfl rfl rfl ?_
              refine SeqK.on (q_max rfl rfl rfl) rfl rfl rfl rfl rfl ?_
              refine SeqK.on (q_fieldL _ rfl Fx.fl55_3 rfl rfl) rfl rfl rfl rfl rfl ?_
              refine SeqK.rOn (b_load (r := .a _) rfl Fx.ty2 rfl rfl rfl rfl rfl rfl) rfl rfl rfl ?_
              refine SeqK.on (q_fieldL _ rfl Fx.fl55_3 rfl rfl) rfl rfl rfl rfl rfl ?_
              refine SeqK.rOn (b_load (r := .a _) rfl Fx.ty2 rfl rfl rfl rfl rfl rfl) rfl rfl rfl ?_
              refine SeqK.on (q_min rfl rfl rfl) rfl rfl rfl rfl rfl ?_
              refine SeqK.on (q_leq rfl rfl rfl) rfl rfl rfl rfl rfl ?_
              refine SeqK.q (q_pkT rfl rfl rfl) rfl rfl rfl ?_
              refine SeqK.qD (q_mvC rfl rfl) rfl rfl rfl (fun g61 => ?_) (fun g61 => ?_)
              ·
                refine SeqK.on (q_fieldL _ rfl Fx.fl55_4 rfl rfl) rfl rfl rfl rfl rfl ?_
                refine SeqK.rOn (b_load (r := .a _) rfl Fx.ty9 rfl rfl rfl rfl rfl rfl) rfl rfl rfl ?_
                refine SeqK.on (q_fieldL _ rfl Fx.fl55_4 rfl rfl) rfl rfl rfl rfl rfl ?_
                refine SeqK.rOn (b_load (r := .a _) rfl Fx.ty9 rfl rfl rfl rfl rfl rfl) rfl rfl rfl ?_
                refine SeqK.on (q_maxS rfl rfl rfl) rfl rfl rfl rfl rfl ?_
                refine SeqK.on (q_fieldL _ rfl Fx.fl55_5 rfl rfl) rfl rfl rfl rfl rfl ?_
                refine SeqK.rOn (b_load (r := .a _) rfl Fx.ty9 rfl rfl rfl rfl rfl rfl) rfl rfl rfl ?_
                refine SeqK.on (q_fieldL _ rfl Fx.fl55_5 rfl rfl) rfl rfl rfl rfl rfl ?_
                refine SeqK.rOn (b_load (r := .a _) rfl Fx.ty9 rfl rfl rfl rfl rfl rfl) rfl rfl rfl ?_
                refine SeqK.on (q_minS rfl rfl rfl) rfl rfl rfl rfl rfl ?_
                refine SeqK.on (q_leqS rfl rfl rfl) rfl rfl rfl rfl rfl ?_
                refine SeqK.q (q_pkT rfl rfl rfl) rfl rfl rfl ?_
                refine SeqK.q (q_asC rfl rfl) rfl rfl rfl ?_
                refine SeqK.nil ?_
                refine AW.seq ?_
                refine AW.reg ?_
                refine SeqK.q (q_mvC rfl rfl) rfl rfl rfl ?_
                refine SeqK.q (q_not rfl rfl) rfl rfl rfl ?_
                refine SeqK.qB (q_mvC rfl rfl) rfl rfl rfl (fun g76 => ?_) (fun g76 => ?_)
                ·
                  refine SeqK.on (q_fieldL _ rfl Fx.fl55_0 rfl rfl) rfl rfl rfl rfl rfl ?_
                  refine SeqK.rOn (b_load (r := .a _) rfl Fx.ty4 rfl rfl rfl rfl rfl rfl) rfl rfl rfl ?_
                  refine SeqK.onB (q_mvC rfl rfl) rfl rfl rfl rfl rfl (fun g79 => ?_) (fun g79 => ?_)
                  ·
                    refine SeqK.on (q_fieldL _ rfl Fx.fl55_0 rfl rfl) rfl rfl rfl rfl rfl ?_
                    refine SeqK.rOn (b_load (r := .a _) rfl Fx.ty4 rfl rfl rfl rfl rfl rfl) rfl rfl rfl ?_
                    refine SeqK.on (q_pkT rfl rfl rfl) rfl rfl rfl rfl rfl ?_
                    refine SeqK.on (q_not rfl rfl) rfl rfl rfl rfl rfl ?_
                    refine SeqK.q (q_pkT rfl rfl rfl) rfl rfl rfl ?_
                    refine SeqK.nil ?_
                    refine AW.cond _ rfl (fun h84 => ?_) (fun h84 => ?_)
                    ·
                      refine AW.seq ?_
                      refine AW.reg ?_
                      refine SeqK.q (q_asC rfl rfl) rfl rfl rfl ?_
                      refine SeqK.nil ?_
                      refine AW.ret ?_
                      exact fin_x (x := .c _) H (.tmp rfl .nil) rfl (fun _ _ h => h) ⟨by
                        have : meet1 a.ss[k] b.ss[k] = false := by clear hpre; grind [meet1]
                        simp [meet, meetL_false k hka hkb this], rfl⟩
                    ·
                      refine AW.skip ?_
                      refine AW.reg ?_
                      refine SeqK.q (q_add _ rfl rfl rfl (w64 (by omega) (by omega))) rfl rfl rfl ?_
                      refine SeqK.q (q_mvC rfl rfl) rfl rfl rfl ?_
                      refine SeqK.nil ?_
                      exact ⟨k + 1, _, Wk.keep 86 [(2, .lp 2 0), (3, .lp 3 0), (4, bX false), (30, .c (.a (.t (.sl z1 6 (a.ss.map sdT))))), (31, iX .i64 ((a.ss.map sdT).length : Nat)), (32, iX .i64 (((k + 1) : Nat) : Int))] [(2, .box [.t (.v (.int .i64 a.tb)), .t (.sl z1 6 (a.ss.map sdT))]), (3, .box [.t (.v (.int .i64 b.tb)), .t (.sl z2 6 (b.ss.map sdT))])] (H) rfl ⟨rfl, rfl, rfl, rfl, rfl, rfl, trivial⟩ ⟨rfl, rfl, trivial⟩ (fun _ _ h => h) rfl, by omega, ⟨by omega, fun j hx hy hj => by
                        rcases Nat.lt_or_ge j k with h | h
                        · exact hpre j hx hy h
                        · obtain rfl : j = k := by omega
                          clear hpre; grind [meet1]⟩, rfl⟩
                  ·
                    refine SeqK.off rfl rfl rfl rfl rfl rfl ?_
                    refine SeqK.off rfl rfl rfl rfl rfl rfl ?_
                    refine SeqK.on (q_pkF rfl rfl rfl) rfl rfl rfl rfl rfl ?_
                    refine SeqK.on (q_not rfl rfl) rfl rfl rfl rfl rfl ?_
                    refine SeqK.q (q_pkT rfl rfl rfl) rfl rfl rfl ?_
                    refine SeqK.nil ?_
                    refine AW.condT rfl ?_
                    refine AW.seq ?_
                    refine AW.reg ?_
                    refine SeqK.q (q_asC rfl rfl) rfl rfl rfl ?_
                    refine SeqK.nil ?_
                    refine AW.ret ?_
                    exact fin_x (x := .c _) H (.tmp rfl .nil) rfl (fun _ _ h => h) ⟨by
                      have : meet1 a.ss[k] b.ss[k] = false := by clear hpre; grind [meet1]
                      simp [meet, meetL_false k hka hkb this], rfl⟩
                ·
                  refine SeqK.off rfl rfl rfl rfl rfl rfl ?_
                  refine SeqK.off rfl rfl rfl rfl rfl rfl ?_
                  refine SeqK.off rfl rfl rfl rfl rfl rfl ?_
                  refine SeqK.offU rfl rfl rfl rfl rfl ?_
                  refine SeqK.offU rfl rfl rfl rfl rfl ?_
                  refine SeqK.off rfl rfl rfl rfl rfl rfl ?_
                  refine SeqK.off rfl rfl rfl rfl rfl rfl ?_
                  refine SeqK.q (q_pkF rfl rfl rfl) rfl rfl rfl ?_
                  refine SeqK.nil ?_
                  refine AW.condF rfl ?_
                  refine AW.skip ?_
                  refine AW.reg ?_
                  refine SeqK.q (q_add _ rfl rfl rfl (w64 (by omega) (by omega))) rfl rfl rfl ?_
                  refine SeqK.q (q_mvC rfl rfl) rfl rfl rfl ?_
                  refine SeqK.nil ?_
                  exact ⟨k + 1, _, Wk.keep 86 [(2, .lp 2 0), (3, .lp 3 0), (4, bX false), (30, .c (.a (.t (.sl z1 6 (a.ss.map sdT))))), (31, iX .i64 ((a.ss.map sdT).length : Nat)), (32, iX .i64 (((k + 1) : Nat) : Int))] [(2, .box [.t (.v (.int .i64 a.tb)), .t (.sl z1 6 (a.ss.map sdT))]), (3, .box [.t (.v (.int .i64 b.tb)), .t (.sl z2 6 (b.ss.map sdT))])] (H) rfl ⟨rfl, rfl, rfl, rfl, rfl, rfl, trivial⟩ ⟨rfl, rfl, trivial⟩ (fun _ _ h => h) rfl, by omega, ⟨by omega, fun j hx hy hj => by
                    rcases Nat.lt_or_ge j k with h | h
                    · exact hpre j hx hy h
                    · obtain rfl : j = k := by omega
                      clear hpre; grind [meet1]⟩, rfl⟩
              ·
                refine SeqK.off rfl rfl rfl rfl rfl rfl ?_
                refine SeqK.off rfl rfl rfl rfl rfl rfl ?_
                refine SeqK.off rfl rfl rfl rfl rfl rfl ?_
                refine SeqK.off rfl rfl rfl rfl rfl rfl ?_
                refine SeqK.off rfl rfl rfl rfl rfl rfl ?_
                refine SeqK.off rfl rfl rfl rfl rfl rfl ?_
                refine SeqK.off rfl rfl rfl rfl rfl rfl ?_
                refine SeqK.off rfl rfl rfl rfl rfl rfl ?_
                refine SeqK.off rfl rfl rfl rfl rfl rfl ?_
                refine SeqK.off rfl rfl rfl rfl rfl rfl ?_
                refine SeqK.off rfl rfl rfl rfl rfl rfl ?_
                refine SeqK.q (q_pkF rfl rfl rfl) rfl rfl rfl ?_
                refine SeqK.q (q_asC rfl rfl) rfl rfl rfl ?_
                refine SeqK.nil ?_
                refine AW.seq ?_
                refine AW.reg ?_
                refine SeqK.q (q_mvC rfl rfl) rfl rfl rfl ?_
                refine SeqK.q (q_not rfl rfl) rfl rfl rfl ?_
                refine SeqK.q (q_mvC rfl rfl) rfl rfl rfl ?_
                refine SeqK.on (q_fieldL _ rfl Fx.fl55_0 rfl rfl) rfl rfl rfl rfl rfl ?_
                refine SeqK.rOn (b_load (r := .a _) rfl Fx.ty4 rfl rfl rfl rfl rfl rfl) rfl rfl rfl ?_
                refine SeqK.onB (q_mvC rfl rfl) rfl rfl rfl rfl rfl (fun g79 => ?_) (fun g79 => ?_)
                ·
                  refine SeqK.on (q_fieldL _ rfl Fx.fl55_0 rfl rfl) rfl rfl rfl rfl rfl ?_
                  refine SeqK.rOn (b_load (r := .a _) rfl Fx.ty4 rfl rfl rfl rfl rfl rfl) rfl rfl rfl ?_
                  refine SeqK.on (q_pkT rfl rfl rfl) rfl rfl rfl rfl rfl ?_
                  refine SeqK.on (q_not rfl rfl) rfl rfl rfl rfl rfl ?_
                  refine SeqK.q (q_pkT rfl rfl rfl) rfl rfl rfl ?_
                  refine SeqK.nil ?_
                  refine AW.cond _ rfl (fun h84 => ?_) (fun h84 => ?_)
                  ·
                    refine AW.seq ?_
                    refine AW.reg ?_
                    refine SeqK.q (q_asC rfl rfl) rfl rfl rfl ?_
                    refine SeqK.nil ?_
                    refine AW.ret ?_
                    exact fin_x (x := .c _) H (.tmp rfl .nil) rfl (fun _ _ h => h) ⟨by
                      have : meet1 a.ss[k] b.ss[k] = false := by clear hpre; grind [meet1]
                      simp [meet, meetL_false k hka hkb this], rfl⟩
                  ·
                    refine AW.skip ?_
                    refine AW.reg ?_
                    refine SeqK.q (q_add _ rfl rfl rfl (w64 (by omega) (by omega))) rfl rfl rfl ?_
                    refine SeqK.q (q_mvC rfl rfl) rfl rfl rfl ?_
                    refine SeqK.nil ?_
                    exact ⟨k + 1, _, Wk.keep 86 [(2, .lp 2 0), (3, .lp 3 0), (4, bX false), (30, .c (.a (.t (.sl z1 6 (a.ss.map sdT))))), (31, iX .i64 ((a.ss.map sdT).length : Nat)), (32, iX .i64 (((k + 1) : Nat) : Int))] [(2, .box [.t (.v (.int .i64 a.tb)), .t (.sl z1 6 (a.ss.map sdT))]), (3, .box [.t (.v (.int .i64 b.tb)), .t (.sl z2 6 (b.ss.map sdT))])] (H) rfl ⟨rfl, rfl, rfl, rfl, rfl, rfl, trivial⟩ ⟨rfl, rfl, trivial⟩ (fun _ _ h => h) rfl, by omega, ⟨by omega, fun j hx hy hj => by
                      rcases Nat.lt_or_ge j k with h | h
                      · exact hpre j hx hy h
                      · obtain rfl : j = k := by omega
                        clear hpre; grind [meet1]⟩, rfl⟩
                ·
                  refine SeqK.off rfl rfl rfl rfl rfl rfl ?_
                  refine SeqK.off rfl rfl rfl rfl rfl rfl ?_
                  refine SeqK.on (q_pkF rfl rfl rfl) rfl rfl rfl rfl rfl ?_
                  refine SeqK.on (q_not rfl rfl) rfl rfl rfl rfl rfl ?_
                  refine SeqK.q (q_pkT rfl rfl rfl) rfl rfl rfl ?_
                  refine SeqK.nil ?_
                  refine AW.condT rfl ?_
                  refine AW.seq ?_
                  refine AW.reg ?_
                  refine SeqK.q (q_asC rfl rfl) rfl rfl rfl ?_
                  refine SeqK.nil ?_
                  refine AW.ret ?_
                  exact fin_x (x := .c _) H (.tmp rfl .nil) rfl (fun _ _ h => h) ⟨by
                    have : meet1 a.ss[k] b.ss[k] = false := by clear hpre; grind [meet1]
                    simp [meet, meetL_false k hka hkb this], rfl⟩
            ·
              refine SeqK.off rfl rfl rfl rfl rfl rfl ?_
              refine SeqK.off rfl rfl rfl rfl rfl rfl ?_
              refine SeqK.off rfl rfl rfl rfl rfl rfl ?_
              refine SeqK.off rfl rfl rfl rfl rfl rfl ?_
              refine SeqK.off rfl rfl rfl rfl rfl rfl ?_
              refine SeqK.off rfl rfl rfl rfl rfl rfl ?_
              refine SeqK.off rfl rfl rfl rfl rfl rfl ?_
              refine SeqK.off rfl rfl rfl rfl rfl rfl ?_
              refine SeqK.off rfl rfl rfl rfl rfl rfl ?_
              refine SeqK.off rfl rfl rfl rfl rfl rfl ?_
              refine SeqK.off rfl rfl rfl rfl rfl rfl ?_
              refine SeqK.q (q_pkF rfl rfl rfl) rfl rfl rfl ?_
              refine SeqK.q (q_mvC rfl rfl) rfl rfl rfl ?_
              refine SeqK.off rfl rfl rfl rfl rfl rfl ?_
              refine SeqK.off rfl rfl rfl rfl rfl rfl ?_
              refine SeqK.off rfl rfl rfl rfl rfl rfl ?_
              refine SeqK.off rfl rfl rfl rfl rfl rfl ?_
              refine SeqK.off rfl rfl rfl rfl rfl rfl ?_
              refine SeqK.off rfl rfl rfl rfl rfl rfl ?_
              refine SeqK.off rfl rfl rfl rfl rfl rfl ?_
              refine SeqK.off rfl rfl rfl rfl rfl rfl ?_
              refine SeqK.off rfl rfl rfl rfl rfl rfl ?_
              refine SeqK.off rfl rfl rfl rfl rfl rfl ?_
              refine SeqK.off rfl rfl rfl rfl rfl rfl ?_
              refine SeqK.q (q_pkF rfl rfl rfl) rfl rfl rfl ?_
              refine SeqK.q (q_asC rfl rfl) rfl rfl rfl ?_
              refine SeqK.nil ?_
              refine AW.seq ?_
              refine AW.reg ?_
              refine SeqK.q (q_mvC rfl rfl) rfl rfl rfl ?_
              refine SeqK.q (q_not rfl rfl) rfl rfl rfl ?_
              refine SeqK.q (q_mvC rfl rfl) rfl rfl rfl ?_
              refine SeqK.on (q_fieldL _ rfl Fx.fl55_0 rfl rfl) rfl rfl rfl rfl rfl ?_
              refine SeqK.rOn (b_load (r := .a _) rfl Fx.ty4 rfl rfl rfl rfl rfl rfl) rfl rfl rfl ?_
              refine SeqK.onB (q_mvC rfl rfl) rfl rfl rfl rfl rfl (fun g79 => ?_) (fun g79 => ?_)
              ·
                refine SeqK.on (q_fieldL _ rfl Fx.fl55_0 rfl rfl) rfl rfl rfl rfl rfl ?_
                refine SeqK.rOn (b_load (r := .a _) rfl Fx.ty4 rfl rfl rfl rfl rfl rfl) rfl rfl rfl ?_
                refine SeqK.on (q_pkT rfl rfl rfl) rfl rfl rfl rfl rfl ?_
                refine SeqK.on (q_not rfl rfl) rfl rfl rfl rfl rfl ?_
                refine SeqK.q (q_pkT rfl rfl rfl) rfl rfl rfl ?_
                refine SeqK.nil ?_
                refine AW.cond _ rfl (fun h84 => ?_) (fun h84 => ?_)
                ·
                  refine AW.seq ?_
                  refine AW.reg ?_
                  refine SeqK.q (q_asC rfl rfl) rfl rfl rfl ?_
                  refine SeqK.nil ?_
                  refine AW.ret ?_
                  exact fin_x (x := .c _) H (.tmp rfl .nil) rfl (fun _ _ h => h) ⟨by
                    have : meet1 a.ss[k] b.ss[k] = false := by clear hpre; grind [meet1]
                    simp [meet, meetL_false k hka hkb this], rfl⟩
                ·
                  refine AW.skip ?_
                  refine AW.reg ?_
                  refine SeqK.q (q_add _ rfl rfl rfl (w64 (by omega) (by omega))) rfl rfl rfl ?_
                  refine SeqK.q (q_mvC rfl rfl) rfl rfl rfl ?_
                  refine SeqK.nil ?_
                  exact ⟨k + 1, _, Wk.keep 86 [(2, .lp 2 0), (3, .lp 3 0), (4, bX false), (30, .c (.a (.t (.sl z1 6 (a.ss.map sdT))))), (31, iX .i64 ((a.ss.map sdT).length : Nat)), (32, iX .i64 (((k + 1) : Nat) : Int))] [(2, .box [.t (.v (.int .i64 a.tb)), .t (.sl z1 6 (a.ss.map sdT))]), (3, .box [.t (.v (.int .i64 b.tb)), .t (.sl z2 6 (b.ss.map sdT))])] (H) rfl ⟨rfl, rfl, rfl, rfl, rfl, rfl, trivial⟩ ⟨rfl, rfl, trivial⟩ (fun _ _ h => h) rfl, by omega, ⟨by omega, fun j hx hy hj => by
                    rcases Nat.lt_or_ge j k with h | h
                    · exact hpre j hx hy h
                    · obtain rfl : j = k := by omega
                      clear hpre; grind [meet1]⟩, rfl⟩
              ·
                refine SeqK.off rfl rfl rfl rfl rfl rfl ?_
                refine SeqK.off rfl rfl rfl rfl rfl rfl ?_
                refine SeqK.on (q_pkF rfl rfl rfl) rfl rfl rfl rfl rfl ?_
                refine SeqK.on (q_not rfl rfl) rfl rfl rfl rfl rfl ?_
                refine SeqK.q (q_pkT rfl rfl rfl) rfl rfl rfl ?_
                refine SeqK.nil ?_
                refine AW.condT rfl ?_
                refine AW.seq ?_
                refine AW.reg ?_
                refine SeqK.q (q_asC rfl rfl) rfl rfl rfl ?_
                refine SeqK.nil ?_
                refine AW.ret ?_
                exact fin_x (x := .c _) H (.tmp rfl .nil) rfl (fun _ _ h => h) ⟨by
                  have : meet1 a.ss[k] b.ss[k] = false := by clear hpre; grind [meet1]
                  simp [meet, meetL_false k hka hkb this], rfl⟩
          ·
            refine SeqK.off rfl rfl rfl rfl rfl rfl ?_
            refine SeqK.off rfl rfl rfl rfl rfl rfl ?_
            refine SeqK.q (q_pkF rfl rfl rfl) rfl rfl rfl ?_
            refine SeqK.q (q_mvC rfl rfl) rfl rfl rfl ?_
            refine SeqK.off rfl rfl rfl rfl rfl rfl ?_
            refine SeqK.off rfl rfl rfl rfl rfl rfl ?_
            refine SeqK.off rfl rfl rfl rfl rfl rfl ?_
            refine SeqK.off rfl rfl rfl rfl rfl rfl ?_
            refine SeqK.off rfl rfl rfl rfl rfl rfl ?_
            refine SeqK.off rfl rfl rfl rfl rfl rfl ?_
            refine SeqK.off rfl rfl rfl rfl rfl rfl ?_
            refine SeqK.off rfl rfl rfl rfl rfl rfl ?_
            refine SeqK.off rfl rfl rfl rfl rfl rfl ?_
            refine SeqK.off rfl rfl rfl rfl rfl rfl ?_
            refine SeqK.off rfl rfl rfl rfl rfl rfl ?_
            refine SeqK.q (q_pkF rfl rfl rfl) rfl rfl rfl ?_
            refine SeqK.q (q_mvC rfl rfl) rfl rfl rfl ?_
            refine SeqK.off rfl rfl rfl rfl rfl rfl ?_
            refine SeqK.off rfl rfl rfl rfl rfl rfl ?_
            refine SeqK.off rfl rfl rfl rfl rfl rfl ?_
            refine SeqK.off rfl rfl rfl rfl rfl rfl ?_
            refine SeqK.off rfl rfl rfl rfl rfl rfl ?_
            refine SeqK.off rfl rfl rfl rfl rfl rfl ?_
            refine SeqK.off rfl rfl rfl rfl rfl rfl ?_
            refine SeqK.off rfl rfl rfl rfl rfl rfl ?_
            refine SeqK.off rfl rfl rfl rfl rfl rfl ?_
            refine SeqK.off rfl rfl rfl rfl rfl rfl ?_
            refine SeqK.off rfl rfl rfl rfl rfl rfl ?_
            refine SeqK.q (q_pkF rfl rfl rfl) rfl rfl rfl ?_
            refine SeqK.q (q_asC rfl rfl) rfl rfl rfl ?_
            refine SeqK.nil ?_
            refine AW.seq ?_
            refine AW.reg ?_
            refine SeqK.q (q_mvC rfl rfl) rfl rfl rfl ?_
            refine SeqK.q (q_not rfl rfl) rfl rfl rfl ?_
            refine SeqK.q (q_mvC rfl rfl) rfl rfl rfl ?_
            refine SeqK.on (q_fieldL _ rfl Fx.fl55_0 rfl rfl) rfl rfl rfl rfl rfl ?_
            refine SeqK.rOn (b_load (r := .a _) rfl Fx.ty4 rfl rfl rfl rfl rfl rfl) rfl rfl rfl ?_
            refine SeqK.onB (q_mvC rfl rfl) rfl rfl rfl rfl rfl (fun g79 => ?_) (fun g79 => ?_)
            ·
              refine SeqK.on (q_fieldL _ rfl Fx.fl55_0 rfl rfl) rfl rfl rfl rfl rfl ?_
              refine SeqK.rOn (b_load (r := .a _) rfl Fx.ty4 rfl rfl rfl rfl rfl rfl) rfl rfl rfl ?_
              refine SeqK.on (q_pkT rfl rfl rfl) rfl rfl rfl rfl rfl ?_
              refine SeqK.on (q_not rfl rfl) rfl rfl rfl rfl rfl ?_
              refine SeqK.q (q_pkT rfl rfl rfl) rfl rfl rfl ?_
              refine SeqK.nil ?_
              refine AW.cond _ rfl (fun h84 => ?_) (fun h84 => ?_)
              ·
                refine AW.seq ?_
                refine AW.reg ?_
                refine SeqK.q (q_asC rfl rfl) rfl rfl rfl ?_
                refine SeqK.nil ?_
                refine AW.ret ?_
                exact fin_x (x := .c _) H (.tmp rfl .nil) rfl (fun _ _ h => h) ⟨by
                  have : meet1 a.ss[k] b.ss[k] = false := by clear hpre; grind [meet1]
                  simp [meet, meetL_false k hka hkb this], rfl⟩
              ·
                refine AW.skip ?_
                refine AW.reg ?_
                refine SeqK.q (q_add _ rfl rfl rfl (w64 (by omega) (by omega))) rfl rfl rfl ?_
                refine SeqK.q (q_mvC rfl rfl) rfl rfl rfl ?_
                refine SeqK.nil ?_
                exact ⟨k + 1, _, Wk.keep 86 [(2, .lp 2 0), (3, .lp 3 0), (4, bX false), (30, .c (.a (.t (.sl z1 6 (a.ss.map sdT))))), (31, iX .i64 ((a.ss.map sdT).length : Nat)), (32, iX .i64 (((k + 1) : Nat) : Int))] [(2, .box [.t (.v (.int .i64 a.tb)), .t (.sl z1 6 (a.ss.map sdT))]), (3, .box [.t (.v (.int .i64 b.tb)), .t (.sl z2 6 (b.ss.map sdT))])] (H) rfl ⟨rfl, rfl, rfl, rfl, rfl, rfl, trivial⟩ ⟨rfl, rfl, trivial⟩ (fun _ _ h => h) rfl, by omega, ⟨by omega, fun j hx hy hj => by
                  rcases Nat.lt_or_ge j k with h | h
                  · exact hpre j hx hy h
                  · obtain rfl : j = k := by omega
                    clear hpre; grind [meet1]⟩, rfl⟩
            ·
              refine SeqK.off rfl rfl rfl rfl rfl rfl ?_
              refine SeqK.off rfl rfl rfl rfl rfl rfl ?_
              refine SeqK.on (q_pkF rfl rfl rfl) rfl rfl rfl rfl rfl ?_
              refine SeqK.on (q_not rfl rfl) rfl rfl rfl rfl rfl ?_
              refine SeqK.q (q_pkT rfl rfl rfl) rfl rfl rfl ?_
              refine SeqK.nil ?_
              refine AW.condT rfl ?_
              refine AW.seq ?_
              refine AW.reg ?_
              refine SeqK.q (q_asC rfl rfl) rfl rfl rfl ?_
              refine SeqK.nil ?_
              refine AW.ret ?_
              exact fin_x (x := .c _) H (.tmp rfl .nil) rfl (fun _ _ h => h) ⟨by
                have : meet1 a.ss[k] b.ss[k] = false := by clear hpre; grind [meet1]
                simp [meet, meetL_false k hka hkb this], rfl⟩
        ·
          refine AW.exit ?_
          refine eth_e ?_
          refine eth_e ?_
          refine exit_here ?_
          refine AW.seq ?_
          refine AW.reg ?_
          refine SeqK.q (q_asC rfl rfl) rfl rfl rfl ?_
          refine SeqK.nil ?_
          refine AW.ret ?_
          exact fin_x (x := .c _) H (.tmp rfl .nil) rfl (fun _ _ h => h) ⟨by
            have : k = a.ss.length := by simp at h33; omega
            have h1 := meetL_true hl fun j hx hy => hpre j hx hy (by omega)
            simp [meet, ht, h1, hne]; exact hl, rfl⟩

set_option maxRecDepth 20000 in
theorem span_any (l h : Int) : Pure Try.prog 23 [iC l, iC h] (.c (bxC .nn ⟨0, [⟨false, true, l, h, ⟨#[]⟩, ⟨#[]⟩⟩]⟩)) := by
  intro H
  refine Spec.enter Try.func23 rfl ?_
  refine AW.wk (Wk.keep 10 [(0, .c (iC l)), (1, .c (iC h))] [] (H) rfl ⟨rfl, rfl, trivial⟩ trivial (fun _ _ h => h) rfl) ?_
  refine AW.seq ?_
  refine AW.reg ?_
  refine SeqK.r (b_alloc (r := [_, _]) rfl rfl Fx.ze40 rfl rfl rfl rfl) rfl ?_
  refine SeqK.nil ?_
  refine AW.seq ?_
  refine AW.reg ?_
  refine SeqK.q (q_mvC rfl rfl) rfl rfl rfl ?_
  refine SeqK.q (q_mvC rfl rfl) rfl rfl rfl ?_
  refine SeqK.q (q_build2 (zs := [_, _, _, _, _, _]) (r := [_, _, _, _, _, _]) [(0, 1), (1, 1), (2, 1), (3, 1), (4, 1), (5, 1)] _ rfl Fx.ze55 rfl Fx.bp55 rfl rfl rfl rfl) rfl rfl rfl ?_
  refine SeqK.q (q_buildSlice _ rfl Fx.el38 rfl (by decide) rfl) rfl rfl rfl ?_
  refine SeqK.q (q_build2 (zs := [_, _]) (r := [_, _]) [(0, 1), (1, 1)] _ rfl Fx.ze40 rfl Fx.bp40 rfl rfl rfl rfl) rfl rfl rfl ?_
  refine SeqK.r (b_store (r := [_, _]) rfl rfl Fx.ty40 rfl rfl rfl rfl rfl rfl) rfl ?_
  refine SeqK.nil ?_
  refine AW.ret ?_
  exact fin_x (x := .c _) H (.cellL rfl rfl Fx.ty40 rfl rfl .nil) rfl (fun _ _ h => h) ⟨rfl, rfl⟩

set_option maxRecDepth 20000 in
theorem good_any (b : Bx) (z : Nz) (hb : b.ss.length ≤ 140737488351232) : Pure Try.prog 24 [bxC z b] (bX (goodB b)) := by
  intro H
  refine Spec.enter Try.func24 rfl ?_
  refine AW.wk (Wk.keep 101 [(0, .c (bxC z b))] [] (H) rfl ⟨rfl, trivial⟩ trivial (fun _ _ h => h) rfl) ?_
  refine AW.seq ?_
  refine AW.reg ?_
  refine SeqK.r (b_box (r := [_, _]) rfl rfl rfl rfl rfl rfl) rfl ?_
  refine SeqK.q (q_asC rfl rfl) rfl rfl rfl ?_
  refine SeqK.nil ?_
  refine AW.seq ?_
  refine AW.seq ?_
  refine AW.reg ?_
  refine SeqK.q (q_fieldL _ rfl Fx.fl32_1 rfl rfl) rfl rfl rfl ?_
  refine SeqK.r (b_load (r := .a _) rfl Fx.ty30 rfl rfl rfl rfl rfl rfl) rfl ?_
  refine SeqK.q (q_len rfl Fx.un30 rfl) rfl rfl rfl ?_
  refine SeqK.q (q_gtr rfl rfl rfl) rfl rfl rfl ?_
  refine SeqK.qD (q_mvC rfl rfl) rfl rfl rfl (fun g10 => ?_) (fun g10 => ?_)
  ·
    refine SeqK.off rfl rfl rfl rfl rfl rfl ?_
    refine SeqK.off rfl rfl rfl rfl rfl rfl ?_
    refine SeqK.off rfl rfl rfl rfl rfl rfl ?_
    refine SeqK.q (q_pkT rfl rfl rfl) rfl rfl rfl ?_
    refine SeqK.q (q_mvC rfl rfl) rfl rfl rfl ?_
    refine SeqK.off rfl rfl rfl rfl rfl rfl ?_
    refine SeqK.off rfl rfl rfl rfl rfl rfl ?_
    refine SeqK.off rfl rfl rfl rfl rfl rfl ?_
    refine SeqK.q (q_pkT rfl rfl rfl) rfl rfl rfl ?_
    refine SeqK.nil ?_
    refine AW.condT rfl ?_
    refine AW.seq ?_
    refine AW.reg ?_
    refine SeqK.q (q_asC rfl rfl) rfl rfl rfl ?_
    refine SeqK.nil ?_
    refine AW.ret ?_
    exact fin_x (x := .c _) H (.tmp rfl .nil) rfl (fun _ _ h => h) ⟨by
      have : goodB b = false := by
        try simp only [List.length_map] at *
        grind [goodB]
      rw [this], rfl⟩
  ·
    refine SeqK.on (q_fieldL _ rfl Fx.fl32_0 rfl rfl) rfl rfl rfl rfl rfl ?_
    refine SeqK.rOn (b_load (r := .a _) rfl Fx.ty3 rfl rfl rfl rfl rfl rfl) rfl rfl rfl ?_
    refine SeqK.on (q_lss rfl rfl rfl) rfl rfl rfl rfl rfl ?_
    refine SeqK.q (q_pkF rfl rfl rfl) rfl rfl rfl ?_
    refine SeqK.qD (q_mvC rfl rfl) rfl rfl rfl (fun g15 => ?_) (fun g15 => ?_)
    ·
      refine SeqK.off rfl rfl rfl rfl rfl rfl ?_
      refine SeqK.off rfl rfl rfl rfl rfl rfl ?_
      refine SeqK.off rfl rfl rfl rfl rfl rfl ?_
      refine SeqK.q (q_pkT rfl rfl rfl) rfl rfl rfl ?_
      refine SeqK.nil ?_
      refine AW.condT rfl ?_
      refine AW.seq ?_
      refine AW.reg ?_
      refine SeqK.q (q_asC rfl rfl) rfl rfl rfl ?_
      refine SeqK.nil ?_
      refine AW.ret ?_
      exact fin_x (x := .c _) H (.tmp rfl .nil) rfl (fun _ _ h => h) ⟨by
        have : goodB b = false := by
          try simp only [List.length_map] at *
          grind [goodB]
        rw [this], rfl⟩
    ·
      refine SeqK.on (q_fieldL _ rfl Fx.fl32_0 rfl rfl) rfl rfl rfl rfl rfl ?_
      refine SeqK.rOn (b_load (r := .a _) rfl Fx.ty3 rfl rfl rfl rfl rfl rfl) rfl rfl rfl ?_
      refine SeqK.on (q_gtr rfl rfl rfl) rfl rfl rfl rfl rfl ?_
      refine SeqK.q (q_pkF rfl rfl rfl) rfl rfl rfl ?_
      refine SeqK.nil ?_
      refine AW.condD rfl (fun h19 => ?_) (fun h19 => ?_)
      ·
        refine AW.seq ?_
        refine AW.reg ?_
        refine SeqK.q (q_asC rfl rfl) rfl rfl rfl ?_
        refine SeqK.nil ?_
        refine AW.ret ?_
        exact fin_x (x := .c _) H (.tmp rfl .nil) rfl (fun _ _ h => h) ⟨by
          have : goodB b = false := by
            try simp only [List.length_map] at *
            grind [goodB]
          rw [this], rfl⟩
      ·
        have h4 : ¬ 4 < b.ss.length := by simp at g10; omega
        have ht0 : ¬ b.tb < 0 := g15
        have ht3 : ¬ 3 < b.tb := h19
        refine AW.skip ?_
        refine AW.seq ?_
        refine AW.seq ?_
        refine AW.reg ?_
        refine SeqK.q (q_fieldL _ rfl Fx.fl32_1 rfl rfl) rfl rfl rfl ?_
        refine SeqK.r (b_load (r := .a _) rfl Fx.ty30 rfl rfl rfl rfl rfl rfl) rfl ?_
        refine SeqK.q (q_len rfl Fx.un30 rfl) rfl rfl rfl ?_
        refine SeqK.q (q_mvC rfl rfl) rfl rfl rfl ?_
        refine SeqK.nil ?_
        refine AW.block ?_
        refine AW.loop (fun (k : Nat) s => (k ≤ b.ss.length ∧ ∀ j (hj : j < b.ss.length), j < k → bad1 b.ss[j] = false) ∧ s = ⟨101, sp [(1, .lp 1 0), (2, bX false), (21, .c (.a (.t (.sl z 6 (b.ss.map sdT))))), (22, iX .i64 ((b.ss.map sdT).length : Nat)), (23, iX .i64 ((k : Nat) : Int))], lv [(1, .box [.t (.v (.int .i64 b.tb)), .t (.sl z 6 (b.ss.map sdT))])], H⟩) (fun k => b.ss.length - k) 0 ⟨_, Wk.keep 101 [(1, .lp 1 0), (2, bX false), (21, .c (.a (.t (.sl z 6 (b.ss.map sdT))))), (22, iX .i64 ((b.ss.map sdT).length : Nat)), (23, iX .i64 ((((0 : Nat)) : Nat) : Int))] [(1, .box [.t (.v (.int .i64 b.tb)), .t (.sl z 6 (b.ss.map sdT))])] (H) rfl ⟨rfl, rfl, rfl, rfl, rfl, trivial⟩ ⟨rfl, trivial⟩ (fun _ _ h => h) rfl, ⟨Nat.zero_le _, fun j _ h => absurd h (Nat.not_lt_zero _)⟩, rfl⟩ (fun k s hs => ?_)
        obtain ⟨⟨hk, hpre⟩, rfl⟩ := hs
        refine AW.seq ?_
        refine AW.reg ?_
        refine SeqK.q (q_lss rfl rfl rfl) rfl rfl rfl ?_
        refine SeqK.nil ?_
        refine AW.seq ?_
        refine AW.condD rfl (fun h24 => ?_) (fun h24 => ?_)
        ·
          have hkb : k < b.ss.length := by simp at h24; omega
          refine AW.skip ?_
          refine AW.seq ?_
          refine AW.block ?_
          refine AW.seq ?_
          refine AW.reg ?_
          refine SeqK.q (q_index _ rfl Fx.sl30 rfl rfl (by omega) (idx_map hkb)) rfl rfl rfl ?_
          refine SeqK.q (q_load (.g [_, _, _, _, _, _]) rfl Fx.ty67 rfl rfl rfl) rfl rfl rfl ?_
          refine SeqK.r (b_alloc (r := [_, _, _, _, _, _]) rfl rfl Fx.ze67 rfl rfl rfl rfl) rfl ?_
          refine SeqK.r (b_store (r := [_, _, _, _, _, _]) rfl rfl Fx.ty67 rfl rfl rfl rfl rfl rfl) rfl ?_
          refine SeqK.nil ?_
          refine AW.seq ?_
          refine AW.reg ?_
          refine SeqK.q (q_fieldL _ rfl Fx.fl67_4 rfl rfl) rfl rfl rfl ?_
          refine SeqK.r (b_load (r := .a _) rfl Fx.ty9 rfl rfl rfl rfl rfl rfl) rfl ?_
          refine SeqK.q (q_neqS rfl rfl rfl) rfl rfl rfl ?_
          refine SeqK.qD (q_mvC rfl rfl) rfl rfl rfl (fun g30 => ?_) (fun g30 => ?_)
          ·
            refine SeqK.off rfl rfl rfl rfl rfl rfl ?_
            refine SeqK.off rfl rfl rfl rfl rfl rfl ?_
            refine SeqK.off rfl rfl rfl rfl rfl rfl ?_
            refine SeqK.q (q_pkT rfl rfl rfl) rfl rfl rfl ?_
            refine SeqK.q (q_asC rfl rfl) rfl rfl rfl ?_
            refine SeqK.nil ?_
            refine AW.seq ?_
            refine AW.reg ?_
            refine SeqK.q (q_fieldL _ rfl Fx.fl67_4 rfl rfl) rfl rfl rfl ?_
            refine SeqK.r (b_load (r := .a _) rfl Fx.ty9 rfl rfl rfl rfl rfl rfl) rfl ?_
            refine SeqK.q (q_lenS rfl Fx.un9 rfl) rfl rfl rfl ?_
            refine SeqK.q (q_gtr rfl rfl rfl) rfl rfl rfl ?_
            refine SeqK.qD (q_mvC rfl rfl) rfl rfl rfl (fun g39 => ?_) (fun g39 => ?_)
            ·
              refine SeqK.off rfl rfl rfl rfl rfl rfl ?_
              refine SeqK.off rfl rfl rfl rfl rfl rfl ?_
              refine SeqK.off rfl rfl rfl rfl rfl rfl ?_
              refine SeqK.off rfl rfl rfl rfl rfl rfl ?_
              refine SeqK.q (q_pkT rfl rfl rfl) rfl rfl rfl ?_
              refine SeqK.q (q_mvC rfl rfl) rfl rfl rfl ?_
              refine SeqK.off rfl rfl rfl rfl rfl rfl ?_
              refine SeqK.off rfl rfl rfl rfl rfl rfl ?_
              refine SeqK.offU rfl rfl rfl rfl rfl ?_
              refine SeqK.offU rfl rfl rfl rfl rfl ?_
              refine SeqK.offU rfl rfl rfl rfl rfl ?_
              refine SeqK.offU rfl rfl rfl rfl rfl ?_
              refine SeqK.offU rfl rfl rfl rfl rfl ?_
              refine SeqK.offU rfl rfl rfl rfl rfl ?_
              refine SeqK.offU rfl rfl rfl rfl rfl ?_
              refine SeqK.offU rfl rfl rfl rfl rfl ?_
              refine SeqK.off rfl rfl rfl rfl rfl rfl ?_
              refine SeqK.q (q_pkT rfl rfl rfl) rfl rfl rfl ?_
              refine SeqK.q (q_mvC rfl rfl) rfl rfl rfl ?_
              refine SeqK.off rfl rfl rfl rfl rfl rfl ?_
              refine SeqK.off rfl rfl rfl rfl rfl rfl ?_
              refine SeqK.off rfl rfl rfl rfl rfl rfl ?_
              refine SeqK.off rfl rfl rfl rfl rfl rfl ?_
              refine SeqK.offU rfl rfl rfl rfl rfl ?_
              refine SeqK.offU rfl rfl rfl rfl rfl ?_
              refine SeqK.offU rfl rfl rfl rfl rfl ?_
              refine SeqK.offU rfl rfl rfl rfl rfl ?_
              refine SeqK.offU rfl rfl rfl rfl rfl ?_
              refine SeqK.offU rfl rfl rfl rfl rfl ?_
              refine SeqK.offU rfl rfl rfl rfl rfl ?_
              refine SeqK.offU rfl rfl rfl rfl rfl ?_
              refine SeqK.offU rfl rfl rfl rfl rfl ?_
              refine SeqK.offU rfl rfl rfl rfl rfl ?_
              refine SeqK.offU rfl rfl rfl rfl rfl ?_
              refine SeqK.off rfl rfl rfl rfl rfl rfl ?_
              refine SeqK.q (q_pkT rfl rfl rfl) rfl rfl rfl ?_
              refine SeqK.q (q_mvC rfl rfl) rfl rfl rfl ?_
              refine SeqK.off rfl rfl rfl rfl rfl rfl ?_
              refine SeqK.off rfl rfl rfl rfl rfl rfl ?_
              refine SeqK.off rfl rfl rfl rfl rfl rfl ?_
              refine SeqK.off rfl rfl rfl rfl rfl rfl ?_
              refine SeqK.offU rfl rfl rfl rfl rfl ?_
              refine SeqK.offU rfl rfl rfl rfl rfl ?_
              refine SeqK.offU rfl rfl rfl rfl rfl ?_
              refine SeqK.off rfl rfl rfl rfl rfl rfl ?_
              refine SeqK.q (q_pkT rfl rfl rfl) rfl rfl rfl ?_
              refine SeqK.q (q_mvC rfl rfl) rfl rfl rfl ?_
              refine SeqK.off rfl rfl rfl rfl rfl rfl ?_
              refine SeqK.off rfl rfl rfl rfl rfl rfl ?_
              refine SeqK.off rfl rfl rfl rfl rfl rfl ?_
              refine SeqK.off rfl rfl rfl rfl rfl rfl ?_
              refine SeqK.off rfl rfl rfl rfl rfl rfl ?_
              refine SeqK.q (q_pkT rfl rfl rfl) rfl rfl rfl ?_
              refine SeqK.q (q_mvC rfl rfl) rfl rfl rfl ?_
              refine SeqK.off rfl rfl rfl rfl rfl rfl ?_
              refine SeqK.off rfl rfl rfl rfl rfl rfl ?_
              refine SeqK.off rfl rfl rfl rfl rfl rfl ?_
              refine SeqK.off rfl rfl rfl rfl rfl rfl ?_
              refine SeqK.off rfl rfl rfl rfl rfl rfl ?_
              refine SeqK.q (q_pkT rfl rfl rfl) rfl rfl rfl ?_
              refine SeqK.nil ?_
              refine AW.condT rfl ?_
              refine AW.seq ?_
              refine AW.reg ?_
              refine SeqK.q (q_asC rfl rfl) rfl rfl rfl ?_
              refine SeqK.nil ?_
              refine AW.ret ?_
              exact fin_x (x := .c _) H (.tmp rfl .nil) rfl (fun _ _ h => h) ⟨by
                have : bad1 b.ss[k] = true := by clear hpre; grind [bad1, texts]
                rw [goodB_bad hkb this], rfl⟩
            ·
              refine SeqK.on (q_fieldL _ rfl Fx.fl67_5 rfl rfl) rfl rfl rfl rfl rfl ?_
              refine SeqK.rOn (b_load (r := .a _) rfl Fx.ty9 rfl rfl rfl rfl rfl rfl) rfl rfl rfl ?_
              refine SeqK.on (q_lenS rfl Fx.un9 rfl) rfl rfl rfl rfl rfl ?_
              refine SeqK.on (q_gtr rfl rfl rfl) rfl rfl rfl rfl rfl ?_
              refine SeqK.q (q_pkF rfl rfl rfl) rfl rfl rfl ?_
              refine SeqK.qD (q_mvC rfl rfl) rfl rfl rfl (fun g45 => ?_) (fun g45 => ?_)
              ·
                refine SeqK.off rfl rfl rfl rfl rfl rfl ?_
                refine SeqK.off rfl rfl rfl rfl rfl rfl ?_
                refine SeqK.offU rfl rfl rfl rfl rfl ?_
                refine SeqK.offU rfl rfl rfl rfl rfl ?_
                refine SeqK.offU rfl rfl rfl rfl rfl ?_
                refine SeqK.offU rfl rfl rfl rfl rfl ?_
                refine SeqK.offU rfl rfl rfl rfl rfl ?_
                refine SeqK.offU rfl rfl rfl rfl rfl ?_
                refine SeqK.offU rfl rfl rfl rfl rfl ?_
                refine SeqK.offU rfl rfl rfl rfl rfl ?_
                refine SeqK.off rfl rfl rfl rfl rfl rfl ?_
                refine SeqK.q (q_pkT rfl rfl rfl) rfl rfl rfl ?_
                refine SeqK.q (q_mvC rfl rfl) rfl rfl rfl ?_
                refine SeqK.off rfl rfl rfl rfl rfl rfl ?_
                refine SeqK.off rfl rfl rfl rfl rfl rfl ?_
                refine SeqK.off rfl rfl rfl rfl rfl rfl ?_
                refine SeqK.off rfl rfl rfl rfl rfl rfl ?_
                refine SeqK.offU rfl rfl rfl rfl rfl ?_
                refine SeqK.offU rfl rfl rfl rfl rfl ?_
                refine SeqK.offU rfl rfl rfl rfl rfl ?_
                refine SeqK.offU rfl rfl rfl rfl rfl ?_
                refine SeqK.offU rfl rfl rfl rfl rfl ?_
                refine SeqK.offU rfl rfl rfl rfl rfl ?_
                refine SeqK.offU rfl rfl rfl rfl rfl ?_
                refine SeqK.offU rfl rfl rfl rfl rfl ?_
                refine SeqK.offU rfl rfl rfl rfl rfl ?_
                refine SeqK.offU rfl rfl rfl rfl rfl ?_
                refine SeqK.offU rfl rfl rfl rfl rfl ?_
                refine SeqK.off rfl rfl rfl rfl rfl rfl ?_
                refine SeqK.q (q_pkT rfl rfl rfl) rfl rfl rfl ?_
                refine SeqK.q (q_mvC rfl rfl) rfl rfl rfl ?_
                refine SeqK.off rfl rfl rfl rfl rfl rfl ?_
                refine SeqK.off rfl rfl rfl rfl rfl rfl ?_
                refine SeqK.off rfl rfl rfl rfl rfl rfl ?_
                refine SeqK.off rfl rfl rfl rfl rfl rfl ?_
                refine SeqK.offU rfl rfl rfl rfl rfl ?_
                refine SeqK.offU rfl rfl rfl rfl rfl ?_
                refine SeqK.offU rfl rfl rfl rfl rfl ?_
                refine SeqK.off rfl rfl rfl rfl rfl rfl ?_
                refine SeqK.q (q_pkT rfl rfl rfl) rfl rfl rfl ?_
                refine SeqK.q (q_mvC rfl rfl) rfl rfl rfl ?_
                refine SeqK.off rfl rfl rfl rfl rfl rfl ?_
                refine SeqK.off rfl rfl rfl rfl rfl rfl ?_
                refine SeqK.off rfl rfl rfl rfl rfl rfl ?_
                refine SeqK.off rfl rfl rfl rfl rfl rfl ?_
                refine SeqK.off rfl rfl rfl rfl rfl rfl ?_
                refine SeqK.q (q_pkT rfl rfl rfl) rfl rfl rfl ?_
                refine SeqK.q (q_mvC rfl rfl) rfl rfl rfl ?_
                refine SeqK.off rfl rfl rfl rfl rfl rfl ?_
                refine SeqK.off rfl rfl rfl rfl rfl rfl ?_
                refine SeqK.off rfl rfl rfl rfl rfl rfl ?_
                refine SeqK.off rfl rfl rfl rfl rfl rfl ?_
                refine SeqK.off rfl rfl rfl rfl rfl rfl ?_
                refine SeqK.q (q_pkT rfl rfl rfl) rfl rfl rfl ?_
                refine SeqK.nil ?_
                refine AW.condT rfl ?_
                refine AW.seq ?_
                refine AW.reg ?_
                refine SeqK.q (q_asC rfl rfl) rfl rfl rfl ?_
                refine SeqK.nil ?_
                refine AW.ret ?_
                exact fin_x (x := .c _) H (.tmp rfl .nil) rfl (fun _ _ h => h) ⟨by
                  have : bad1 b.ss[k] = true := by clear hpre; grind [bad1, texts]
                  rw [goodB_bad hkb this], rfl⟩
              ·
                refine SeqK.on (q_mvC rfl rfl) rfl rfl rfl rfl rfl ?_
                refine SeqK.on (q_mvC rfl rfl) rfl rfl rfl rfl rfl ?_
                refine SeqK.on (q_fieldL _ rfl Fx.fl67_2 rfl rfl) rfl rfl rfl rfl rfl ?_
                refine SeqK.rOn (b_load (r := .a _) rfl Fx.ty2 rfl rfl rfl rfl rfl rfl) rfl rfl rfl ?_
                refine SeqK.on (q_neq rfl rfl rfl) rfl rfl rfl rfl rfl ?_
                refine SeqK.onD (q_mvC rfl rfl) rfl rfl rfl rfl rfl (fun g51 => ?_) (fun g51 => ?_)
                ·
                  refine SeqK.off rfl rfl rfl rfl rfl rfl ?_
                  refine SeqK.off rfl rfl rfl rfl rfl rfl ?_
                  refine SeqK.off rfl rfl rfl rfl rfl rfl ?_
                  refine SeqK.on (q_pkT rfl rfl rfl) rfl rfl rfl rfl rfl ?_
                  refine SeqK.on (q_pkT rfl rfl rfl) rfl rfl rfl rfl rfl ?_
                  refine SeqK.q (q_pkF rfl rfl rfl) rfl rfl rfl ?_
                  refine SeqK.q (q_mvC rfl rfl) rfl rfl rfl ?_
                  refine SeqK.off rfl rfl rfl rfl rfl rfl ?_
                  refine SeqK.off rfl rfl rfl rfl rfl rfl ?_
                  refine SeqK.off rfl rfl rfl rfl rfl rfl ?_
                  refine SeqK.off rfl rfl rfl rfl rfl rfl ?_
                  refine SeqK.offU rfl rfl rfl rfl rfl ?_
                  refine SeqK.offU rfl rfl rfl rfl rfl ?_
                  refine SeqK.offU rfl rfl rfl rfl rfl ?_
                  refine SeqK.offU rfl rfl rfl rfl rfl ?_
                  refine SeqK.offU rfl rfl rfl rfl rfl ?_
                  refine SeqK.offU rfl rfl rfl rfl rfl ?_
                  refine SeqK.offU rfl rfl rfl rfl rfl ?_
                  refine SeqK.offU rfl rfl rfl rfl rfl ?_
                  refine SeqK.offU rfl rfl rfl rfl rfl ?_
                  refine SeqK.offU rfl rfl rfl rfl rfl ?_
                  refine SeqK.offU rfl rfl rfl rfl rfl ?_
                  refine SeqK.off rfl rfl rfl rfl rfl rfl ?_
                  refine SeqK.q (q_pkT rfl rfl rfl) rfl rfl rfl ?_
                  refine SeqK.q (q_mvC rfl rfl) rfl rfl rfl ?_
                  refine SeqK.off rfl rfl rfl rfl rfl rfl ?_
                  refine SeqK.off rfl rfl rfl rfl rfl rfl ?_
                  refine SeqK.off rfl rfl rfl rfl rfl rfl ?_
                  refine SeqK.off rfl rfl rfl rfl rfl rfl ?_
                  refine SeqK.offU rfl rfl rfl rfl rfl ?_
                  refine SeqK.offU rfl rfl rfl rfl rfl ?_
                  refine SeqK.offU rfl rfl rfl rfl rfl ?_
                  refine SeqK.off rfl rfl rfl rfl rfl rfl ?_
                  refine SeqK.q (q_pkT rfl rfl rfl) rfl rfl rfl ?_
                  refine SeqK.q (q_mvC rfl rfl) rfl rfl rfl ?_
                  refine SeqK.off rfl rfl rfl rfl rfl rfl ?_
                  refine SeqK.off rfl rfl rfl rfl rfl rfl ?_
                  refine SeqK.off rfl rfl rfl rfl rfl rfl ?_
                  refine SeqK.off rfl rfl rfl rfl rfl rfl ?_
                  refine SeqK.off rfl rfl rfl rfl rfl rfl ?_
                  refine SeqK.q (q_pkT rfl rfl rfl) rfl rfl rfl ?_
                  refine SeqK.q (q_mvC rfl rfl) rfl rfl rfl ?_
                  refine SeqK.off rfl rfl rfl rfl rfl rfl ?_
                  refine SeqK.off rfl rfl rfl rfl rfl rfl ?_
                  refine SeqK.off rfl rfl rfl rfl rfl rfl ?_
                  refine SeqK.off rfl rfl rfl rfl rfl rfl ?_
                  refine SeqK.off rfl rfl rfl rfl rfl rfl ?_
                  refine SeqK.q (q_pkT rfl rfl rfl) rfl rfl rfl ?_
                  refine SeqK.nil ?_
                  refine AW.condT rfl ?_
                  refine AW.seq ?_
                  refine AW.reg ?_
                  refine SeqK.q (q_asC rfl rfl) rfl rfl rfl ?_
                  refine SeqK.nil ?_
                  refine AW.ret ?_
                  exact fin_x (x := .c _) H (.tmp rfl .nil) rfl (fun _ _ h => h) ⟨by
                    have : bad1 b.ss[k] = true := by clear hpre; grind [bad1, texts]
                    rw [goodB_bad hkb this], rfl⟩
                ·
                  refine SeqK.on (q_fieldL _ rfl Fx.fl67_3 rfl rfl) rfl rfl rfl rfl rfl ?_
                  refine SeqK.rOn (b_load (r := .a _) rfl Fx.ty2 rfl rfl rfl rfl rfl rfl) rfl rfl rfl ?_
                  refine SeqK.on (q_neq rfl rfl rfl) rfl rfl rfl rfl rfl ?_
                  refine SeqK.on (q_pkF rfl rfl rfl) rfl rfl rfl rfl rfl ?_
                  refine SeqK.on (q_pkT rfl rfl rfl) rfl rfl rfl rfl rfl ?_
                  refine SeqK.q (q_pkF rfl rfl rfl) rfl rfl rfl ?_
                  refine SeqK.qD (q_mvC rfl rfl) rfl rfl rfl (fun g58 => ?_) (fun g58 => ?_)
                  ·
                    refine SeqK.off rfl rfl rfl rfl rfl rfl ?_
                    refine SeqK.off rfl rfl rfl rfl rfl rfl ?_
                    refine SeqK.off rfl rfl rfl rfl rfl rfl ?_
                    refine SeqK.off rfl rfl rfl rfl rfl rfl ?_
                    refine SeqK.offU rfl rfl rfl rfl rfl ?_
                    refine SeqK.offU rfl rfl rfl rfl rfl ?_
                    refine SeqK.offU rfl rfl rfl rfl rfl ?_
                    refine SeqK.offU rfl rfl rfl rfl rfl ?_
                    refine SeqK.offU rfl rfl rfl rfl rfl ?_
                    refine SeqK.offU rfl rfl rfl rfl rfl ?_
                    refine SeqK.offU rfl rfl rfl rfl rfl ?_
                    refine SeqK.offU rfl rfl rfl rfl rfl ?_
                    refine SeqK.offU rfl rfl rfl rfl rfl ?_
                    refine SeqK.offU rfl rfl rfl rfl rfl ?_
                    refine SeqK.offU rfl rfl rfl rfl rfl ?_
                    refine SeqK.off rfl rfl rfl rfl rfl rfl ?_
                    refine SeqK.q (q_pkT rfl rfl rfl) rfl rfl rfl ?_
                    refine SeqK.q (q_mvC rfl rfl) rfl rfl rfl ?_
                    refine SeqK.off rfl rfl rfl rfl rfl rfl ?_
                    refine SeqK.off rfl rfl rfl rfl rfl rfl ?_
                    refine SeqK.off rfl rfl rfl rfl rfl rfl ?_
                    refine SeqK.off rfl rfl rfl rfl rfl rfl ?_
                    refine SeqK.offU rfl rfl rfl rfl rfl ?_
                    refine SeqK.offU rfl rfl rfl rfl rfl ?_
                    refine SeqK.offU rfl rfl rfl rfl rfl ?_
                    refine SeqK.off rfl rfl rfl rfl rfl rfl ?_
                    refine SeqK.q (q_pkT rfl rfl rfl) rfl rfl rfl ?_
                    refine SeqK.q (q_mvC rfl rfl) rfl rfl rfl ?_
                    refine SeqK.off rfl rfl rfl rfl rfl rfl ?_
                    refine SeqK.off rfl rfl rfl rfl rfl rfl ?_
                    refine SeqK.off rfl rfl rfl rfl rfl rfl ?_
                    refine SeqK.off rfl rfl rfl rfl rfl rfl ?_
                    refine SeqK.off rfl rfl rfl rfl rfl rfl ?_
                    refine SeqK.q (q_pkT rfl rfl rfl) rfl rfl rfl ?_
                    refine SeqK.q (q_mvC rfl rfl) rfl rfl rfl ?_
                    refine SeqK.off rfl rfl rfl rfl rfl rfl ?_
                    refine SeqK.off rfl rfl rfl rfl rfl rfl ?_
                    refine SeqK.off rfl rfl rfl rfl rfl rfl ?_
                    refine SeqK.off rfl rfl rfl rfl rfl rfl ?_
                    refine SeqK.off rfl rfl rfl rfl rfl rfl ?_
                    refine SeqK.q (q_pkT rfl rfl rfl) rfl rfl rfl ?_
                    refine SeqK.nil ?_
                    refine AW.condT rfl ?_
                    refine AW.seq ?_
                    refine AW.reg ?_
                    refine SeqK.q (q_asC rfl rfl) rfl rfl rfl ?_
                    refine SeqK.nil ?_
                    refine AW.ret ?_
                    exact fin_x (x := .c _) H (.tmp rfl .nil) rfl (fun _ _ h => h) ⟨by
                      have : bad1 b.ss[k] = true := by clear hpre; grind [bad1, texts]
                      rw [goodB_bad hkb this], rfl⟩
                  ·
                    refine SeqK.on (q_fieldL _ rfl Fx.fl67_1 rfl rfl) rfl rfl rfl rfl rfl ?_
                    refine SeqK.rOn (b_load (r := .a _) rfl Fx.ty4 rfl rfl rfl rfl rfl rfl) rfl rfl rfl ?_
                    refine SeqK.on (q_not rfl rfl) rfl rfl rfl rfl rfl ?_
                    refine SeqK.onB (q_mvC rfl rfl) rfl rfl rfl rfl rfl (fun g62 => ?_) (fun g62 => ?_)
                    ·
                      refine SeqK.on (q_mvC rfl rfl) rfl rfl rfl rfl rfl ?_
                      refine SeqK.on (q_mvC rfl rfl) rfl rfl rfl rfl rfl ?_
                      refine SeqK.off rfl rfl rfl rfl rfl rfl ?_
                      refine SeqK.off rfl rfl rfl rfl rfl rfl ?_
                      refine SeqK.off rfl rfl rfl rfl rfl rfl ?_
                      refine SeqK.on (q_pkT rfl rfl rfl) rfl rfl rfl rfl rfl ?_
                      refine SeqK.on (q_mvC rfl rfl) rfl rfl rfl rfl rfl ?_
                      refine SeqK.off rfl rfl rfl rfl rfl rfl ?_
                      refine SeqK.off rfl rfl rfl rfl rfl rfl ?_
                      refine SeqK.off rfl rfl rfl rfl rfl rfl ?_
                      refine SeqK.on (q_pkT rfl rfl rfl) rfl rfl rfl rfl rfl ?_
                      refine SeqK.on (q_pkT rfl rfl rfl) rfl rfl rfl rfl rfl ?_
                      refine SeqK.q (q_pkF rfl rfl rfl) rfl rfl rfl ?_
                      refine SeqK.q (q_mvC rfl rfl) rfl rfl rfl ?_
                      refine SeqK.off rfl rfl rfl rfl rfl rfl ?_
                      refine SeqK.off rfl rfl rfl rfl rfl rfl ?_
                      refine SeqK.off rfl rfl rfl rfl rfl rfl ?_
                      refine SeqK.off rfl rfl rfl rfl rfl rfl ?_
                      refine SeqK.offU rfl rfl rfl rfl rfl ?_
                      refine SeqK.offU rfl rfl rfl rfl rfl ?_
                      refine SeqK.offU rfl rfl rfl rfl rfl ?_
                      refine SeqK.off rfl rfl rfl rfl rfl rfl ?_
                      refine SeqK.q (q_pkT rfl rfl rfl) rfl rfl rfl ?_
                      refine SeqK.q (q_mvC rfl rfl) rfl rfl rfl ?_
                      refine SeqK.off rfl rfl rfl rfl rfl rfl ?_
                      refine SeqK.off rfl rfl rfl rfl rfl rfl ?_
                      refine SeqK.off rfl rfl rfl rfl rfl rfl ?_
                      refine SeqK.off rfl rfl rfl rfl rfl rfl ?_
                      refine SeqK.off rfl rfl rfl rfl rfl rfl ?_
                      refine SeqK.q (q_pkT rfl rfl rfl) rfl rfl rfl ?_
                      refine SeqK.q (q_mvC rfl rfl) rfl rfl rfl ?_
                      refine SeqK.off rfl rfl rfl rfl rfl rfl ?_
                      refine SeqK.off rfl rfl rfl rfl rfl rfl ?_
                      refine SeqK.off rfl rfl rfl rfl rfl rfl ?_
                      refine SeqK.off rfl rfl rfl rfl rfl rfl ?_
                      refine SeqK.off rfl rfl rfl rfl rfl rfl ?_
                      refine SeqK.q (q_pkT rfl rfl rfl) rfl rfl rfl ?_
                      refine SeqK.nil ?_
                      refine AW.condT rfl ?_
                      refine AW.seq ?_
                      refine AW.reg ?_
                      refine SeqK.q (q_asC rfl rfl) rfl rfl rfl ?_
                      refine SeqK.nil ?_
                      refine AW.ret ?_
                      exact fin_x (x := .c _) H (.tmp rfl .nil) rfl (fun _ _ h => h) ⟨by
                        have : bad1 b.ss[k] = true := by clear hpre; grind [bad1, texts]
                        rw [goodB_bad hkb this], rfl⟩
                    ·
                      refine SeqK.off rfl rfl rfl rfl rfl rfl ?_
                      refine SeqK.off rfl rfl rfl rfl rfl rfl ?_
                      refine SeqK.offU rfl rfl rfl rfl rfl ?_
                      refine SeqK.offU rfl rfl rfl rfl rfl ?_
                      refine SeqK.offU rfl rfl rfl rfl rfl ?_
                      refine SeqK.off rfl rfl rfl rfl rfl rfl ?_
                      refine SeqK.off rfl rfl rfl rfl rfl rfl ?_
                      refine SeqK.offU rfl rfl rfl rfl rfl ?_
                      refine SeqK.offU rfl rfl rfl rfl rfl ?_
                      refine SeqK.offU rfl rfl rfl rfl rfl ?_
                      refine SeqK.off rfl rfl rfl rfl rfl rfl ?_
                      refine SeqK.on (q_pkF rfl rfl rfl) rfl rfl rfl rfl rfl ?_
                      refine SeqK.q (q_pkF rfl rfl rfl) rfl rfl rfl ?_
                      refine SeqK.q (q_mvC rfl rfl) rfl rfl rfl ?_
                      refine SeqK.on (q_fieldL _ rfl Fx.fl67_0 rfl rfl) rfl rfl rfl rfl rfl ?_
                      refine SeqK.rOn (b_load (r := .a _) rfl Fx.ty4 rfl rfl rfl rfl rfl rfl) rfl rfl rfl ?_
                      refine SeqK.on (q_not rfl rfl) rfl rfl rfl rfl rfl ?_
                      refine SeqK.onB (q_mvC rfl rfl) rfl rfl rfl rfl rfl (fun g80 => ?_) (fun g80 => ?_)
                      ·
                        refine SeqK.on (q_fieldL _ rfl Fx.fl67_1 rfl rfl) rfl rfl rfl rfl rfl ?_
                        refine SeqK.rOn (b_load (r := .a _) rfl Fx.ty4 rfl rfl rfl rfl rfl rfl) rfl rfl rfl ?_
                        refine SeqK.on (q_not rfl rfl) rfl rfl rfl rfl rfl ?_
                        refine SeqK.on (q_pkT rfl rfl rfl) rfl rfl rfl rfl rfl ?_
                        refine SeqK.q (q_pkF rfl rfl rfl) rfl rfl rfl ?_
                        refine SeqK.qB (q_mvC rfl rfl) rfl rfl rfl (fun g86 => ?_) (fun g86 => ?_)
                        ·
                          refine SeqK.off rfl rfl rfl rfl rfl rfl ?_
                          refine SeqK.off rfl rfl rfl rfl rfl rfl ?_
                          refine SeqK.off rfl rfl rfl rfl rfl rfl ?_
                          refine SeqK.off rfl rfl rfl rfl rfl rfl ?_
                          refine SeqK.off rfl rfl rfl rfl rfl rfl ?_
                          refine SeqK.q (q_pkT rfl rfl rfl) rfl rfl rfl ?_
                          refine SeqK.q (q_mvC rfl rfl) rfl rfl rfl ?_
                          refine SeqK.off rfl rfl rfl rfl rfl rfl ?_
                          refine SeqK.off rfl rfl rfl rfl rfl rfl ?_
                          refine SeqK.off rfl rfl rfl rfl rfl rfl ?_
                          refine SeqK.off rfl rfl rfl rfl rfl rfl ?_
                          refine SeqK.off rfl rfl rfl rfl rfl rfl ?_
                          refine SeqK.q (q_pkT rfl rfl rfl) rfl rfl rfl ?_
                          refine SeqK.nil ?_
                          refine AW.condT rfl ?_
                          refine AW.seq ?_
                          refine AW.reg ?_
                          refine SeqK.q (q_asC rfl rfl) rfl rfl rfl ?_
                          refine SeqK.nil ?_
                          refine AW.ret ?_
                          exact fin_x (x := .c _) H (.tmp rfl .nil) rfl (fun _ _ h => h) ⟨by
                            have : bad1 b.ss[k] = true := by clear hpre; grind [bad1, texts]
                            rw [goodB_bad hkb this], rfl⟩
                        ·
                          refine SeqK.on (q_fieldL _ rfl Fx.fl67_2 rfl rfl) rfl rfl rfl rfl rfl ?_
                          refine SeqK.rOn (b_load (r := .a _) rfl Fx.ty2 rfl rfl rfl rfl rfl rfl) rfl rfl rfl ?_
                          refine SeqK.on (q_fieldL _ rfl Fx.fl67_3 rfl rfl) rfl rfl rfl rfl rfl ?_
                          refine SeqK.rOn (b_load (r := .a _) rfl Fx.ty2 rfl rfl rfl rfl rfl rfl) rfl rfl rfl ?_
                          refine SeqK.on (q_gtr rfl rfl rfl) rfl rfl rfl rfl rfl ?_
                          refine SeqK.q (q_pkF rfl rfl rfl) rfl rfl rfl ?_
                          refine SeqK.qD (q_mvC rfl rfl) rfl rfl rfl (fun g93 => ?_) (fun g93 => ?_)
                          ·
                            refine SeqK.off rfl rfl rfl rfl rfl rfl ?_
                            refine SeqK.off rfl rfl rfl rfl rfl rfl ?_
                            refine SeqK.off rfl rfl rfl rfl rfl rfl ?_
                            refine SeqK.off rfl rfl rfl rfl rfl rfl ?_
                            refine SeqK.off rfl rfl rfl rfl rfl rfl ?_
                            refine SeqK.q (q_pkT rfl rfl rfl) rfl rfl rfl ?_
                            refine SeqK.nil ?_
                            refine AW.condT rfl ?_
                            refine AW.seq ?_
                            refine AW.reg ?_
                            refine SeqK.q (q_asC rfl rfl) rfl rfl rfl ?_
                            refine SeqK.nil ?_
                            refine AW.ret ?_
                            exact fin_x (x := .c _) H (.tmp rfl .nil) rfl (fun _ _ h => h) ⟨by
                              have : bad1 b.ss[k] = true := by clear hpre; grind [bad1, texts]
                              rw [goodB_bad hkb this], rfl⟩
                          ·
                            refine SeqK.on (q_fieldL _ rfl Fx.fl67_4 rfl rfl) rfl rfl rfl rfl rfl ?_
                            refine SeqK.rOn (b_load (r := .a _) rfl Fx.ty9 rfl rfl rfl rfl rfl rfl) rfl rfl rfl ?_
                            refine SeqK.on (q_fieldL _ rfl Fx.fl67_5 rfl rfl) rfl rfl rfl rfl rfl ?_
                            refine SeqK.rOn (b_load (r := .a _) rfl Fx.ty9 rfl rfl rfl rfl rfl rfl) rfl rfl rfl ?_
                            refine SeqK.on (q_gtrS rfl rfl rfl) rfl rfl rfl rfl rfl ?_
                            refine SeqK.q (q_pkF rfl rfl rfl) rfl rfl rfl ?_
                            refine SeqK.nil ?_
                            refine AW.cond _ rfl (fun h99 => ?_) (fun h99 => ?_)
                            ·
                              refine AW.seq ?_
                              refine AW.reg ?_
                              refine SeqK.q (q_asC rfl rfl) rfl rfl rfl ?_
                              refine SeqK.nil ?_
                              refine AW.ret ?_
                              exact fin_x (x := .c _) H (.tmp rfl .nil) rfl (fun _ _ h => h) ⟨by
                                have : bad1 b.ss[k] = true := by clear hpre; grind [bad1, texts]
                                rw [goodB_bad hkb this], rfl⟩
                            ·
                              refine AW.skip ?_
                              refine AW.reg ?_
                              refine SeqK.q (q_add _ rfl rfl rfl (w64 (by omega) (by omega))) rfl rfl rfl ?_
                              refine SeqK.q (q_mvC rfl rfl) rfl rfl rfl ?_
                              refine SeqK.nil ?_
                              exact ⟨k + 1, _, Wk.keep 101 [(1, .lp 1 0), (2, bX false), (21, .c (.a (.t (.sl z 6 (b.ss.map sdT))))), (22, iX .i64 ((b.ss.map sdT).length : Nat)), (23, iX .i64 (((k + 1) : Nat) : Int))] [(1, .box [.t (.v (.int .i64 b.tb)), .t (.sl z 6 (b.ss.map sdT))])] (H) rfl ⟨rfl, rfl, rfl, rfl, rfl, trivial⟩ ⟨rfl, trivial⟩ (fun _ _ h => h) rfl, by omega, ⟨by omega, fun j hj h9 => by
                                rcases Nat.lt_or_ge j k with h | h
                                · exact hpre j hj h
                                · obtain rfl : j = k := by omega
                                  clear hpre; grind [bad1, texts]⟩, rfl⟩
                      ·
                        refine SeqK.off rfl rfl rfl rfl rfl rfl ?_
                        refine SeqK.off rfl rfl rfl rfl rfl rfl ?_
                        refine SeqK.off rfl rfl rfl rfl rfl rfl ?_
                        refine SeqK.on (q_pkF rfl rfl rfl) rfl rfl rfl rfl rfl ?_
                        refine SeqK.q (q_pkF rfl rfl rfl) rfl rfl rfl ?_
                        refine SeqK.q (q_mvC rfl rfl) rfl rfl rfl ?_
                        refine SeqK.on (q_fieldL _ rfl Fx.fl67_2 rfl rfl) rfl rfl rfl rfl rfl ?_
                        refine SeqK.rOn (b_load (r := .a _) rfl Fx.ty2 rfl rfl rfl rfl rfl rfl) rfl rfl rfl ?_
                        refine SeqK.on (q_fieldL _ rfl Fx.fl67_3 rfl rfl) rfl rfl rfl rfl rfl ?_
                        refine SeqK.rOn (b_load (r := .a _) rfl Fx.ty2 rfl rfl rfl rfl rfl rfl) rfl rfl rfl ?_
                        refine SeqK.on (q_gtr rfl rfl rfl) rfl rfl rfl rfl rfl ?_
                        refine SeqK.q (q_pkF rfl rfl rfl) rfl rfl rfl ?_
                        refine SeqK.qD (q_mvC rfl rfl) rfl rfl rfl (fun g93 => ?_) (fun g93 => ?_)
                        ·
                          refine SeqK.off rfl rfl rfl rfl rfl rfl ?_
                          refine SeqK.off rfl rfl rfl rfl rfl rfl ?_
                          refine SeqK.off rfl rfl rfl rfl rfl rfl ?_
                          refine SeqK.off rfl rfl rfl rfl rfl rfl ?_
                          refine SeqK.off rfl rfl rfl rfl rfl rfl ?_
                          refine SeqK.q (q_pkT rfl rfl rfl) rfl rfl rfl ?_
                          refine SeqK.nil ?_
                          refine AW.condT rfl ?_
                          refine AW.seq ?_
                          refine AW.reg ?_
                          refine SeqK.q (q_asC rfl rfl) rfl rfl rfl ?_
                          refine SeqK.nil ?_
                          refine AW.ret ?_
                          exact fin_x (x := .c _) H (.tmp rfl .nil) rfl (fun _ _ h => h) ⟨by
                            have : bad1 b.ss[k] = true := by clear hpre; grind [bad1, texts]
                            rw [goodB_bad hkb this], rfl⟩
                        ·
                          refine SeqK.on (q_fieldL _ rfl Fx.fl67_4 rfl rfl) rfl rfl rfl rfl rfl ?_
                          refine SeqK.rOn (b_load (r := .a _) rfl Fx.ty9 rfl rfl rfl rfl rfl rfl) rfl rfl rfl ?_
                          refine SeqK.on (q_fieldL _ rfl Fx.fl67_5 rfl rfl) rfl rfl rfl rfl rfl ?_
                          refine SeqK.rOn (b_load (r := .a _) rfl Fx.ty9 rfl rfl rfl rfl rfl rfl) rfl rfl rfl ?_
                          refine SeqK.on (q_gtrS rfl rfl rfl) rfl rfl rfl rfl rfl ?_
                          refine SeqK.q (q_pkF rfl rfl rfl) rfl rfl rfl ?_
                          refine SeqK.nil ?_
                          refine AW.cond _ rfl (fun h99 => ?_) (fun h99 => ?_)
                          ·
                            refine AW.seq ?_
                            refine AW.reg ?_
                            refine SeqK.q (q_asC rfl rfl) rfl rfl rfl ?_
                            refine SeqK.nil ?_
                            refine AW.ret ?_
                            exact fin_x (x := .c _) H (.tmp rfl .nil) rfl (fun _ _ h => h) ⟨by
                              have : bad1 b.ss[k] = true := by clear hpre; grind [bad1, texts]
                              rw [goodB_bad hkb this], rfl⟩
                          ·
                            refine AW.skip ?_
                            refine AW.reg ?_
                            refine SeqK.q (q_add _ rfl rfl rfl (w64 (by omega) (by omega))) rfl rfl rfl ?_
                            refine SeqK.q (q_mvC rfl rfl) rfl rfl rfl ?_
                            refine SeqK.nil ?_
                            exact ⟨k + 1, _, Wk.keep 101 [(1, .lp 1 0), (2, bX false), (21, .c (.a (.t (.sl z 6 (b.ss.map sdT))))), (22, iX .i64 ((b.ss.map sdT).length : Nat)), (23, iX .i64 (((k + 1) : Nat) : Int))] [(1, .box [.t (.v (.int .i64 b.tb)), .t (.sl z 6 (b.ss.map sdT))])] (H) rfl ⟨rfl, rfl, rfl, rfl, rfl, trivial⟩ ⟨rfl, trivial⟩ (fun _ _ h => h) rfl, by omega, ⟨by omega, fun j hj h9 => by
                              rcases Nat.lt_or_ge j k with h | h
                              · exact hpre j hj h
                              · obtain rfl : j = k := by omega
                                clear hpre; grind [bad1, texts]⟩, rfl⟩
          ·
            refine SeqK.on (q_fieldL _ rfl Fx.fl67_5 rfl rfl) rfl rfl rfl rfl rfl ?_
            refine SeqK.rOn (b_load (r := .a _) rfl Fx.ty9 rfl rfl rfl rfl rfl rfl) rfl rfl rfl ?_
            refine SeqK.on (q_neqS rfl rfl rfl) rfl rfl rfl rfl rfl ?_
            refine SeqK.q (q_pkF rfl rfl rfl) rfl rfl rfl ?_
            refine SeqK.q (q_asC rfl rfl) rfl rfl rfl ?_
            refine SeqK.nil ?_
            refine AW.seq ?_
            refine AW.reg ?_
            refine SeqK.q (q_fieldL _ rfl Fx.fl67_4 rfl rfl) rfl rfl rfl ?_
            refine SeqK.r (b_load (r := .a _) rfl Fx.ty9 rfl rfl rfl rfl rfl rfl) rfl ?_
            refine SeqK.q (q_lenS rfl Fx.un9 rfl) rfl rfl rfl ?_
            refine SeqK.q (q_gtr rfl rfl rfl) rfl rfl rfl ?_
            refine SeqK.qD (q_mvC rfl rfl) rfl rfl rfl (fun g39 => ?_) (fun g39 => ?_)
            ·
              refine SeqK.off rfl rfl rfl rfl rfl rfl ?_
              refine SeqK.off rfl rfl rfl rfl rfl rfl ?_
              refine SeqK.off rfl rfl rfl rfl rfl rfl ?_
              refine SeqK.off rfl rfl rfl rfl rfl rfl ?_
              refine SeqK.q (q_pkT rfl rfl rfl) rfl rfl rfl ?_
              refine SeqK.q (q_mvC rfl rfl) rfl rfl rfl ?_
              refine SeqK.off rfl rfl rfl rfl rfl rfl ?_
              refine SeqK.off rfl rfl rfl rfl rfl rfl ?_
              refine SeqK.offU rfl rfl rfl rfl rfl ?_
              refine SeqK.offU rfl rfl rfl rfl rfl ?_
              refine SeqK.offU rfl rfl rfl rfl rfl ?_
              refine SeqK.offU rfl rfl rfl rfl rfl ?_
              refine SeqK.offU rfl rfl rfl rfl rfl ?_
              refine SeqK.offU rfl rfl rfl rfl rfl ?_
              refine SeqK.offU rfl rfl rfl rfl rfl ?_
              refine SeqK.offU rfl rfl rfl rfl rfl ?_
              refine SeqK.off rfl rfl rfl rfl rfl rfl ?_
              refine SeqK.q (q_pkT rfl rfl rfl) rfl rfl rfl ?_
              refine SeqK.q (q_mvC rfl rfl) rfl rfl rfl ?_
              refine SeqK.off rfl rfl rfl rfl rfl rfl ?_
              refine SeqK.off rfl rfl rfl rfl rfl rfl ?_
              refine SeqK.off rfl rfl rfl rfl rfl rfl ?_
              refine SeqK.off rfl rfl rfl rfl rfl rfl ?_
              refine SeqK.offU rfl rfl rfl rfl rfl ?_
              refine SeqK.offU rfl rfl rfl rfl rfl ?_
              refine SeqK.offU rfl rfl rfl rfl rfl ?_
              refine SeqK.offU rfl rfl rfl rfl rfl ?_
              refine SeqK.offU rfl rfl rfl rfl rfl ?_
              refine SeqK.offU rfl rfl rfl rfl rfl ?_
              refine SeqK.offU rfl rfl rfl rfl rfl ?_
              refine SeqK.offU rfl rfl rfl rfl rfl ?_
              refine SeqK.offU rfl rfl rfl rfl rfl ?_
              refine SeqK.offU rfl rfl rfl rfl rfl ?_
              refine SeqK.offU rfl rfl rfl rfl rfl ?_
              refine SeqK.off rfl rfl rfl rfl rfl rfl ?_
              refine SeqK.q (q_pkT rfl rfl rfl) rfl rfl rfl ?_
              refine SeqK.q (q_mvC rfl rfl) rfl rfl rfl ?_
              refine SeqK.off rfl rfl rfl rfl rfl rfl ?_
              refine SeqK.off rfl rfl rfl rfl rfl rfl ?_
              refine SeqK.off rfl rfl rfl rfl rfl rfl ?_
              refine SeqK.off rfl rfl rfl rfl rfl rfl ?_
              refine SeqK.offU rfl rfl rfl rfl rfl ?_
              refine SeqK.offU rfl rfl rfl rfl rfl ?_
              refine SeqK.offU rfl rfl rfl rfl rfl ?_
              refine SeqK.off rfl rfl rfl rfl rfl rfl ?_
              refine SeqK.q (q_pkT rfl rfl rfl) rfl rfl rfl ?_
              refine SeqK.q (q_mvC rfl rfl) rfl rfl rfl ?_
              refine SeqK.off rfl rfl rfl rfl rfl rfl ?_
              refine SeqK.off rfl rfl rfl rfl rfl rfl ?_
              refine SeqK.off rfl rfl rfl rfl rfl rfl ?_
              refine SeqK.off rfl rfl rfl rfl rfl rfl ?_
              refine SeqK.off rfl rfl rfl rfl rfl rfl ?_
              refine SeqK.q (q_pkT rfl rfl rfl) rfl rfl rfl ?_
              refine SeqK.q (q_mvC rfl rfl) rfl rfl rfl ?_
              refine SeqK.off rfl rfl rfl rfl rfl rfl ?_
              refine SeqK.off rfl rfl rfl rfl rfl rfl ?_
              refine SeqK.off rfl rfl rfl rfl rfl rfl ?_
              refine SeqK.off rfl rfl rfl rfl rfl rfl ?_
              refine SeqK.off rfl rfl rfl rfl rfl rfl ?_
              refine SeqK.q (q_pkT rfl rfl rfl) rfl rfl rfl ?_
              refine SeqK.nil ?_
              refine AW.condT rfl ?_
              refine AW.seq ?_
              refine AW.reg ?_
              refine SeqK.q (q_asC rfl rfl) rfl rfl rfl ?_
              refine SeqK.nil ?_
              refine AW.ret ?_
              exact fin_x (x := .c _) H (.tmp rfl .nil) rfl (fun _ _ h => h) ⟨by
                have : bad1 b.ss[k] = true := by clear hpre; grind [bad1, texts]
                rw [goodB_bad hkb this], rfl⟩
            ·
              refine SeqK.on (q_fieldL _ rfl Fx.fl67_5 rfl rfl) rfl rfl rfl rfl rfl ?_
              refine SeqK.rOn (b_load (r := .a _) rfl Fx.ty9 rfl rfl rfl rfl rfl rfl) rfl rfl rfl ?_
              refine SeqK.on (q_lenS rfl Fx.un9 rfl) rfl rfl rfl rfl rfl ?_
              refine SeqK.on (q_gtr rfl rfl rfl) rfl rfl rfl rfl rfl ?_
              refine SeqK.q (q_pkF rfl rfl rfl) rfl rfl rfl ?_
              refine SeqK.qD (q_mvC rfl rfl) rfl rfl rfl (fun g45 => ?_) (fun g45 => ?_)
              ·
                refine SeqK.off rfl rfl rfl rfl rfl rfl ?_
                refine SeqK.off rfl rfl rfl rfl rfl rfl ?_
                refine SeqK.offU rfl rfl rfl rfl rfl ?_
                refine SeqK.offU rfl rfl rfl rfl rfl ?_
                refine SeqK.offU rfl rfl rfl rfl rfl ?_
                refine SeqK.offU rfl rfl rfl rfl rfl ?_
                refine SeqK.offU rfl rfl rfl rfl rfl ?_
                refine SeqK.offU rfl rfl rfl rfl rfl ?_
                refine SeqK.offU rfl rfl rfl rfl rfl ?_
                refine SeqK.offU rfl rfl rfl rfl rfl ?_
                refine SeqK.off rfl rfl rfl rfl rfl rfl ?_
                refine SeqK.q (q_pkT rfl rfl rfl) rfl rfl rfl ?_
                refine SeqK.q (q_mvC rfl rfl) rfl rfl rfl ?_
                refine SeqK.off rfl rfl rfl rfl rfl rfl ?_
                refine SeqK.off rfl rfl rfl rfl rfl rfl ?_
                refine SeqK.off rfl rfl rfl rfl rfl rfl ?_
                refine SeqK.off rfl rfl rfl rfl rfl rfl ?_
                refine SeqK.offU rfl rfl rfl rfl rfl ?_
                refine SeqK.offU rfl rfl rfl rfl rfl ?_
                refine SeqK.offU rfl rfl rfl rfl rfl ?_
                refine SeqK.offU rfl rfl rfl rfl rfl ?_
                refine SeqK.offU rfl rfl rfl rfl rfl ?_
                refine SeqK.offU rfl rfl rfl rfl rfl ?_
                refine SeqK.offU rfl rfl rfl rfl rfl ?_
                refine SeqK.offU rfl rfl rfl rfl rfl ?_
                refine SeqK.offU rfl rfl rfl rfl rfl ?_
                refine SeqK.offU rfl rfl rfl rfl rfl ?_
                refine SeqK.offU rfl rfl rfl rfl rfl ?_
                refine SeqK.off rfl rfl rfl rfl rfl rfl ?_
                refine SeqK.q (q_pkT rfl rfl rfl) rfl rfl rfl ?_
                refine SeqK.q (q_mvC rfl rfl) rfl rfl rfl ?_
                refine SeqK.off rfl rfl rfl rfl rfl rfl ?_
                refine SeqK.off rfl rfl rfl rfl rfl rfl ?_
                refine SeqK.off rfl rfl rfl rfl rfl rfl ?_
                refine SeqK.off rfl rfl rfl rfl rfl rfl ?_
                refine SeqK.offU rfl rfl rfl rfl rfl ?_
                refine SeqK.offU rfl rfl rfl rfl rfl ?_
                refine SeqK.offU rfl rfl rfl rfl rfl ?_
                refine SeqK.off rfl rfl rfl rfl rfl rfl ?_
                refine SeqK.q (q_pkT rfl rfl rfl) rfl rfl rfl ?_
                refine SeqK.q (q_mvC rfl rfl) rfl rfl rfl ?_
                refine SeqK.off rfl rfl rfl rfl rfl rfl ?_
                refine SeqK.off rfl rfl rfl rfl rfl rfl ?_
                refine SeqK.off rfl rfl rfl rfl rfl rfl ?_
                refine SeqK.off rfl rfl rfl rfl rfl rfl ?_
                refine SeqK.off rfl rfl rfl rfl rfl rfl ?_
                refine SeqK.q (q_pkT rfl rfl rfl) rfl rfl rfl ?_
                refine SeqK.q (q_mvC rfl rfl) rfl rfl rfl ?_
                refine SeqK.off rfl rfl rfl rfl rfl rfl ?_
                refine SeqK.off rfl rfl rfl rfl rfl rfl ?_
                refine SeqK.off rfl rfl rfl rfl rfl rfl ?_
                refine SeqK.off rfl rfl rfl rfl rfl rfl ?_
                refine SeqK.off rfl rfl rfl rfl rfl rfl ?_
                refine SeqK.q (q_pkT rfl rfl rfl) rfl rfl rfl ?_
                refine SeqK.nil ?_
                refine AW.condT rfl ?_
                refine AW.seq ?_
                refine AW.reg ?_
                refine SeqK.q (q_asC rfl rfl) rfl rfl rfl ?_
                refine SeqK.nil ?_
                refine AW.ret ?_
                exact fin_x (x := .c _) H (.tmp rfl .nil) rfl (fun _ _ h => h) ⟨by
                  have : bad1 b.ss[k] = true := by clear hpre; grind [bad1, texts]
                  rw [goodB_bad hkb this], rfl⟩
              ·
                refine SeqK.on (q_mvC rfl rfl) rfl rfl rfl rfl rfl ?_
                refine SeqK.onD (q_mvC rfl rfl) rfl rfl rfl rfl rfl (fun g47 => ?_) (fun g47 => ?_)
                ·
                  refine SeqK.on (q_fieldL _ rfl Fx.fl67_2 rfl rfl) rfl rfl rfl rfl rfl ?_
                  refine SeqK.rOn (b_load (r := .a _) rfl Fx.ty2 rfl rfl rfl rfl rfl rfl) rfl rfl rfl ?_
                  refine SeqK.on (q_neq rfl rfl rfl) rfl rfl rfl rfl rfl ?_
                  refine SeqK.onD (q_mvC rfl rfl) rfl rfl rfl rfl rfl (fun g51 => ?_) (fun g51 => ?_)
                  ·
                    refine SeqK.off rfl rfl rfl rfl rfl rfl ?_
                    refine SeqK.off rfl rfl rfl rfl rfl rfl ?_
                    refine SeqK.off rfl rfl rfl rfl rfl rfl ?_
                    refine SeqK.on (q_pkT rfl rfl rfl) rfl rfl rfl rfl rfl ?_
                    refine SeqK.on (q_pkT rfl rfl rfl) rfl rfl rfl rfl rfl ?_
                    refine SeqK.q (q_pkF rfl rfl rfl) rfl rfl rfl ?_
                    refine SeqK.q (q_mvC rfl rfl) rfl rfl rfl ?_
                    refine SeqK.off rfl rfl rfl rfl rfl rfl ?_
                    refine SeqK.off rfl rfl rfl rfl rfl rfl ?_
                    refine SeqK.off rfl rfl rfl rfl rfl rfl ?_
                    refine SeqK.off rfl rfl rfl rfl rfl rfl ?_
                    refine SeqK.offU rfl rfl rfl rfl rfl ?_
                    refine SeqK.offU rfl rfl rfl rfl rfl ?_
                    refine SeqK.offU rfl rfl rfl rfl rfl ?_
                    refine SeqK.offU rfl rfl rfl rfl rfl ?_
                    refine SeqK.offU rfl rfl rfl rfl rfl ?_
                    refine SeqK.offU rfl rfl rfl rfl rfl ?_
                    refine SeqK.offU rfl rfl rfl rfl rfl ?_
                    refine SeqK.offU rfl rfl rfl rfl rfl ?_
                    refine SeqK.offU rfl rfl rfl rfl rfl ?_
                    refine SeqK.offU rfl rfl rfl rfl rfl ?_
                    refine SeqK.offU rfl rfl rfl rfl rfl ?_
                    refine SeqK.off rfl rfl rfl rfl rfl rfl ?_
                    refine SeqK.q (q_pkT rfl rfl rfl) rfl rfl rfl ?_
                    refine SeqK.q (q_mvC rfl rfl) rfl rfl rfl ?_
                    refine SeqK.off rfl rfl rfl rfl rfl rfl ?_
                    refine SeqK.off rfl rfl rfl rfl rfl rfl ?_
                    refine SeqK.off rfl rfl rfl rfl rfl rfl ?_
                    refine SeqK.off rfl rfl rfl rfl rfl rfl ?_
                    refine SeqK.offU rfl rfl rfl rfl rfl ?_
                    refine SeqK.offU rfl rfl rfl rfl rfl ?_
                    refine SeqK.offU rfl rfl rfl rfl rfl ?_
                    refine SeqK.off rfl rfl rfl rfl rfl rfl ?_
                    refine SeqK.q (q_pkT rfl rfl rfl) rfl rfl rfl ?_
                    refine SeqK.q (q_mvC rfl rfl) rfl rfl rfl ?_
                    refine SeqK.off rfl rfl rfl rfl rfl rfl ?_
                    refine SeqK.off rfl rfl rfl rfl rfl rfl ?_
                    refine SeqK.off rfl rfl rfl rfl rfl rfl ?_
                    refine SeqK.off rfl rfl rfl rfl rfl rfl ?_
                    refine SeqK.off rfl rfl rfl rfl rfl rfl ?_
                    refine SeqK.q (q_pkT rfl rfl rfl) rfl rfl rfl ?_
                    refine SeqK.q (q_mvC rfl rfl) rfl rfl rfl ?_
                    refine SeqK.off rfl rfl rfl rfl rfl rfl ?_
                    refine SeqK.off rfl rfl rfl rfl rfl rfl ?_
                    refine SeqK.off rfl rfl rfl rfl rfl rfl ?_
                    refine SeqK.off rfl rfl rfl rfl rfl rfl ?_
                    refine SeqK.off rfl rfl rfl rfl rfl rfl ?_
                    refine SeqK.q (q_pkT rfl rfl rfl) rfl rfl rfl ?_
                    refine SeqK.nil ?_
                    refine AW.condT rfl ?_
                    refine AW.seq ?_
                    refine AW.reg ?_
                    refine SeqK.q (q_asC rfl rfl) rfl rfl rfl ?_
                    refine SeqK.nil ?_
                    refine AW.ret ?_
                    exact fin_x (x := .c _) H (.tmp rfl .nil) rfl (fun _ _ h => h) ⟨by
                      have : bad1 b.ss[k] = true := by clear hpre; grind [bad1, texts]
                      rw [goodB_bad hkb this], rfl⟩
                  ·
                    refine SeqK.on (q_fieldL _ rfl Fx.fl67_3 rfl rfl) rfl rfl rfl rfl rfl ?_
                    refine SeqK.rOn (b_load (r := .a _) rfl Fx.ty2 rfl rfl rfl rfl rfl rfl) rfl rfl rfl ?_
                    refine SeqK.on (q_neq rfl rfl rfl) rfl rfl rfl rfl rfl ?_
                    refine SeqK.on (q_pkF rfl rfl rfl) rfl rfl rfl rfl rfl ?_
                    refine SeqK.on (q_pkT rfl rfl rfl) rfl rfl rfl rfl rfl ?_
                    refine SeqK.q (q_pkF rfl rfl rfl) rfl rfl rfl ?_
                    refine SeqK.qD (q_mvC rfl rfl) rfl rfl rfl (fun g58 => ?_) (fun g58 => ?_)
                    ·
                      refine SeqK.off rfl rfl rfl rfl rfl rfl ?_
                      refine SeqK.off rfl rfl rfl rfl rfl rfl ?_
                      refine SeqK.off rfl rfl rfl rfl rfl rfl ?_
                      refine SeqK.off rfl rfl rfl rfl rfl rfl ?_
                      refine SeqK.offU rfl rfl rfl rfl rfl ?_
                      refine SeqK.offU rfl rfl rfl rfl rfl ?_
                      refine SeqK.offU rfl rfl rfl rfl rfl ?_
                      refine SeqK.offU rfl rfl rfl rfl rfl ?_
                      refine SeqK.offU rfl rfl rfl rfl rfl ?_
                      refine SeqK.offU rfl rfl rfl rfl rfl ?_
                      refine SeqK.offU rfl rfl rfl rfl rfl ?_
                      refine SeqK.offU rfl rfl rfl rfl rfl ?_
                      refine SeqK.offU rfl rfl rfl rfl rfl ?_
                      refine SeqK.offU rfl rfl rfl rfl rfl ?_
                      refine SeqK.offU rfl rfl rfl rfl rfl ?_
                      refine SeqK.off rfl rfl rfl rfl rfl rfl ?_
                      refine SeqK.q (q_pkT rfl rfl rfl) rfl rfl rfl ?_
                      refine SeqK.q (q_mvC rfl rfl) rfl rfl rfl ?_
                      refine SeqK.off rfl rfl rfl rfl rfl rfl ?_
                      refine SeqK.off rfl rfl rfl rfl rfl rfl ?_
                      refine SeqK.off rfl rfl rfl rfl rfl rfl ?_
                      refine SeqK.off rfl rfl rfl rfl rfl rfl ?_
                      refine SeqK.offU rfl rfl rfl rfl rfl ?_
                      refine SeqK.offU rfl rfl rfl rfl rfl ?_
                      refine SeqK.offU rfl rfl rfl rfl rfl ?_
                      refine SeqK.off rfl rfl rfl rfl rfl rfl ?_
                      refine SeqK.q (q_pkT rfl rfl rfl) rfl rfl rfl ?_
                      refine SeqK.q (q_mvC rfl rfl) rfl rfl rfl ?_
                      refine SeqK.off rfl rfl rfl rfl rfl rfl ?_
                      refine SeqK.off rfl rfl rfl rfl rfl rfl ?_
                      refine SeqK.off rfl rfl rfl rfl rfl rfl ?_
                      refine SeqK.off rfl rfl rfl rfl rfl rfl ?_
                      refine SeqK.off rfl rfl rfl rfl rfl rfl ?_
                      refine SeqK.q (q_pkT rfl rfl rfl) rfl rfl rfl ?_
                      refine SeqK.q (q_mvC rfl rfl) rfl rfl rfl ?_
                      refine SeqK.off rfl rfl rfl rfl rfl rfl ?_
                      refine SeqK.off rfl rfl rfl rfl rfl rfl ?_
                      refine SeqK.off rfl rfl rfl rfl rfl rfl ?_
                      refine SeqK.off rfl rfl rfl rfl rfl rfl ?_
                      refine SeqK.off rfl rfl rfl rfl rfl rfl ?_
                      refine SeqK.q (q_pkT rfl rfl rfl) rfl rfl rfl ?_
                      refine SeqK.nil ?_
                      refine AW.condT rfl ?_
                      refine AW.seq ?_
                      refine AW.reg ?_
                      refine SeqK.q (q_asC rfl rfl) rfl rfl rfl ?_
                      refine SeqK.nil ?_
                      refine AW.ret ?_
                      exact fin_x (x := .c _) H (.tmp rfl .nil) rfl (fun _ _ h => h) ⟨by
                        have : bad1 b.ss[k] = true := by clear hpre; grind [bad1, texts]
                        rw [goodB_bad hkb this], rfl⟩
                    ·
                      refine SeqK.on (q_fieldL _ rfl Fx.fl67_1 rfl rfl) rfl rfl rfl rfl rfl ?_
                      refine SeqK.rOn (b_load (r := .a _) rfl Fx.ty4 rfl rfl rfl rfl rfl rfl) rfl rfl rfl ?_
                      refine SeqK.on (q_not rfl rfl) rfl rfl rfl rfl rfl ?_
                      refine SeqK.onB (q_mvC rfl rfl) rfl rfl rfl rfl rfl (fun g62 => ?_) (fun g62 => ?_)
                      ·
                        refine SeqK.on (q_mvC rfl rfl) rfl rfl rfl rfl rfl ?_
                        refine SeqK.onD (q_mvC rfl rfl) rfl rfl rfl rfl rfl (fun g64 => ?_) (fun g64 => ?_)
                        ·
                          refine SeqK.off rfl rfl rfl rfl rfl rfl ?_
                          refine SeqK.off rfl rfl rfl rfl rfl rfl ?_
                          refine SeqK.off rfl rfl rfl rfl rfl rfl ?_
                          refine SeqK.on (q_pkT rfl rfl rfl) rfl rfl rfl rfl rfl ?_
                          refine SeqK.on (q_mvC rfl rfl) rfl rfl rfl rfl rfl ?_
                          refine SeqK.off rfl rfl rfl rfl rfl rfl ?_
                          refine SeqK.off rfl rfl rfl rfl rfl rfl ?_
                          refine SeqK.off rfl rfl rfl rfl rfl rfl ?_
                          refine SeqK.on (q_pkT rfl rfl rfl) rfl rfl rfl rfl rfl ?_
                          refine SeqK.on (q_pkT rfl rfl rfl) rfl rfl rfl rfl rfl ?_
                          refine SeqK.q (q_pkF rfl rfl rfl) rfl rfl rfl ?_
                          refine SeqK.q (q_mvC rfl rfl) rfl rfl rfl ?_
                          refine SeqK.off rfl rfl rfl rfl rfl rfl ?_
                          refine SeqK.off rfl rfl rfl rfl rfl rfl ?_
                          refine SeqK.off rfl rfl rfl rfl rfl rfl ?_
                          refine SeqK.off rfl rfl rfl rfl rfl rfl ?_
                          refine SeqK.offU rfl rfl rfl rfl rfl ?_
                          refine SeqK.offU rfl rfl rfl rfl rfl ?_
                          refine SeqK.offU rfl rfl rfl rfl rfl ?_
                          refine SeqK.off rfl rfl rfl rfl rfl rfl ?_
                          refine SeqK.q (q_pkT rfl rfl rfl) rfl rfl rfl ?_
                          refine SeqK.q (q_mvC rfl rfl) rfl rfl rfl ?_
                          refine SeqK.off rfl rfl rfl rfl rfl rfl ?_
                          refine SeqK.off rfl rfl rfl rfl rfl rfl ?_
                          refine SeqK.off rfl rfl rfl rfl rfl rfl ?_
                          refine SeqK.off rfl rfl rfl rfl rfl rfl ?_
                          refine SeqK.off rfl rfl rfl rfl rfl rfl ?_
                          refine SeqK.q (q_pkT rfl rfl rfl) rfl rfl rfl ?_
                          refine SeqK.q (q_mvC rfl rfl) rfl rfl rfl ?_
                          refine SeqK.off rfl rfl rfl rfl rfl rfl ?_
                          refine SeqK.off rfl rfl rfl rfl rfl rfl ?_
                          refine SeqK.off rfl rfl rfl rfl rfl rfl ?_
                          refine SeqK.off rfl rfl rfl rfl rfl rfl ?_
                          refine SeqK.off rfl rfl rfl rfl rfl rfl ?_
                          refine SeqK.q (q_pkT rfl rfl rfl) rfl rfl rfl ?_
                          refine SeqK.nil ?_
                          refine AW.condT rfl ?_
                          refine AW.seq ?_
                          refine AW.reg ?_
                          refine SeqK.q (q_asC rfl rfl) rfl rfl rfl ?_
                          refine SeqK.nil ?_
                          refine AW.ret ?_
                          exact fin_x (x := .c _) H (.tmp rfl .nil) rfl (fun _ _ h => h) ⟨by
                            have : bad1 b.ss[k] = true := by clear hpre; grind [bad1, texts]
                            rw [goodB_bad hkb this], rfl⟩
                        ·
                          refine SeqK.on (q_fieldL _ rfl Fx.fl67_2 rfl rfl) rfl rfl rfl rfl rfl ?_
                          refine SeqK.rOn (b_load (r := .a _) rfl Fx.ty2 rfl rfl rfl rfl rfl rfl) rfl rfl rfl ?_
                          refine SeqK.on (q_neq rfl rfl rfl) rfl rfl rfl rfl rfl ?_
                          refine SeqK.on (q_pkF rfl rfl rfl) rfl rfl rfl rfl rfl ?_
                          refine SeqK.onD (q_mvC rfl rfl) rfl rfl rfl rfl rfl (fun g69 => ?_) (fun g69 => ?_)
                          ·
                            refine SeqK.off rfl rfl rfl rfl rfl rfl ?_
                            refine SeqK.off rfl rfl rfl rfl rfl rfl ?_
                            refine SeqK.off rfl rfl rfl rfl rfl rfl ?_
                            refine SeqK.on (q_pkT rfl rfl rfl) rfl rfl rfl rfl rfl ?_
                            refine SeqK.on (q_pkT rfl rfl rfl) rfl rfl rfl rfl rfl ?_
                            refine SeqK.q (q_pkF rfl rfl rfl) rfl rfl rfl ?_
                            refine SeqK.q (q_mvC rfl rfl) rfl rfl rfl ?_
                            refine SeqK.off rfl rfl rfl rfl rfl rfl ?_
                            refine SeqK.off rfl rfl rfl rfl rfl rfl ?_
                            refine SeqK.off rfl rfl rfl rfl rfl rfl ?_
                            refine SeqK.off rfl rfl rfl rfl rfl rfl ?_
                            refine SeqK.offU rfl rfl rfl rfl rfl ?_
                            refine SeqK.offU rfl rfl rfl rfl rfl ?_
                            refine SeqK.offU rfl rfl rfl rfl rfl ?_
                            refine SeqK.off rfl rfl rfl rfl rfl rfl ?_
                            refine SeqK.q (q_pkT rfl rfl rfl) rfl rfl rfl ?_
                            refine SeqK.q (q_mvC rfl rfl) rfl rfl rfl ?_
                            refine SeqK.off rfl rfl rfl rfl rfl rfl ?_
                            refine SeqK.off rfl rfl rfl rfl rfl rfl ?_
                            refine SeqK.off rfl rfl rfl rfl rfl rfl ?_
                            refine SeqK.off rfl rfl rfl rfl rfl rfl ?_
                            refine SeqK.off rfl rfl rfl rfl rfl rfl ?_
                            refine SeqK.q (q_pkT rfl rfl rfl) rfl rfl rfl ?_
                            refine SeqK.q (q_mvC rfl rfl) rfl rfl rfl ?_
                            refine SeqK.off rfl rfl rfl rfl rfl rfl ?_
                            refine SeqK.off rfl rfl rfl rfl rfl rfl ?_
                            refine SeqK.off rfl rfl rfl rfl rfl rfl ?_
                            refine SeqK.off rfl rfl rfl rfl rfl rfl ?_
                            refine SeqK.off rfl rfl rfl rfl rfl rfl ?_
                            refine SeqK.q (q_pkT rfl rfl rfl) rfl rfl rfl ?_
                            refine SeqK.nil ?_
                            refine AW.condT rfl ?_
                            refine AW.seq ?_
                            refine AW.reg ?_
                            refine SeqK.q (q_asC rfl rfl) rfl rfl rfl ?_
                            refine SeqK.nil ?_
                            refine AW.ret ?_
                            exact fin_x (x := .c _) H (.tmp rfl .nil) rfl (fun _ _ h => h) ⟨by
                              have : bad1 b.ss[k] = true := by clear hpre; grind [bad1, texts]
                              rw [goodB_bad hkb this], rfl⟩
                          ·
                            refine SeqK.on (q_fieldL _ rfl Fx.fl67_3 rfl rfl) rfl rfl rfl rfl rfl ?_
                            refine SeqK.rOn (b_load (r := .a _) rfl Fx.ty2 rfl rfl rfl rfl rfl rfl) rfl rfl rfl ?_
                            refine SeqK.on (q_neq rfl rfl rfl) rfl rfl rfl rfl rfl ?_
                            refine SeqK.on (q_pkF rfl rfl rfl) rfl rfl rfl rfl rfl ?_
                            refine SeqK.on (q_pkT rfl rfl rfl) rfl rfl rfl rfl rfl ?_
                            refine SeqK.q (q_pkF rfl rfl rfl) rfl rfl rfl ?_
                            refine SeqK.qD (q_mvC rfl rfl) rfl rfl rfl (fun g76 => ?_) (fun g76 => ?_)
                            ·
                              refine SeqK.off rfl rfl rfl rfl rfl rfl ?_
                              refine SeqK.off rfl rfl rfl rfl rfl rfl ?_
                              refine SeqK.off rfl rfl rfl rfl rfl rfl ?_
                              refine SeqK.off rfl rfl rfl rfl rfl rfl ?_
                              refine SeqK.offU rfl rfl rfl rfl rfl ?_
                              refine SeqK.offU rfl rfl rfl rfl rfl ?_
                              refine SeqK.offU rfl rfl rfl rfl rfl ?_
                              refine SeqK.off rfl rfl rfl rfl rfl rfl ?_
                              refine SeqK.q (q_pkT rfl rfl rfl) rfl rfl rfl ?_
                              refine SeqK.q (q_mvC rfl rfl) rfl rfl rfl ?_
                              refine SeqK.off rfl rfl rfl rfl rfl rfl ?_
                              refine SeqK.off rfl rfl rfl rfl rfl rfl ?_
                              refine SeqK.off rfl rfl rfl rfl rfl rfl ?_
                              refine SeqK.off rfl rfl rfl rfl rfl rfl ?_
                              refine SeqK.off rfl rfl rfl rfl rfl rfl ?_
                              refine SeqK.q (q_pkT rfl rfl rfl) rfl rfl rfl ?_
                              refine SeqK.q (q_mvC rfl rfl) rfl rfl rfl ?_
                              refine SeqK.off rfl rfl rfl rfl rfl rfl ?_
                              refine SeqK.off rfl rfl rfl rfl rfl rfl ?_
                              refine SeqK.off rfl rfl rfl rfl rfl rfl ?_
                              refine SeqK.off rfl rfl rfl rfl rfl rfl ?_
                              refine SeqK.off rfl rfl rfl rfl rfl rfl ?_
                              refine SeqK.q (q_pkT rfl rfl rfl) rfl rfl rfl ?_
                              refine SeqK.nil ?_
                              refine AW.condT rfl ?_
                              refine AW.seq ?_
                              refine AW.reg ?_
                              refine SeqK.q (q_asC rfl rfl) rfl rfl rfl ?_
                              refine SeqK.nil ?_
                              refine AW.ret ?_
                              exact fin_x (x := .c _) H (.tmp rfl .nil) rfl (fun _ _ h => h) ⟨by
                                have : bad1 b.ss[k] = true := by clear hpre; grind [bad1, texts]
                                rw [goodB_bad hkb this], rfl⟩
                            ·
                              refine SeqK.on (q_fieldL _ rfl Fx.fl67_0 rfl rfl) rfl rfl rfl rfl rfl ?_
                              refine SeqK.rOn (b_load (r := .a _) rfl Fx.ty4 rfl rfl rfl rfl rfl rfl) rfl rfl rfl ?_
                              refine SeqK.on (q_not rfl rfl) rfl rfl rfl rfl rfl ?_
                              refine SeqK.onB (q_mvC rfl rfl) rfl rfl rfl rfl rfl (fun g80 => ?_) (fun g80 => ?_)
                              ·
                                refine SeqK.on (q_fieldL _ rfl Fx.fl67_1 rfl rfl) rfl rfl rfl rfl rfl ?_
                                refine SeqK.rOn (b_load (r := .a _) rfl Fx.ty4 rfl rfl rfl rfl rfl rfl) rfl rfl rfl ?_
                                refine SeqK.on (q_not rfl rfl) rfl rfl rfl rfl rfl ?_
                                refine SeqK.on (q_pkT rfl rfl rfl) rfl rfl rfl rfl rfl ?_
                                refine SeqK.q (q_pkF rfl rfl rfl) rfl rfl rfl ?_
                                refine SeqK.qB (q_mvC rfl rfl) rfl rfl rfl (fun g86 => ?_) (fun g86 => ?_)
                                ·
                                  refine SeqK.off rfl rfl rfl rfl rfl rfl ?_
                                  refine SeqK.off rfl rfl rfl rfl rfl rfl ?_
                                  refine SeqK.off rfl rfl rfl rfl rfl rfl ?_
                                  refine SeqK.off rfl rfl rfl rfl rfl rfl ?_
                                  refine SeqK.off rfl rfl rfl rfl rfl rfl ?_
                                  refine SeqK.q (q_pkT rfl rfl rfl) rfl rfl rfl ?_
                                  refine SeqK.q (q_mvC rfl rfl) rfl rfl rfl ?_
                                  refine SeqK.off rfl rfl rfl rfl rfl rfl ?_
                                  refine SeqK.off rfl rfl rfl rfl rfl rfl ?_
                                  refine SeqK.off rfl rfl rfl rfl rfl rfl ?_
                                  refine SeqK.off rfl rfl rfl rfl rfl rfl ?_
                                  refine SeqK.off rfl rfl rfl rfl rfl rfl ?_
                                  refine SeqK.q (q_pkT rfl rfl rfl) rfl rfl rfl ?_
                                  refine SeqK.nil ?_
                                  refine AW.condT rfl ?_
                                  refine AW.seq ?_
                                  refine AW.reg ?_
                                  refine SeqK.q (q_asC rfl rfl) rfl rfl rfl ?_
                                  refine SeqK.nil ?_
                                  refine AW.ret ?_
                                  exact fin_x (x := .c _) H (.tmp rfl .nil) rfl (fun _ _ h => h) ⟨by
                                    have : bad1 b.ss[k] = true := by clear hpre; grind [bad1, texts]
                                    rw [goodB_bad hkb this], rfl⟩
                                ·
                                  refine SeqK.on (q_fieldL _ rfl Fx.fl67_2 rfl rfl) rfl rfl rfl rfl rfl ?_
                                  refine SeqK.rOn (b_load (r := .a _) rfl Fx.ty2 rfl rfl rfl rfl rfl rfl) rfl rfl rfl ?_
                                  refine SeqK.on (q_fieldL _ rfl Fx.fl67_3 rfl rfl) rfl rfl rfl rfl rfl ?_
                                  refine SeqK.rOn (b_load (r := .a _) rfl Fx.ty2 rfl rfl rfl rfl rfl rfl) rfl rfl rfl ?_
                                  refine SeqK.on (q_gtr rfl rfl rfl) rfl rfl rfl rfl rfl ?_
                                  refine SeqK.q (q_pkF rfl rfl rfl) rfl rfl rfl ?_
                                  refine SeqK.qD (q_mvC rfl rfl) rfl rfl rfl (fun g93 => ?_) (fun g93 => ?_)
                                  ·
                                    refine SeqK.off rfl rfl rfl rfl rfl rfl ?_
                                    refine SeqK.off rfl rfl rfl rfl rfl rfl ?_
                                    refine SeqK.off rfl rfl rfl rfl rfl rfl ?_
                                    refine SeqK.off rfl rfl rfl rfl rfl rfl ?_
                                    refine SeqK.off rfl rfl rfl rfl rfl rfl ?_
                                    refine SeqK.q (q_pkT rfl rfl rfl) rfl rfl rfl ?_
                                    refine SeqK.nil ?_
                                    refine AW.condT rfl ?_
                                    refine AW.seq ?_
                                    refine AW.reg ?_
                                    refine SeqK.q (q_asC rfl rfl) rfl rfl rfl ?_
                                    refine SeqK.nil ?_
                                    refine AW.ret ?_
                                    exact fin_x (x := .c _) H (.tmp rfl .nil) rfl (fun _ _ h => h) ⟨by
                                      have : bad1 b.ss[k] = true := by clear hpre; grind [bad1, texts]
                                      rw [goodB_bad hkb this], rfl⟩
                                  ·
                                    refine SeqK.on (q_fieldL _ rfl Fx.fl67_4 rfl rfl) rfl rfl rfl rfl rfl ?_
                                    refine SeqK.rOn (b_load (r := .a _) rfl Fx.ty9 rfl rfl rfl rfl rfl rfl) rfl rfl rfl ?_
                                    refine SeqK.on (q_fieldL _ rfl Fx.fl67_5 rfl rfl) rfl rfl rfl rfl rfl ?_
                                    refine SeqK.rOn (b_load (r := .a _) rfl Fx.ty9 rfl rfl rfl rfl rfl rfl) rfl rfl rfl ?_
                                    refine SeqK.on (q_gtrS rfl rfl rfl) rfl rfl rfl rfl rfl ?_
                                    refine SeqK.q (q_pkF rfl rfl rfl) rfl rfl rfl ?_
                                    refine SeqK.nil ?_
                                    refine AW.cond _ rfl (fun h99 => ?_) (fun h99 => ?_)
                                    ·
                                      refine AW.seq ?_
                                      refine AW.reg ?_
                                      refine SeqK.q (q_asC rfl rfl) rfl rfl rfl ?_
                                      refine SeqK.nil ?_
                                      refine AW.ret ?_
                                      exact fin_x (x := .c _) H (.tmp rfl .nil) rfl (fun _ _ h => h) ⟨by
                                        have : bad1 b.ss[k] = true := by clear hpre; grind [bad1, texts]
                                        rw [goodB_bad hkb this], rfl⟩
                                    ·
                                      refine AW.skip ?_
                                      refine AW.reg ?_
                                      refine SeqK.q (q_add _ rfl rfl rfl (w64 (by omega) (by omega))) rfl rfl rfl ?_
                                      refine SeqK.q (q_mvC rfl rfl) rfl rfl rfl ?_
                                      refine SeqK.nil ?_
                                      exact ⟨k + 1, _, Wk.keep 101 [(1, .lp 1 0), (2, bX false), (21, .c (.a (.t (.sl z 6 (b.ss.map sdT))))), (22, iX .i64 ((b.ss.map sdT).length : Nat)), (23, iX .i64 (((k + 1) : Nat) : Int))] [(1, .box [.t (.v (.int .i64 b.tb)), .t (.sl z 6 (b.ss.map sdT))])] (H) rfl ⟨rfl, rfl, rfl, rfl, rfl, trivial⟩ ⟨rfl, trivial⟩ (fun _ _ h => h) rfl, by omega, ⟨by omega, fun j hj h9 => by
                                        rcases Nat.lt_or_ge j k with h | h
                                        · exact hpre j hj h
                                        · obtain rfl : j = k := by omega
                                          clear hpre; grind [bad1, texts]⟩, rfl⟩
                              ·
                                refine SeqK.off rfl rfl rfl rfl rfl rfl ?_
                                refine SeqK.off rfl rfl rfl rfl rfl rfl ?_
                                refine SeqK.off rfl rfl rfl rfl rfl rfl ?_
                                refine SeqK.on (q_pkF rfl rfl rfl) rfl rfl rfl rfl rfl ?_
                                refine SeqK.q (q_pkF rfl rfl rfl) rfl rfl rfl ?_
                                refine SeqK.q (q_mvC rfl rfl) rfl rfl rfl ?_
                                refine SeqK.on (q_fieldL _ rfl Fx.fl67_2 rfl rfl) rfl rfl rfl rfl rfl ?_
                                refine SeqK.rOn (b_load (r := .a _) rfl Fx.ty2 rfl rfl rfl rfl rfl rfl) rfl rfl rfl ?_
                                refine SeqK.on (q_fieldL _ rfl Fx.fl67_3 rfl rfl) rfl rfl rfl rfl rfl ?_
                                refine SeqK.rOn (b_load (r := .a _) rfl Fx.ty2 rfl rfl rfl rfl rfl rfl) rfl rfl rfl ?_
                                refine SeqK.on (q_gtr rfl rfl rfl) rfl rfl rfl rfl rfl ?_
                                refine SeqK.q (q_pkF rfl rfl rfl) rfl rfl rfl ?_
                                refine SeqK.qD (q_mvC rfl rfl) rfl rfl rfl (fun g93 => ?_) (fun g93 => ?_)
                                ·
                                  refine SeqK.off rfl rfl rfl rfl rfl rfl ?_
                                  refine SeqK.off rfl rfl rfl rfl rfl rfl ?_
                                  refine SeqK.off rfl rfl rfl rfl rfl rfl ?_
                                  refine SeqK.off rfl rfl rfl rfl rfl rfl ?_
                                  refine SeqK.off rfl rfl rfl rfl rfl rfl ?_
                                  refine SeqK.q (q_pkT rfl rfl rfl) rfl rfl rfl ?_
                                  refine SeqK.nil ?_
                                  refine AW.condT rfl ?_
                                  refine AW.seq ?_
                                  refine AW.reg ?_
                                  refine SeqK.q (q_asC rfl rfl) rfl rfl rfl ?_
                                  refine SeqK.nil ?_
                                  refine AW.ret ?_
                                  exact fin_x (x := .c _) H (.tmp rfl .nil) rfl (fun _ _ h => h) ⟨by
                                    have : bad1 b.ss[k] = true := by clear hpre; grind [bad1, texts]
                                    rw [goodB_bad hkb this], rfl⟩
                                ·
                                  refine SeqK.on (q_fieldL _ rfl Fx.fl67_4 rfl rfl) rfl rfl rfl rfl rfl ?_
                                  refine SeqK.rOn (b_load (r := .a _) rfl Fx.ty9 rfl rfl rfl rfl rfl rfl) rfl rfl rfl ?_
                                  refine SeqK.on (q_fieldL _ rfl Fx.fl67_5 rfl rfl) rfl rfl rfl rfl rfl ?_
                                  refine SeqK.rOn (b_load (r := .a _) rfl Fx.ty9 rfl rfl rfl rfl rfl rfl) rfl rfl rfl ?_
                                  refine SeqK.on (q_gtrS rfl rfl rfl) rfl rfl rfl rfl rfl ?_
                                  refine SeqK.q (q_pkF rfl rfl rfl) rfl rfl rfl ?_
                                  refine SeqK.nil ?_
                                  refine AW.cond _ rfl (fun h99 => ?_) (fun h99 => ?_)
                                  ·
                                    refine AW.seq ?_
                                    refine AW.reg ?_
                                    refine SeqK.q (q_asC rfl rfl) rfl rfl rfl ?_
                                    refine SeqK.nil ?_
                                    refine AW.ret ?_
                                    exact fin_x (x := .c _) H (.tmp rfl .nil) rfl (fun _ _ h => h) ⟨by
                                      have : bad1 b.ss[k] = true := by clear hpre; grind [bad1, texts]
                                      rw [goodB_bad hkb this], rfl⟩
                                  ·
                                    refine AW.skip ?_
                                    refine AW.reg ?_
                                    refine SeqK.q (q_add _ rfl rfl rfl (w64 (by omega) (by omega))) rfl rfl rfl ?_
                                    refine SeqK.q (q_mvC rfl rfl) rfl rfl rfl ?_
                                    refine SeqK.nil ?_
                                    exact ⟨k + 1, _, Wk.keep 101 [(1, .lp 1 0), (2, bX false), (21, .c (.a (.t (.sl z 6 (b.ss.map sdT))))), (22, iX .i64 ((b.ss.map sdT).length : Nat)), (23, iX .i64 (((k + 1) : Nat) : Int))] [(1, .box [.t (.v (.int .i64 b.tb)), .t (.sl z 6 (b.ss.map sdT))])] (H) rfl ⟨rfl, rfl, rfl, rfl, rfl, trivial⟩ ⟨rfl, trivial⟩ (fun _ _ h => h) rfl, by omega, ⟨by omega, fun j hj h9 => by
                                      rcases Nat.lt_or_ge j k with h | h
                                      · exact hpre j hj h
                                      · obtain rfl : j = k := by omega
                                        clear hpre; grind [bad1, texts]⟩, rfl⟩
                      ·
                        refine SeqK.off rfl rfl rfl rfl rfl rfl ?_
                        refine SeqK.off rfl rfl rfl rfl rfl rfl ?_
                        refine SeqK.offU rfl rfl rfl rfl rfl ?_
                        refine SeqK.offU rfl rfl rfl rfl rfl ?_
                        refine SeqK.offU rfl rfl rfl rfl rfl ?_
                        refine SeqK.off rfl rfl rfl rfl rfl rfl ?_
                        refine SeqK.off rfl rfl rfl rfl rfl rfl ?_
                        refine SeqK.offU rfl rfl rfl rfl rfl ?_
                        refine SeqK.offU rfl rfl rfl rfl rfl ?_
                        refine SeqK.offU rfl rfl rfl rfl rfl ?_
                        refine SeqK.off rfl rfl rfl rfl rfl rfl ?_
                        refine SeqK.on (q_pkF rfl rfl rfl) rfl rfl rfl rfl rfl ?_
                        refine SeqK.q (q_pkF rfl rfl rfl) rfl rfl rfl ?_
                        refine SeqK.q (q_mvC rfl rfl) rfl rfl rfl ?_
                        refine SeqK.on (q_fieldL _ rfl Fx.fl67_0 rfl rfl) rfl rfl rfl rfl rfl ?_
                        refine SeqK.rOn (b_load (r := .a _) rfl Fx.ty4 rfl rfl rfl rfl rfl rfl) rfl rfl rfl ?_
                        refine SeqK.on (q_not rfl rfl) rfl rfl rfl rfl rfl ?_
                        refine SeqK.onB (q_mvC rfl rfl) rfl rfl rfl rfl rfl (fun g80 => ?_) (fun g80 => ?_)
                        ·
                          refine SeqK.on (q_fieldL _ rfl Fx.fl67_1 rfl rfl) rfl rfl rfl rfl rfl ?_
                          refine SeqK.rOn (b_load (r := .a _) rfl Fx.ty4 rfl rfl rfl rfl rfl rfl) rfl rfl rfl ?_
                          refine SeqK.on (q_not rfl rfl) rfl rfl rfl rfl rfl ?_
                          refine SeqK.on (q_pkT rfl rfl rfl) rfl rfl rfl rfl rfl ?_
                          refine SeqK.q (q_pkF rfl rfl rfl) rfl rfl rfl ?_
                          refine SeqK.qB (q_mvC rfl rfl) rfl rfl rfl (fun g86 => ?_) (fun g86 => ?_)
                          ·
                            refine SeqK.off rfl rfl rfl rfl rfl rfl ?_
                            refine SeqK.off rfl rfl rfl rfl rfl rfl ?_
                            refine SeqK.off rfl rfl rfl rfl rfl rfl ?_
                            refine SeqK.off rfl rfl rfl rfl rfl rfl ?_
                            refine SeqK.off rfl rfl rfl rfl rfl rfl ?_
                            refine SeqK.q (q_pkT rfl rfl rfl) rfl rfl rfl ?_
                            refine SeqK.q (q_mvC rfl rfl) rfl rfl rfl ?_
                            refine SeqK.off rfl rfl rfl rfl rfl rfl ?_
                            refine SeqK.off rfl rfl rfl rfl rfl rfl ?_
                            refine SeqK.off rfl rfl rfl rfl rfl rfl ?_
                            refine SeqK.off rfl rfl rfl rfl rfl rfl ?_
                            refine SeqK.off rfl rfl rfl rfl rfl rfl ?_
                            refine SeqK.q (q_pkT rfl rfl rfl) rfl rfl rfl ?_
                            refine SeqK.nil ?_
                            refine AW.condT rfl ?_
                            refine AW.seq ?_
                            refine AW.reg ?_
                            refine SeqK.q (q_asC rfl rfl) rfl rfl rfl ?_
                            refine SeqK.nil ?_
                            refine AW.ret ?_
                            exact fin_x (x := .c _) H (.tmp rfl .nil) rfl (fun _ _ h => h) ⟨by
                              have : bad1 b.ss[k] = true := by clear hpre; grind [bad1, texts]
                              rw [goodB_bad hkb this], rfl⟩
                          ·
                            refine SeqK.on (q_fieldL _ rfl Fx.fl67_2 rfl rfl) rfl rfl rfl rfl rfl ?_
                            refine SeqK.rOn (b_load (r := .a _) rfl Fx.ty2 rfl rfl rfl rfl rfl rfl) rfl rfl rfl ?_
                            refine SeqK.on (q_fieldL _ rfl Fx.fl67_3 rfl rfl) rfl rfl rfl rfl rfl ?_
                            refine SeqK.rOn (b_load (r := .a _) rfl Fx.ty2 rfl rfl rfl rfl rfl rfl) rfl rfl rfl ?_
                            refine SeqK.on (q_gtr rfl rfl rfl) rfl rfl rfl rfl rfl ?_
                            refine SeqK.q (q_pkF rfl rfl rfl) rfl rfl rfl ?_
                            refine SeqK.qD (q_mvC rfl rfl) rfl rfl rfl (fun g93 => ?_) (fun g93 => ?_)
                            ·
                              refine SeqK.off rfl rfl rfl rfl rfl rfl ?_
                              refine SeqK.off rfl rfl rfl rfl rfl rfl ?_
                              refine SeqK.off rfl rfl rfl rfl rfl rfl ?_
                              refine SeqK.off rfl rfl rfl rfl rfl rfl ?_
                              refine SeqK.off rfl rfl rfl rfl rfl rfl ?_
                              refine SeqK.q (q_pkT rfl rfl rfl) rfl rfl rfl ?_
                              refine SeqK.nil ?_
                              refine AW.condT rfl ?_
                              refine AW.seq ?_
                              refine AW.reg ?_
                              refine SeqK.q (q_asC rfl rfl) rfl rfl rfl ?_
                              refine SeqK.nil ?_
                              refine AW.ret ?_
                              exact fin_x (x := .c _) H (.tmp rfl .nil) rfl (fun _ _ h => h) ⟨by
                                have : bad1 b.ss[k] = true := by clear hpre; grind [bad1, texts]
                                rw [goodB_bad hkb this], rfl⟩
                            ·
                              refine SeqK.on (q_fieldL _ rfl Fx.fl67_4 rfl rfl) rfl rfl rfl rfl rfl ?_
                              refine SeqK.rOn (b_load (r := .a _) rfl Fx.ty9 rfl rfl rfl rfl rfl rfl) rfl rfl rfl ?_
                              refine SeqK.on (q_fieldL _ rfl Fx.fl67_5 rfl rfl) rfl rfl rfl rfl rfl ?_
                              refine SeqK.rOn (b_load (r := .a _) rfl Fx.ty9 rfl rfl rfl rfl rfl rfl) rfl rfl rfl ?_
                              refine SeqK.on (q_gtrS rfl rfl rfl) rfl rfl rfl rfl rfl ?_
                              refine SeqK.q (q_pkF rfl rfl rfl) rfl rfl rfl ?_
                              refine SeqK.nil ?_
                              refine AW.cond _ rfl (fun h99 => ?_) (fun h99 => ?_)
                              ·
                                refine AW.seq ?_
                                refine AW.reg ?_
                                refine SeqK.q (q_asC rfl rfl) rfl rfl rfl ?_
                                refine SeqK.nil ?_
                                refine AW.ret ?_
                                exact fin_x (x := .c _) H (.tmp rfl .nil) rfl (fun _ _ h => h) ⟨by
                                  have : bad1 b.ss[k] = true := by clear hpre; grind [bad1, texts]
                                  rw [goodB_bad hkb this], rfl⟩
                              ·
                                refine AW.skip ?_
                                refine AW.reg ?_
                                refine SeqK.q (q_add _ rfl rfl rfl (w64 (by omega) (by omega))) rfl rfl rfl ?_
                                refine SeqK.q (q_mvC rfl rfl) rfl rfl rfl ?_
                                refine SeqK.nil ?_
                                exact ⟨k + 1, _, Wk.keep 101 [(1, .lp 1 0), (2, bX false), (21, .c (.a (.t (.sl z 6 (b.ss.map sdT))))), (22, iX .i64 ((b.ss.map sdT).length : Nat)), (23, iX .i64 (((k + 1) : Nat) : Int))] [(1, .box [.t (.v (.int .i64 b.tb)), .t (.sl z 6 (b.ss.map sdT))])] (H) rfl ⟨rfl, rfl, rfl, rfl, rfl, trivial⟩ ⟨rfl, trivial⟩ (fun _ _ h => h) rfl, by omega, ⟨by omega, fun j hj h9 => by
                                  rcases Nat.lt_or_ge j k with h | h
                                  · exact hpre j hj h
                                  · obtain rfl : j = k := by omega
                                    clear hpre; grind [bad1, texts]⟩, rfl⟩
                        ·
                          refine SeqK.off rfl rfl rfl rfl rfl rfl ?_
                          refine SeqK.off rfl rfl rfl rfl rfl rfl ?_
                          refine SeqK.off rfl rfl rfl rfl rfl rfl ?_
                          refine SeqK.on (q_pkF rfl rfl rfl) rfl rfl rfl rfl rfl ?_
                          refine SeqK.q (q_pkF rfl rfl rfl) rfl rfl rfl ?_
                          refine SeqK.q (q_mvC rfl rfl) rfl rfl rfl ?_
                          refine SeqK.on (q_fieldL _ rfl Fx.fl67_2 rfl rfl) rfl rfl rfl rfl rfl ?_
                          refine SeqK.rOn (b_load (r := .a _) rfl Fx.ty2 rfl rfl rfl rfl rfl rfl) rfl rfl rfl ?_
                          refine SeqK.on (q_fieldL _ rfl Fx.fl67_3 rfl rfl) rfl rfl rfl rfl rfl ?_
                          refine SeqK.rOn (b_load (r := .a _) rfl Fx.ty2 rfl rfl rfl rfl rfl rfl) rfl rfl rfl ?_
                          refine SeqK.on (q_gtr rfl rfl rfl) rfl rfl rfl rfl rfl ?_
                          refine SeqK.q (q_pkF rfl rfl rfl) rfl rfl rfl ?_
                          refine SeqK.qD (q_mvC rfl rfl) rfl rfl rfl (fun g93 => ?_) (fun g93 => ?_)
                          ·
                            refine SeqK.off rfl rfl rfl rfl rfl rfl ?_
                            refine SeqK.off rfl rfl rfl rfl rfl rfl ?_
                            refine SeqK.off rfl rfl rfl rfl rfl rfl ?_
                            refine SeqK.off rfl rfl rfl rfl rfl rfl ?_
                            refine SeqK.off rfl rfl rfl rfl rfl rfl ?_
                            refine SeqK.q (q_pkT rfl rfl rfl) rfl rfl rfl ?_
                            refine SeqK.nil ?_
                            refine AW.condT rfl ?_
                            refine AW.seq ?_
                            refine AW.reg ?_
                            refine SeqK.q (q_asC rfl rfl) rfl rfl rfl ?_
                            refine SeqK.nil ?_
                            refine AW.ret ?_
                            exact fin_x (x := .c _) H (.tmp rfl .nil) rfl (fun _ _ h => h) ⟨by
                              have : bad1 b.ss[k] = true := by clear hpre; grind [bad1, texts]
                              rw [goodB_bad hkb this], rfl⟩
                          ·
                            refine SeqK.on (q_fieldL _ rfl Fx.fl67_4 rfl rfl) rfl rfl rfl rfl rfl ?_
                            refine SeqK.rOn (b_load (r := .a _) rfl Fx.ty9 rfl rfl rfl rfl rfl rfl) rfl rfl rfl ?_
                            refine SeqK.on (q_fieldL _ rfl Fx.fl67_5 rfl rfl) rfl rfl rfl rfl rfl ?_
                            refine SeqK.rOn (b_load (r := .a _) rfl Fx.ty9 rfl rfl rfl rfl rfl rfl) rfl rfl rfl ?_
                            refine SeqK.on (q_gtrS rfl rfl rfl) rfl rfl rfl rfl rfl ?_
                            refine SeqK.q (q_pkF rfl rfl rfl) rfl rfl rfl ?_
                            refine SeqK.nil ?_
                            refine AW.cond _ rfl (fun h99 => ?_) (fun h99 => ?_)
                            ·
                              refine AW.seq ?_
                              refine AW.reg ?_
                              refine SeqK.q (q_asC rfl rfl) rfl rfl rfl ?_
                              refine SeqK.nil ?_
                              refine AW.ret ?_
                              exact fin_x (x := .c _) H (.tmp rfl .nil) rfl (fun _ _ h => h) ⟨by
                                have : bad1 b.ss[k] = true := by clear hpre; grind [bad1, texts]
                                rw [goodB_bad hkb this], rfl⟩
                            ·
                              refine AW.skip ?_
                              refine AW.reg ?_
                              refine SeqK.q (q_add _ rfl rfl rfl (w64 (by omega) (by omega))) rfl rfl rfl ?_
                              refine SeqK.q (q_mvC rfl rfl) rfl rfl rfl ?_
                              refine SeqK.nil ?_
                              exact ⟨k + 1, _, Wk.keep 101 [(1, .lp 1 0), (2, bX false), (21, .c (.a (.t (.sl z 6 (b.ss.map sdT))))), (22, iX .i64 ((b.ss.map sdT).length : Nat)), (23, iX .i64 (((k + 1) : Nat) : Int))] [(1, .box [.t (.v (.int .i64 b.tb)), .t (.sl z 6 (b.ss.map sdT))])] (H) rfl ⟨rfl, rfl, rfl, rfl, rfl, trivial⟩ ⟨rfl, trivial⟩ (fun _ _ h => h) rfl, by omega, ⟨by omega, fun j hj h9 => by
                                rcases Nat.lt_or_ge j k with h | h
                                · exact hpre j hj h
                                · obtain rfl : j = k := by omega
                                  clear hpre; grind [bad1, texts]⟩, rfl⟩
                ·
                  refine SeqK.off rfl rfl rfl rfl rfl rfl ?_
                  refine SeqK.off rfl rfl rfl rfl rfl rfl ?_
                  refine SeqK.off rfl rfl rfl rfl rfl rfl ?_
                  refine SeqK.off rfl rfl rfl rfl rfl rfl ?_
                  refine SeqK.offU rfl rfl rfl rfl rfl ?_
                  refine SeqK.offU rfl rfl rfl rfl rfl ?_
                  refine SeqK.offU rfl rfl rfl rfl rfl ?_
                  refine SeqK.off rfl rfl rfl rfl rfl rfl ?_
                  refine SeqK.on (q_pkF rfl rfl rfl) rfl rfl rfl rfl rfl ?_
                  refine SeqK.q (q_pkF rfl rfl rfl) rfl rfl rfl ?_
                  refine SeqK.q (q_mvC rfl rfl) rfl rfl rfl ?_
                  refine SeqK.on (q_fieldL _ rfl Fx.fl67_1 rfl rfl) rfl rfl rfl rfl rfl ?_
                  refine SeqK.rOn (b_load (r := .a _) rfl Fx.ty4 rfl rfl rfl rfl rfl rfl) rfl rfl rfl ?_
                  refine SeqK.on (q_not rfl rfl) rfl rfl rfl rfl rfl ?_
                  refine SeqK.onB (q_mvC rfl rfl) rfl rfl rfl rfl rfl (fun g62 => ?_) (fun g62 => ?_)
                  ·
                    refine SeqK.on (q_mvC rfl rfl) rfl rfl rfl rfl rfl ?_
                    refine SeqK.onD (q_mvC rfl rfl) rfl rfl rfl rfl rfl (fun g64 => ?_) (fun g64 => ?_)
                    ·
                      refine SeqK.off rfl rfl rfl rfl rfl rfl ?_
                      refine SeqK.off rfl rfl rfl rfl rfl rfl ?_
                      refine SeqK.off rfl rfl rfl rfl rfl rfl ?_
                      refine SeqK.on (q_pkT rfl rfl rfl) rfl rfl rfl rfl rfl ?_
                      refine SeqK.on (q_mvC rfl rfl) rfl rfl rfl rfl rfl ?_
                      refine SeqK.off rfl rfl rfl rfl rfl rfl ?_
                      refine SeqK.off rfl rfl rfl rfl rfl rfl ?_
                      refine SeqK.off rfl rfl rfl rfl rfl rfl ?_
                      refine SeqK.on (q_pkT rfl rfl rfl) rfl rfl rfl rfl rfl ?_
                      refine SeqK.on (q_pkT rfl rfl rfl) rfl rfl rfl rfl rfl ?_
                      refine SeqK.q (q_pkF rfl rfl rfl) rfl rfl rfl ?_
                      refine SeqK.q (q_mvC rfl rfl) rfl rfl rfl ?_
                      refine SeqK.off rfl rfl rfl rfl rfl rfl ?_
                      refine SeqK.off rfl rfl rfl rfl rfl rfl ?_
                      refine SeqK.off rfl rfl rfl rfl rfl rfl ?_
                      refine SeqK.off rfl rfl rfl rfl rfl rfl ?_
                      refine SeqK.offU rfl rfl rfl rfl rfl ?_
                      refine SeqK.offU rfl rfl rfl rfl rfl ?_
                      refine SeqK.offU rfl rfl rfl rfl rfl ?_
                      refine SeqK.off rfl rfl rfl rfl rfl rfl ?_
                      refine SeqK.q (q_pkT rfl rfl rfl) rfl rfl rfl ?_
                      refine SeqK.q (q_mvC rfl rfl) rfl rfl rfl ?_
                      refine SeqK.off rfl rfl rfl rfl rfl rfl ?_
                      refine SeqK.off rfl rfl rfl rfl rfl rfl ?_
                      refine SeqK.off rfl rfl rfl rfl rfl rfl ?_
                      refine SeqK.off rfl rfl rfl rfl rfl rfl ?_
                      refine SeqK.off rfl rfl rfl rfl rfl rfl ?_
                      refine SeqK.q (q_pkT rfl rfl rfl) rfl rfl rfl ?_
                      refine SeqK.q (q_mvC rfl rfl) rfl rfl rfl ?_
                      refine SeqK.off rfl rfl rfl rfl rfl rfl ?_
                      refine SeqK.off rfl rfl rfl rfl rfl rfl ?_
                      refine SeqK.off rfl rfl rfl rfl rfl rfl ?_
                      refine SeqK.off rfl rfl rfl rfl rfl rfl ?_
                      refine SeqK.off rfl rfl rfl rfl rfl rfl ?_
                      refine SeqK.q (q_pkT rfl rfl rfl) rfl rfl rfl ?_
                      refine SeqK.nil ?_
                      refine AW.condT rfl ?_
                      refine AW.seq ?_
                      refine AW.reg ?_
                      refine SeqK.q (q_asC rfl rfl) rfl rfl rfl ?_
                      refine SeqK.nil ?_
                      refine AW.ret ?_
                      exact fin_x (x := .c _) H (.tmp rfl .nil) rfl (fun _ _ h => h) ⟨by
                        have : bad1 b.ss[k] = true := by clear hpre; grind [bad1, texts]
                        rw [goodB_bad hkb this], rfl⟩
                    ·
                      refine SeqK.on (q_fieldL _ rfl Fx.fl67_2 rfl rfl) rfl rfl rfl rfl rfl ?_
                      refine SeqK.rOn (b_load (r := .a _) rfl Fx.ty2 rfl rfl rfl rfl rfl rfl) rfl rfl rfl ?_
                      refine SeqK.on (q_neq rfl rfl rfl) rfl rfl rfl rfl rfl ?_
                      refine SeqK.on (q_pkF rfl rfl rfl) rfl rfl rfl rfl rfl ?_
                      refine SeqK.onD (q_mvC rfl rfl) rfl rfl rfl rfl rfl (fun g69 => ?_) (fun g69 => ?_)
                      ·
                        refine SeqK.off rfl rfl rfl rfl rfl rfl ?_
                        refine SeqK.off rfl rfl rfl rfl rfl rfl ?_
                        refine SeqK.off rfl rfl rfl rfl rfl rfl ?_
                        refine SeqK.on (q_pkT rfl rfl rfl) rfl rfl rfl rfl rfl ?_
                        refine SeqK.on (q_pkT rfl rfl rfl) rfl rfl rfl rfl rfl ?_
                        refine SeqK.q (q_pkF rfl rfl rfl) rfl rfl rfl ?_
                        refine SeqK.q (q_mvC rfl rfl) rfl rfl rfl ?_
                        refine SeqK.off rfl rfl rfl rfl rfl rfl ?_
                        refine SeqK.off rfl rfl rfl rfl rfl rfl ?_
                        refine SeqK.off rfl rfl rfl rfl rfl rfl ?_
                        refine SeqK.off rfl rfl rfl rfl rfl rfl ?_
                        refine SeqK.offU rfl rfl rfl rfl rfl ?_
                        refine SeqK.offU rfl rfl rfl rfl rfl ?_
                        refine SeqK.offU rfl rfl rfl rfl rfl ?_
                        refine SeqK.off rfl rfl rfl rfl rfl rfl ?_
                        refine SeqK.q (q_pkT rfl rfl rfl) rfl rfl rfl ?_
                        refine SeqK.q (q_mvC rfl rfl) rfl rfl rfl ?_
                        refine SeqK.off rfl rfl rfl rfl rfl rfl ?_
                        refine SeqK.off rfl rfl rfl rfl rfl rfl ?_
                        refine SeqK.off rfl rfl rfl rfl rfl rfl ?_
                        refine SeqK.off rfl rfl rfl rfl rfl rfl ?_
                        refine SeqK.off rfl rfl rfl rfl rfl rfl ?_
                        refine SeqK.q (q_pkT rfl rfl rfl) rfl rfl rfl ?_
                        refine SeqK.q (q_mvC rfl rfl) rfl rfl rfl ?_
                        refine SeqK.off rfl rfl rfl rfl rfl rfl ?_
                        refine SeqK.off rfl rfl rfl rfl rfl rfl ?_
                        refine SeqK.off rfl rfl rfl rfl rfl rfl ?_
                        refine SeqK.off rfl rfl rfl rfl rfl rfl ?_
                        refine SeqK.off rfl rfl rfl rfl rfl rfl ?_
                        refine SeqK.q (q_pkT rfl rfl rfl) rfl rfl rfl ?_
                        refine SeqK.nil ?_
                        refine AW.condT rfl ?_
                        refine AW.seq ?_
                        refine AW.reg ?_
                        refine SeqK.q (q_asC rfl rfl) rfl rfl rfl ?_
                        refine SeqK.nil ?_
                        refine AW.ret ?_
                        exact fin_x (x := .c _) H (.tmp rfl .nil) rfl (fun _ _ h => h) ⟨by
                          have : bad1 b.ss[k] = true := by clear hpre; grind [bad1, texts]
                          rw [goodB_bad hkb this], rfl⟩
                      ·
                        refine SeqK.on (q_fieldL _ rfl Fx.fl67_3 rfl rfl) rfl rfl rfl rfl rfl ?_
                        refine SeqK.rOn (b_load (r := .a _) rfl Fx.ty2 rfl rfl rfl rfl rfl rfl) rfl rfl rfl ?_
                        refine SeqK.on (q_neq rfl rfl rfl) rfl rfl rfl rfl rfl ?_
                        refine SeqK.on (q_pkF rfl rfl rfl) rfl rfl rfl rfl rfl ?_
                        refine SeqK.on (q_pkT rfl rfl rfl) rfl rfl rfl rfl rfl ?_
                        refine SeqK.q (q_pkF rfl rfl rfl) rfl rfl rfl ?_
                        refine SeqK.qD (q_mvC rfl rfl) rfl rfl rfl (fun g76 => ?_) (fun g76 => ?_)
                        ·
                          refine SeqK.off rfl rfl rfl rfl rfl rfl ?_
                          refine SeqK.off rfl rfl rfl rfl rfl rfl ?_
                          refine SeqK.off rfl rfl rfl rfl rfl rfl ?_
                          refine SeqK.off rfl rfl rfl rfl rfl rfl ?_
                          refine SeqK.offU rfl rfl rfl rfl rfl ?_
                          refine SeqK.offU rfl rfl rfl rfl rfl ?_
                          refine SeqK.offU rfl rfl rfl rfl rfl ?_
                          refine SeqK.off rfl rfl rfl rfl rfl rfl ?_
                          refine SeqK.q (q_pkT rfl rfl rfl) rfl rfl rfl ?_
                          refine SeqK.q (q_mvC rfl rfl) rfl rfl rfl ?_
                          refine SeqK.off rfl rfl rfl rfl rfl rfl ?_
                          refine SeqK.off rfl rfl rfl rfl rfl rfl ?_
                          refine SeqK.off rfl rfl rfl rfl rfl rfl ?_
                          refine SeqK.off rfl rfl rfl rfl rfl rfl ?_
                          refine SeqK.off rfl rfl rfl rfl rfl rfl ?_
                          refine SeqK.q (q_pkT rfl rfl rfl) rfl rfl rfl ?_
                          refine SeqK.q (q_mvC rfl rfl) rfl rfl rfl ?_
                          refine SeqK.off rfl rfl rfl rfl rfl rfl ?_
                          refine SeqK.off rfl rfl rfl rfl rfl rfl ?_
                          refine SeqK.off rfl rfl rfl rfl rfl rfl ?_
                          refine SeqK.off rfl rfl rfl rfl rfl rfl ?_
                          refine SeqK.off rfl rfl rfl rfl rfl rfl ?_
                          refine SeqK.q (q_pkT rfl rfl rfl) rfl rfl rfl ?_
                          refine SeqK.nil ?_
                          refine AW.condT rfl ?_
                          refine AW.seq ?_
                          refine AW.reg ?_
                          refine SeqK.q (q_asC rfl rfl) rfl rfl rfl ?_
                          refine SeqK.nil ?_
                          refine AW.ret ?_
                          exact fin_x (x := .c _) H (.tmp rfl .nil) rfl (fun _ _ h => h) ⟨by
                            have : bad1 b.ss[k] = true := by clear hpre; grind [bad1, texts]
                            rw [goodB_bad hkb this], rfl⟩
                        ·
                          refine SeqK.on (q_fieldL _ rfl Fx.fl67_0 rfl rfl) rfl rfl rfl rfl rfl ?_
                          refine SeqK.rOn (b_load (r := .a _) rfl Fx.ty4 rfl rfl rfl rfl rfl rfl) rfl rfl rfl ?_
                          refine SeqK.on (q_not rfl rfl) rfl rfl rfl rfl rfl ?_
                          refine SeqK.onB (q_mvC rfl rfl) rfl rfl rfl rfl rfl (fun g80 => ?_) (fun g80 => ?_)
                          ·
                            refine SeqK.on (q_fieldL _ rfl Fx.fl67_1 rfl rfl) rfl rfl rfl rfl rfl ?_
                            refine SeqK.rOn (b_load (r := .a _) rfl Fx.ty4 rfl rfl rfl rfl rfl rfl) rfl rfl rfl ?_
                            refine SeqK.on (q_not rfl rfl) rfl rfl rfl rfl rfl ?_
                            refine SeqK.on (q_pkT rfl rfl rfl) rfl rfl rfl rfl rfl ?_
                            refine SeqK.q (q_pkF rfl rfl rfl) rfl rfl rfl ?_
                            refine SeqK.qB (q_mvC rfl rfl) rfl rfl rfl (fun g86 => ?_) (fun g86 => ?_)
                            ·
                              refine SeqK.off rfl rfl rfl rfl rfl rfl ?_
                              refine SeqK.off rfl rfl rfl rfl rfl rfl ?_
                              refine SeqK.off rfl rfl rfl rfl rfl rfl ?_
                              refine SeqK.off rfl rfl rfl rfl rfl rfl ?_
                              refine SeqK.off rfl rfl rfl rfl rfl rfl ?_
                              refine SeqK.q (q_pkT rfl rfl rfl) rfl rfl rfl ?_
                              refine SeqK.q (q_mvC rfl rfl) rfl rfl rfl ?_
                              refine SeqK.off rfl rfl rfl rfl rfl rfl ?_
                              refine SeqK.off rfl rfl rfl rfl rfl rfl ?_
                              refine SeqK.off rfl rfl rfl rfl rfl rfl ?_
                              refine SeqK.off rfl rfl rfl rfl rfl rfl ?_
                              refine SeqK.off rfl rfl rfl rfl rfl rfl ?_
                              refine SeqK.q (q_pkT rfl rfl rfl) rfl rfl rfl ?_
                              refine SeqK.nil ?_
                              refine AW.condT rfl ?_
                              refine AW.seq ?_
                              refine AW.reg ?_
                              refine SeqK.q (q_asC rfl rfl) rfl rfl rfl ?_
                              refine SeqK.nil ?_
                              refine AW.ret ?_
                              exact fin_x (x := .c _) H (.tmp rfl .nil) rfl (fun _ _ h => h) ⟨by
                                have : bad1 b.ss[k] = true := by clear hpre; grind [bad1, texts]
                                rw [goodB_bad hkb this], rfl⟩
                            ·
                              refine SeqK.on (q_fieldL _ rfl Fx.fl67_2 rfl rfl) rfl rfl rfl rfl rfl ?_
                              refine SeqK.rOn (b_load (r := .a _) rfl Fx.ty2 rfl rfl rfl rfl rfl rfl) rfl rfl rfl ?_
                              refine SeqK.on (q_fieldL _ rfl Fx.fl67_3 rfl rfl) rfl rfl rfl rfl rfl ?_
                              refine SeqK.rOn (b_load (r := .a _) rfl Fx.ty2 rfl rfl rfl rfl rfl rfl) rfl rfl rfl ?_
                              refine SeqK.on (q_gtr rfl rfl rfl) rfl rfl rfl rfl rfl ?_
                              refine SeqK.q (q_pkF rfl rfl rfl) rfl rfl rfl ?_
                              refine SeqK.qD (q_mvC rfl rfl) rfl rfl rfl (fun g93 => ?_) (fun g93 => ?_)
                              ·
                                refine SeqK.off rfl rfl rfl rfl rfl rfl ?_
                                refine SeqK.off rfl rfl rfl rfl rfl rfl ?_
                                refine SeqK.off rfl rfl rfl rfl rfl rfl ?_
                                refine SeqK.off rfl rfl rfl rfl rfl rfl ?_
                                refine SeqK.off rfl rfl rfl rfl rfl rfl ?_
                                refine SeqK.q (q_pkT rfl rfl rfl) rfl rfl rfl ?_
                                refine SeqK.nil ?_
                                refine AW.condT rfl ?_
                                refine AW.seq ?_
                                refine AW.reg ?_
                                refine SeqK.q (q_asC rfl rfl) rfl rfl rfl ?_
                                refine SeqK.nil ?_
                                refine AW.ret ?_
                                exact fin_x (x := .c _) H (.tmp rfl .nil) rfl (fun _ _ h => h) ⟨by
                                  have : bad1 b.ss[k] = true := by clear hpre; grind [bad1, texts]
                                  rw [goodB_bad hkb this], rfl⟩
                              ·
                                refine SeqK.on (q_fieldL _ rfl Fx.fl67_4 rfl rfl) rfl rfl rfl rfl rfl ?_
                                refine SeqK.rOn (b_load (r := .a _) rfl Fx.ty9 rfl rfl rfl rfl rfl rfl) rfl rfl rfl ?_
                                refine SeqK.on (q_fieldL _ rfl Fx.fl67_5 rfl rfl) rfl rfl rfl rfl rfl ?_
                                refine SeqK.rOn (b_load (r := .a _) rfl Fx.ty9 rfl rfl rfl rfl rfl rfl) rfl rfl rfl ?_
                                refine SeqK.on (q_gtrS rfl rfl rfl) rfl rfl rfl rfl rfl ?_
                                refine SeqK.q (q_pkF rfl rfl rfl) rfl rfl rfl ?_
                                refine SeqK.nil ?_
                                refine AW.cond _ rfl (fun h99 => ?_) (fun h99 => ?_)
                                ·
                                  refine AW.seq ?_
                                  refine AW.reg ?_
                                  refine SeqK.q (q_asC rfl rfl) rfl rfl rfl ?_
                                  refine SeqK.nil ?_
                                  refine AW.ret ?_
                                  exact fin_x (x := .c _) H (.tmp rfl .nil) rfl (fun _ _ h => h) ⟨by
                                    have : bad1 b.ss[k] = true := by clear hpre; grind [bad1, texts]
                                    rw [goodB_bad hkb this], rfl⟩
                                ·
                                  refine AW.skip ?_
                                  refine AW.reg ?_
                                  refine SeqK.q (q_add _ rfl rfl rfl (w64 (by omega) (by omega))) rfl rfl rfl ?_
                                  refine SeqK.q (q_mvC rfl rfl) rfl rfl rfl ?_
                                  refine SeqK.nil ?_
                                  exact ⟨k + 1, _, Wk.keep 101 [(1, .lp 1 0), (2, bX false), (21, .c (.a (.t (.sl z 6 (b.ss.map sdT))))), (22, iX .i64 ((b.ss.map sdT).length : Nat)), (23, iX .i64 (((k + 1) : Nat) : Int))] [(1, .box [.t (.v (.int .i64 b.tb)), .t (.sl z 6 (b.ss.map sdT))])] (H) rfl ⟨rfl, rfl, rfl, rfl, rfl, trivial⟩ ⟨rfl, trivial⟩ (fun _ _ h => h) rfl, by omega, ⟨by omega, fun j hj h9 => by
                                    rcases Nat.lt_or_ge j k with h | h
                                    · exact hpre j hj h
                                    · obtain rfl : j = k := by omega
                                      clear hpre; grind [bad1, texts]⟩, rfl⟩
                          ·
                            refine SeqK.off rfl rfl rfl rfl rfl rfl ?_
                            refine SeqK.off rfl rfl rfl rfl rfl rfl ?_
                            refine SeqK.off rfl rfl rfl rfl rfl rfl ?_
                            refine SeqK.on (q_pkF rfl rfl rfl) rfl rfl rfl rfl rfl ?_
                            refine SeqK.q (q_pkF rfl rfl rfl) rfl rfl rfl ?_
                            refine SeqK.q (q_mvC rfl rfl) rfl rfl rfl ?_
                            refine SeqK.on (q_fieldL _ rfl Fx.fl67_2 rfl rfl) rfl rfl rfl rfl rfl ?_
                            refine SeqK.rOn (b_load (r := .a _) rfl Fx.ty2 rfl rfl rfl rfl rfl rfl) rfl rfl rfl ?_
                            refine SeqK.on (q_fieldL _ rfl Fx.fl67_3 rfl rfl) rfl rfl rfl rfl rfl ?_
                            refine SeqK.rOn (b_load (r := .a _) rfl Fx.ty2 rfl rfl rfl rfl rfl rfl) rfl rfl rfl ?_
                            refine SeqK.on (q_gtr rfl rfl rfl) rfl rfl rfl rfl rfl ?_
                            refine SeqK.q (q_pkF rfl rfl rfl) rfl rfl rfl ?_
                            refine SeqK.qD (q_mvC rfl rfl) rfl rfl rfl (fun g93 => ?_) (fun g93 => ?_)
                            ·
                              refine SeqK.off rfl rfl rfl rfl rfl rfl ?_
                              refine SeqK.off rfl rfl rfl rfl rfl rfl ?_
                              refine SeqK.off rfl rfl rfl rfl rfl rfl ?_
                              refine SeqK.off rfl rfl rfl rfl rfl rfl ?_
                              refine SeqK.off rfl rfl rfl rfl rfl rfl ?_
                              refine SeqK.q (q_pkT rfl rfl rfl) rfl rfl rfl ?_
                              refine SeqK.nil ?_
                              refine AW.condT rfl ?_
                              refine AW.seq ?_
                              refine AW.reg ?_
                              refine SeqK.q (q_asC rfl rfl) rfl rfl rfl ?_
                              refine SeqK.nil ?_
                              refine AW.ret ?_
                              exact fin_x (x := .c _) H (.tmp rfl .nil) rfl (fun _ _ h => h) ⟨by
                                have : bad1 b.ss[k] = true := by clear hpre; grind [bad1, texts]
                                rw [goodB_bad hkb this], rfl⟩
                            ·
                              refine SeqK.on (q_fieldL _ rfl Fx.fl67_4 rfl rfl) rfl rfl rfl rfl rfl ?_
                              refine SeqK.rOn (b_load (r := .a _) rfl Fx.ty9 rfl rfl rfl rfl rfl rfl) rfl rfl rfl ?_
                              refine SeqK.on (q_fieldL _ rfl Fx.fl67_5 rfl rfl) rfl rfl rfl rfl rfl ?_
                              refine SeqK.rOn (b_load (r := .a _) rfl Fx.ty9 rfl rfl rfl rfl rfl rfl) rfl rfl rfl ?_
                              refine SeqK.on (q_gtrS rfl rfl rfl) rfl rfl rfl rfl rfl ?_
                              refine SeqK.q (q_pkF rfl rfl rfl) rfl rfl rfl ?_
                              refine SeqK.nil ?_
                              refine AW.cond _ rfl (fun h99 => ?_) (fun h99 => ?_)
                              ·
                                refine AW.seq ?_
                                refine AW.reg ?_
                                refine SeqK.q (q_asC rfl rfl) rfl rfl rfl ?_
                                refine SeqK.nil ?_
                                refine AW.ret ?_
                                exact fin_x (x := .c _) H (.tmp rfl .nil) rfl (fun _ _ h => h) ⟨by
                                  have : bad1 b.ss[k] = true := by clear hpre; grind [bad1, texts]
                                  rw [goodB_bad hkb this], rfl⟩
                              ·
                                refine AW.skip ?_
                                refine AW.reg ?_
                                refine SeqK.q (q_add _ rfl rfl rfl (w64 (by omega) (by omega))) rfl rfl rfl ?_
                                refine SeqK.q (q_mvC rfl rfl) rfl rfl rfl ?_
                                refine SeqK.nil ?_
                                exact ⟨k + 1, _, Wk.keep 101 [(1, .lp 1 0), (2, bX false), (21, .c (.a (.t (.sl z 6 (b.ss.map sdT))))), (22, iX .i64 ((b.ss.map sdT).length : Nat)), (23, iX .i64 (((k + 1) : Nat) : Int))] [(1, .box [.t (.v (.int .i64 b.tb)), .t (.sl z 6 (b.ss.map sdT))])] (H) rfl ⟨rfl, rfl, rfl, rfl, rfl, trivial⟩ ⟨rfl, trivial⟩ (fun _ _ h => h) rfl, by omega, ⟨by omega, fun j hj h9 => by
                                  rcases Nat.lt_or_ge j k with h | h
                                  · exact hpre j hj h
                                  · obtain rfl : j = k := by omega
                                    clear hpre; grind [bad1, texts]⟩, rfl⟩
                  ·
                    refine SeqK.off rfl rfl rfl rfl rfl rfl ?_
                    refine SeqK.off rfl rfl rfl rfl rfl rfl ?_
                    refine SeqK.offU rfl rfl rfl rfl rfl ?_
                    refine SeqK.offU rfl rfl rfl rfl rfl ?_
                    refine SeqK.offU rfl rfl rfl rfl rfl ?_
                    refine SeqK.off rfl rfl rfl rfl rfl rfl ?_
                    refine SeqK.off rfl rfl rfl rfl rfl rfl ?_
                    refine SeqK.offU rfl rfl rfl rfl rfl ?_
                    refine SeqK.offU rfl rfl rfl rfl rfl ?_
                    refine SeqK.offU rfl rfl rfl rfl rfl ?_
                    refine SeqK.off rfl rfl rfl rfl rfl rfl ?_
                    refine SeqK.on (q_pkF rfl rfl rfl) rfl rfl rfl rfl rfl ?_
                    refine SeqK.q (q_pkF rfl rfl rfl) rfl rfl rfl ?_
                    refine SeqK.q (q_mvC rfl rfl) rfl rfl rfl ?_
                    refine SeqK.on (q_fieldL _ rfl Fx.fl67_0 rfl rfl) rfl rfl rfl rfl rfl ?_
                    refine SeqK.rOn (b_load (r := .a _) rfl Fx.ty4 rfl rfl rfl rfl rfl rfl) rfl rfl rfl ?_
                    refine SeqK.on (q_not rfl rfl) rfl rfl rfl rfl rfl ?_
                    refine SeqK.onB (q_mvC rfl rfl) rfl rfl rfl rfl rfl (fun g80 => ?_) (fun g80 => ?_)
                    ·
                      refine SeqK.on (q_fieldL _ rfl Fx.fl67_1 rfl rfl) rfl rfl rfl rfl rfl ?_
                      refine SeqK.rOn (b_load (r := .a _) rfl Fx.ty4 rfl rfl rfl rfl rfl rfl) rfl rfl rfl ?_
                      refine SeqK.on (q_not rfl rfl) rfl rfl rfl rfl rfl ?_
                      refine SeqK.on (q_pkT rfl rfl rfl) rfl rfl rfl rfl rfl ?_
                      refine SeqK.q (q_pkF rfl rfl rfl) rfl rfl rfl ?_
                      refine SeqK.qB (q_mvC rfl rfl) rfl rfl rfl (fun g86 => ?_) (fun g86 => ?_)
                      ·
                        refine SeqK.off rfl rfl rfl rfl rfl rfl ?_
                        refine SeqK.off rfl rfl rfl rfl rfl rfl ?_
                        refine SeqK.off rfl rfl rfl rfl rfl rfl ?_
                        refine SeqK.off rfl rfl rfl rfl rfl rfl ?_
                        refine SeqK.off rfl rfl rfl rfl rfl rfl ?_
                        refine SeqK.q (q_pkT rfl rfl rfl) rfl rfl rfl ?_
                        refine SeqK.q (q_mvC rfl rfl) rfl rfl rfl ?_
                        refine SeqK.off rfl rfl rfl rfl rfl rfl ?_
                        refine SeqK.off rfl rfl rfl rfl rfl rfl ?_
                        refine SeqK.off rfl rfl rfl rfl rfl rfl ?_
                        refine SeqK.off rfl rfl rfl rfl rfl rfl ?_
                        refine SeqK.off rfl rfl rfl rfl rfl rfl ?_
                        refine SeqK.q (q_pkT rfl rfl rfl) rfl rfl rfl ?_
                        refine SeqK.nil ?_
                        refine AW.condT rfl ?_
                        refine AW.seq ?_
                        refine AW.reg ?_
                        refine SeqK.q (q_asC rfl rfl) rfl rfl rfl ?_
                        refine SeqK.nil ?_
                        refine AW.ret ?_
                        exact fin_x (x := .c _) H (.tmp rfl .nil) rfl (fun _ _ h => h) ⟨by
                          have : bad1 b.ss[k] = true := by clear hpre; grind [bad1, texts]
                          rw [goodB_bad hkb this], rfl⟩
                      ·
                        refine SeqK.on (q_fieldL _ rfl Fx.fl67_2 rfl rfl) rfl rfl rfl rfl rfl ?_
                        refine SeqK.rOn (b_load (r := .a _) rfl Fx.ty2 rfl rfl rfl rfl rfl rfl) rfl rfl rfl ?_
                        refine SeqK.on (q_fieldL _ rfl Fx.fl67_3 rfl rfl) rfl rfl rfl rfl rfl ?_
                        refine SeqK.rOn (b_load (r := .a _) rfl Fx.ty2 rfl rfl rfl rfl rfl rfl) rfl rfl rfl ?_
                        refine SeqK.on (q_gtr rfl rfl rfl) rfl rfl rfl rfl rfl ?_
                        refine SeqK.q (q_pkF rfl rfl rfl) rfl rfl rfl ?_
                        refine SeqK.qD (q_mvC rfl rfl) rfl rfl rfl (fun g93 => ?_) (fun g93 => ?_)
                        ·
                          refine SeqK.off rfl rfl rfl rfl rfl rfl ?_
                          refine SeqK.off rfl rfl rfl rfl rfl rfl ?_
                          refine SeqK.off rfl rfl rfl rfl rfl rfl ?_
                          refine SeqK.off rfl rfl rfl rfl rfl rfl ?_
                          refine SeqK.off rfl rfl rfl rfl rfl rfl ?_
                          refine SeqK.q (q_pkT rfl rfl rfl) rfl rfl rfl ?_
                          refine SeqK.nil ?_
                          refine AW.condT rfl ?_
                          refine AW.seq ?_
                          refine AW.reg ?_
                          refine SeqK.q (q_asC rfl rfl) rfl rfl rfl ?_
                          refine SeqK.nil ?_
                          refine AW.ret ?_
                          exact fin_x (x := .c _) H (.tmp rfl .nil) rfl (fun _ _ h => h) ⟨by
                            have : bad1 b.ss[k] = true := by clear hpre; grind [bad1, texts]
                            rw [goodB_bad hkb this], rfl⟩
                        ·
                          refine SeqK.on (q_fieldL _ rfl Fx.fl67_4 rfl rfl) rfl rfl rfl rfl rfl ?_
                          refine SeqK.rOn (b_load (r := .a _) rfl Fx.ty9 rfl rfl rfl rfl rfl rfl) rfl rfl rfl ?_
                          refine SeqK.on (q_fieldL _ rfl Fx.fl67_5 rfl rfl) rfl rfl rfl rfl rfl ?_
                          refine SeqK.rOn (b_load (r := .a _) rfl Fx.ty9 rfl rfl rfl rfl rfl rfl) rfl rfl rfl ?_
                          refine SeqK.on (q_gtrS rfl rfl rfl) rfl rfl rfl rfl rfl ?_
                          refine SeqK.q (q_pkF rfl rfl rfl) rfl rfl rfl ?_
                          refine SeqK.nil ?_
                          refine AW.cond _ rfl (fun h99 => ?_) (fun h99 => ?_)
                          ·
                            refine AW.seq ?_
                            refine AW.reg ?_
                            refine SeqK.q (q_asC rfl rfl) rfl rfl rfl ?_
                            refine SeqK.nil ?_
                            refine AW.ret ?_
                            exact fin_x (x := .c _) H (.tmp rfl .nil) rfl (fun _ _ h => h) ⟨by
                              have : bad1 b.ss[k] = true := by clear hpre; grind [bad1, texts]
                              rw [goodB_bad hkb this], rfl⟩
                          ·
                            refine AW.skip ?_
                            refine AW.reg ?_
                            refine SeqK.q (q_add _ rfl rfl rfl (w64 (by omega) (by omega))) rfl rfl rfl ?_
                            refine SeqK.q (q_mvC rfl rfl) rfl rfl rfl ?_
                            refine SeqK.nil ?_
                            exact ⟨k + 1, _, Wk.keep 101 [(1, .lp 1 0), (2, bX false), (21, .c (.a (.t (.sl z 6 (b.ss.map sdT))))), (22, iX .i64 ((b.ss.map sdT).length : Nat)), (23, iX .i64 (((k + 1) : Nat) : Int))] [(1, .box [.t (.v (.int .i64 b.tb)), .t (.sl z 6 (b.ss.map sdT))])] (H) rfl ⟨rfl, rfl, rfl, rfl, rfl, trivial⟩ ⟨rfl, trivial⟩ (fun _ _ h => h) rfl, by omega, ⟨by omega, fun j hj h9 => by
                              rcases Nat.lt_or_ge j k with h | h
                              · exact hpre j hj h
                              · obtain rfl : j = k := by omega
                                clear hpre; grind [bad1, texts]⟩, rfl⟩
                    ·
                      refine SeqK.off rfl rfl rfl rfl rfl rfl ?_
                      refine SeqK.off rfl rfl rfl rfl rfl rfl ?_
                      refine SeqK.off rfl rfl rfl rfl rfl rfl ?_
                      refine SeqK.on (q_pkF rfl rfl rfl) rfl rfl rfl rfl rfl ?_
                      refine SeqK.q (q_pkF rfl rfl rfl) rfl rfl rfl ?_
                      refine SeqK.q (q_mvC rfl rfl) rfl rfl rfl ?_
                      refine SeqK.on (q_fieldL _ rfl Fx.fl67_2 rfl rfl) rfl rfl rfl rfl rfl ?_
                      refine SeqK.rOn (b_load (r := .a _) rfl Fx.ty2 rfl rfl rfl rfl rfl rfl) rfl rfl rfl ?_
                      refine SeqK.on (q_fieldL _ rfl Fx.fl67_3 rfl rfl) rfl rfl rfl rfl rfl ?_
                      refine SeqK.rOn (b_load (r := .a _) rfl Fx.ty2 rfl rfl rfl rfl rfl rfl) rfl rfl rfl ?_
                      refine SeqK.on (q_gtr rfl rfl rfl) rfl rfl rfl rfl rfl ?_
                      refine SeqK.q (q_pkF rfl rfl rfl) rfl rfl rfl ?_
                      refine SeqK.qD (q_mvC rfl rfl) rfl rfl rfl (fun g93 => ?_) (fun g93 => ?_)
                      ·
                        refine SeqK.off rfl rfl rfl rfl rfl rfl ?_
                        refine SeqK.off rfl rfl rfl rfl rfl rfl ?_
                        refine SeqK.off rfl rfl rfl rfl rfl rfl ?_
                        refine SeqK.off rfl rfl rfl rfl rfl rfl ?_
                        refine SeqK.off rfl rfl rfl rfl rfl rfl ?_
                        refine SeqK.q (q_pkT rfl rfl rfl) rfl rfl rfl ?_
                        refine SeqK.nil ?_
                        refine AW.condT rfl ?_
                        refine AW.seq ?_
                        refine AW.reg ?_
                        refine SeqK.q (q_asC rfl rfl) rfl rfl rfl ?_
                        refine SeqK.nil ?_
                        refine AW.ret ?_
                        exact fin_x (x := .c _) H (.tmp rfl .nil) rfl (fun _ _ h => h) ⟨by
                          have : bad1 b.ss[k] = true := by clear hpre; grind [bad1, texts]
                          rw [goodB_bad hkb this], rfl⟩
                      ·
                        refine SeqK.on (q_fieldL _ rfl Fx.fl67_4 rfl rfl) rfl rfl rfl rfl rfl ?_
                        refine SeqK.rOn (b_load (r := .a _) rfl Fx.ty9 rfl rfl rfl rfl rfl rfl) rfl rfl rfl ?_
                        refine SeqK.on (q_fieldL _ rfl Fx.fl67_5 rfl rfl) rfl rfl rfl rfl rfl ?_
                        refine SeqK.rOn (b_load (r := .a _) rfl Fx.ty9 rfl rfl rfl rfl rfl rfl) rfl rfl rfl ?_
                        refine SeqK.on (q_gtrS rfl rfl rfl) rfl rfl rfl rfl rfl ?_
                        refine SeqK.q (q_pkF rfl rfl rfl) rfl rfl rfl ?_
                        refine SeqK.nil ?_
                        refine AW.cond _ rfl (fun h99 => ?_) (fun h99 => ?_)
                        ·
                          refine AW.seq ?_
                          refine AW.reg ?_
                          refine SeqK.q (q_asC rfl rfl) rfl rfl rfl ?_
                          refine SeqK.nil ?_
                          refine AW.ret ?_
                          exact fin_x (x := .c _) H (.tmp rfl .nil) rfl (fun _ _ h => h) ⟨by
                            have : bad1 b.ss[k] = true := by clear hpre; grind [bad1, texts]
                            rw [goodB_bad hkb this], rfl⟩
                        ·
                          refine AW.skip ?_
                          refine AW.reg ?_
                          refine SeqK.q (q_add _ rfl rfl rfl (w64 (by omega) (by omega))) rfl rfl rfl ?_
                          refine SeqK.q (q_mvC rfl rfl) rfl rfl rfl ?_
                          refine SeqK.nil ?_
                          exact ⟨k + 1, _, Wk.keep 101 [(1, .lp 1 0), (2, bX false), (21, .c (.a (.t (.sl z 6 (b.ss.map sdT))))), (22, iX .i64 ((b.ss.map sdT).length : Nat)), (23, iX .i64 (((k + 1) : Nat) : Int))] [(1, .box [.t (.v (.int .i64 b.tb)), .t (.sl z 6 (b.ss.map sdT))])] (H) rfl ⟨rfl, rfl, rfl, rfl, rfl, trivial⟩ ⟨rfl, trivial⟩ (fun _ _ h => h) rfl, by omega, ⟨by omega, fun j hj h9 => by
                            rcases Nat.lt_or_ge j k with h | h
                            · exact hpre j hj h
                            · obtain rfl : j = k := by omega
                              clear hpre; grind [bad1, texts]⟩, rfl⟩
        ·
          refine AW.exit ?_
          refine eth_e ?_
          refine eth_e ?_
          refine exit_here ?_
          refine AW.seq ?_
          refine AW.reg ?_
          refine SeqK.q (q_asC rfl rfl) rfl rfl rfl ?_
          refine SeqK.nil ?_
          refine AW.ret ?_
          exact fin_x (x := .c _) H (.tmp rfl .nil) rfl (fun _ _ h => h) ⟨by
            have : k = b.ss.length := by simp at h24; omega
            rw [goodB_ok h4 ht0 ht3 fun j hj => hpre j hj (by omega)], rfl⟩

end Go.Proofs.Ytojkjiakkcgfcaa.W
